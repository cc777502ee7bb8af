/- The law LexStripped: its walk and its statement: LA0, LA1, LC0, LD0, LD1, LD2, LD4, Q9, Q10, Q11, Q12, LE0, LG0, LZ15. -/
import Derived.Test.YtagcfgoofiibfaaGreatDoorG40
import Derived.Test.YtagcfgoofiibfaaGreatDoorG36
import Derived.Test.YtagcfgoofiibfaaGreatDoorG37
import Derived.Shelf.Strings.SlTrimAscii
import Derived.Test.YtagcfgoofiibfaaGreatDoorLexStrippedF
set_option linter.unusedVariables false
set_option linter.unusedSimpArgs false
namespace Go.Proofs.YtagcfgoofiibfaaGreatDoor
open Go Go.RowKit

theorem c60 (l c b : Int) (hl0 : 1 ≤ l) (hl : l ≤ 1099511627776) (hc0 : 1 ≤ c) (hc : c ≤ 1099511627776) (w : World) :
    Calls Tryz.prog 60 #[.int .i64 l, .int .i64 c, .int .u8 b] w fun e w' => e = .returned (.tuple #[.int .i64 (nxt l c b).1, .int .i64 (nxt l c b).2]) ∧ w' = w := by
  rcases h1 : (b == 10) with _ | _
  · rcases h2 : (b == 9) with _ | _
    · go_enter Tryz.func60, Tryz.ntmps60
      go_wp2
      refine bodyPost_ret (v := .tuple #[.int .i64 l, .int .i64 (c + 1)]) (by simp [results, Tryz.results60, go_sem]) rfl ⟨?_, rfl⟩
      simp at h1 h2; simp [nxt, h1, h2]
    · go_enter Tryz.func60, Tryz.ntmps60
      go_wp2
      refine bodyPost_ret (v := .tuple #[.int .i64 l, .int .i64 ((c - 1) / 8 * 8 + 8 + 1)]) (by simp [results, Tryz.results60, go_sem]) rfl ⟨?_, rfl⟩
      simp at h2; simp [nxt, h2]
  · go_enter Tryz.func60, Tryz.ntmps60
    go_wp2
    refine bodyPost_ret (v := .tuple #[.int .i64 (l + 1), .int .i64 1]) (by simp [results, Tryz.results60, go_sem]) rfl ⟨?_, rfl⟩
    simp at h1; simp [nxt, h1]

theorem c60pos (s : ByteArray) (k : Nat) (hk : k < s.size) (hsz : s.size ≤ 1073741824) (w : World) :
    Calls Tryz.prog 60 #[.int .i64 (pos s k).1, .int .i64 (pos s k).2, .int .u8 ((s[k]'hk).toNat : Int)] w fun e w' => e = .returned (.tuple #[.int .i64 (pos s (k + 1)).1, .int .i64 (pos s (k + 1)).2]) ∧ w' = w := by
  obtain ⟨h1, h2, h3, h4⟩ := pos_bd s k
  have h := c60 (pos s k).1 (pos s k).2 (bt s k) h1 (by omega) h3 (by omega) w
  rw [bt_get s k hk]
  exact h

set_option maxRecDepth 100000 in
set_option maxHeartbeats 1600000 in
theorem c19 (s : ByteArray) (at_ : Int) (w : World) (hsz : s.size ≤ 1073741824) : Calls Tryz.prog 19 #[.string s, .int .i64 at_] w fun e w' => (if 0 ≤ at_ ∧ at_ ≤ s.size then e = .returned (.tuple #[.int .i64 (pos s at_.toNat).1, .int .i64 (pos s at_.toNat).2, .int .i64 0]) else e = .returned (.tuple #[.int .i64 0, .int .i64 0, .int .i64 1])) ∧ w' = w := by
  by_cases h0 : at_ < 0
  · have hf : (0 ≤ at_ ∧ at_ ≤ s.size) = False := eq_false (by omega)
    simp only [hf, if_false]
    go_enter Tryz.func19, Tryz.ntmps19
    go_wp2
    exact bodyPost_ret (v := .tuple #[.int .i64 0, .int .i64 0, .int .i64 1]) (by simp [results, Tryz.results19, go_sem]) rfl ⟨rfl, rfl⟩
  · by_cases h1 : at_ > (s.size : Int)
    · have hf : (0 ≤ at_ ∧ at_ ≤ s.size) = False := eq_false (by omega)
      simp only [hf, if_false]
      go_enter Tryz.func19, Tryz.ntmps19
      go_wp2
      exact bodyPost_ret (v := .tuple #[.int .i64 0, .int .i64 0, .int .i64 1]) (by simp [results, Tryz.results19, go_sem]) rfl ⟨rfl, rfl⟩
    · have hf : (0 ≤ at_ ∧ at_ ≤ s.size) = True := eq_true (by omega)
      simp only [hf, if_true]
      clear hf
      obtain ⟨n, rfl⟩ : ∃ n : Nat, at_ = (n : Int) := ⟨at_.toNat, by omega⟩
      have hn : n ≤ s.size := by omega
      rw [show (n : Int).toNat = n from rfl]
      go_enter Tryz.func19, Tryz.ntmps19
      go_wp2
      go_loopw [7, 8, 9] (fun s7 s8 s9 wr => ∃ k : Nat, k ≤ n ∧ s7 = .int .i64 (pos s k).1 ∧ s8 = .int .i64 (pos s k).2 ∧ s9 = .int .i64 (k : Int) ∧ wr = w) (fun _ _ s9 _ => n - (intOf s9).toNat)
      case atStart => exact ⟨0, Nat.zero_le _, rfl, rfl, rfl, rfl⟩
      case round =>
        obtain ⟨k, hk, rfl, rfl, rfl, rfl⟩ := hrel
        by_cases hlt : k < n
        · have hltz : (k : Int) < (n : Int) := by omega
          have hks : k < s.size := by omega
          have hksz : (k : Int) < (s.size : Int) := by omega
          have hw : wrap64 ((k : Int) + 1) = ((k + 1 : Nat) : Int) := by unfold wrap64; omega
          have CC := Lib.hid (c60pos s k hks hsz wr)
          have HX := Lib.hid (And.intro hlt hw)
          clear hw hsz hk hn h0 h1
          go_wp2_with (go_at_call 60; ((with_reducible refine CC.out.mono ?_); rintro e w' ⟨rfl, rfl⟩))
          rw [HX.out.2]
          have hl := HX.out.1
          refine ⟨⟨k + 1, hl, rfl, rfl, rfl, by first | rfl | trivial⟩, ?_⟩
          show n - (((k + 1 : Nat) : Int)).toNat < n - ((k : Int)).toNat
          omega
        · have hltz : ¬ ((k : Int) < (n : Int)) := by omega
          obtain rfl : k = n := by omega
          go_wp2
          exact bodyPost_ret (v := .tuple #[.int .i64 (pos s k).1, .int .i64 (pos s k).2, .int .i64 0]) (by simp [results, Tryz.results19, go_sem]) rfl ⟨rfl, rfl⟩

/-- Byte's answer -/
def bytV (s : ByteArray) (l c : Int) : Value := match byteF s l c with | some i => .tuple #[.int .i64 (i : Int), .int .i64 0] | none => .tuple #[.int .i64 0, .int .i64 3]
theorem bytV_some {s : ByteArray} {l c : Int} {i : Nat} (h : byteF s l c = some i) : bytV s l c = .tuple #[.int .i64 (i : Int), .int .i64 0] := by unfold bytV; rw [h]
theorem bytV_none {s : ByteArray} {l c : Int} (h : byteF s l c = none) : bytV s l c = .tuple #[.int .i64 0, .int .i64 3] := by unfold bytV; rw [h]

set_option maxRecDepth 100000 in
set_option maxHeartbeats 1600000 in
theorem c21 (s : ByteArray) (l c : Int) (w : World) (hsz : s.size ≤ 1073741824) : Calls Tryz.prog 21 #[.string s, .int .i64 l, .int .i64 c] w fun e w' => e = .returned (bytV s l c) ∧ w' = w := by
  go_enter Tryz.func21, Tryz.ntmps21
  go_wp2
  go_loopw [8, 9, 10] (fun s8 s9 s10 wr => ∃ k : Nat, k ≤ s.size + 1 ∧ (∀ j, j < k → pos s j ≠ (l, c)) ∧ (k ≤ s.size → s8 = .int .i64 (pos s k).1 ∧ s9 = .int .i64 (pos s k).2) ∧ s10 = .int .i64 (k : Int) ∧ wr = w) (fun _ _ s10 _ => s.size + 1 - (intOf s10).toNat)
  case atStart => exact ⟨0, Nat.zero_le _, fun j hj => absurd hj (Nat.not_lt_zero _), fun _ => ⟨rfl, rfl⟩, rfl, rfl⟩
  case round =>
    obtain ⟨k, hk, hno, hp, rfl, rfl⟩ := hrel
    by_cases hle : k ≤ s.size
    · obtain ⟨rfl, rfl⟩ := hp hle
      have hlez : (k : Int) ≤ (s.size : Int) := by omega
      have hw : wrap64 ((k : Int) + 1) = ((k + 1 : Nat) : Int) := by unfold wrap64; omega
      by_cases he : pos s k = (l, c)
      · have e1 : ((pos s k).1 == l) = true := by rw [he]; simp
        have e2 : ((pos s k).2 == c) = true := by rw [he]; simp
        have hb := byteF_some s l c k hle he
        have HB := Lib.hid hb
        clear hb hno hp
        go_wp2
        rw [bytV_some HB.out]
        exact bodyPost_ret (v := .tuple #[.int .i64 (k : Int), .int .i64 0]) (by simp [results, Tryz.results21, go_sem]) rfl ⟨rfl, rfl⟩
      · have e12 : ((pos s k).1 == l) = false ∨ ((pos s k).1 == l) = true ∧ ((pos s k).2 == c) = false := by
          by_cases h : (pos s k).1 = l
          · refine .inr ⟨by simpa using h, ?_⟩
            have : (pos s k).2 ≠ c := fun h2 => he (Prod.ext h h2)
            simpa using this
          · exact .inl (by simpa using h)
        have HNO : Hid (∀ j, j < k + 1 → pos s j ≠ (l, c)) := Lib.hid fun j hj => by
          rcases Nat.lt_or_ge j k with h | h
          · exact hno j h
          · obtain rfl : j = k := by omega
            exact he
        clear hno he hp
        have HX := Lib.hid (And.intro hle hw)
        clear hw
        by_cases hlt : k < s.size
        · have hltz : (k : Int) < (s.size : Int) := by omega
          have CC := Lib.hid (c60pos s k hlt hsz wr)
          have HL := Lib.hid hlt
          clear hsz hk hle
          rcases e12 with e1 | ⟨e1, e2⟩
          · go_wp2_with (go_at_call 60; ((with_reducible refine CC.out.mono ?_); rintro e w' ⟨rfl, rfl⟩))
            rw [HX.out.2]
            have hl := HL.out
            refine ⟨⟨k + 1, by omega, HNO.out, fun _ => ⟨rfl, rfl⟩, rfl, by first | rfl | trivial⟩, ?_⟩
            show s.size + 1 - (((k + 1 : Nat) : Int)).toNat < s.size + 1 - ((k : Int)).toNat
            omega
          · go_wp2_with (go_at_call 60; ((with_reducible refine CC.out.mono ?_); rintro e w' ⟨rfl, rfl⟩))
            rw [HX.out.2]
            have hl := HL.out
            refine ⟨⟨k + 1, by omega, HNO.out, fun _ => ⟨rfl, rfl⟩, rfl, by first | rfl | trivial⟩, ?_⟩
            show s.size + 1 - (((k + 1 : Nat) : Int)).toNat < s.size + 1 - ((k : Int)).toNat
            omega
        · have hltz : ¬ ((k : Int) < (s.size : Int)) := by omega
          have HKS := Lib.hid (show k = s.size by omega)
          clear hsz hk hle
          rcases e12 with e1 | ⟨e1, e2⟩
          · go_wp2
            rw [HX.out.2]
            have hks := HKS.out
            refine ⟨⟨k + 1, by omega, HNO.out, fun h => absurd h (by omega), rfl, by first | rfl | trivial⟩, ?_⟩
            show s.size + 1 - (((k + 1 : Nat) : Int)).toNat < s.size + 1 - ((k : Int)).toNat
            omega
          · go_wp2
            rw [HX.out.2]
            have hks := HKS.out
            refine ⟨⟨k + 1, by omega, HNO.out, fun h => absurd h (by omega), rfl, by first | rfl | trivial⟩, ?_⟩
            show s.size + 1 - (((k + 1 : Nat) : Int)).toNat < s.size + 1 - ((k : Int)).toNat
            omega
    · have hlez : ¬ ((k : Int) ≤ (s.size : Int)) := by omega
      have hb := byteF_none s l c (fun i hi => hno i (by omega))
      clear hp hno
      go_wp2
      rw [bytV_none hb]
      exact bodyPost_ret (v := .tuple #[.int .i64 0, .int .i64 3]) (by simp [results, Tryz.results21, go_sem]) rfl ⟨rfl, rfl⟩
end Go.Proofs.YtagcfgoofiibfaaGreatDoor
namespace Go.Proofs.YtagcfgoofiibfaaGreatDoor
open Go Go.RowKit

theorem c17 (s : ByteArray) (w : World) : Calls Tryz.prog 17 #[.string s] w fun e w' => e = .returned (.bool (decide (s.size ≤ 3000))) ∧ w' = w := by
  by_cases h : s.size ≤ 3000
  · have hz : (s.size : Int) ≤ 3000 := by omega
    rw [decide_eq_true h]
    go_enter Tryz.func17, Tryz.ntmps17
    go_wp2
    go_ret
    exact ⟨rfl, rfl⟩
  · have hz : ¬ ((s.size : Int) ≤ 3000) := by omega
    rw [decide_eq_false h]
    go_enter Tryz.func17, Tryz.ntmps17
    go_wp2
    go_ret
    exact ⟨rfl, rfl⟩

/-- both Locates, one answer -/
theorem locate_both (s : ByteArray) (at_ : Int) (hsz : s.size ≤ 1073741824) : ∃ x y z : Int,
    (∀ w, Calls Tryz.prog 18 #[.string s, .int .i64 at_] w fun e w' => e = .returned (.tuple #[.int .i64 x, .int .i64 y, .int .i64 z]) ∧ Below w.heap.size w w') ∧
    (∀ w, Calls Tryz.prog 19 #[.string s, .int .i64 at_] w fun e w' => e = .returned (.tuple #[.int .i64 x, .int .i64 y, .int .i64 z]) ∧ w' = w) := by
  by_cases h : 0 ≤ at_ ∧ at_ ≤ s.size
  · refine ⟨(pos s at_.toNat).1, (pos s at_.toNat).2, 0, fun w => (c18 s at_ w hsz).mono ?_, fun w => (c19 s at_ w hsz).mono ?_⟩
    · rintro e w' ⟨h1, h2⟩
      rw [if_pos h] at h1
      exact ⟨h1, h2⟩
    · rintro e w' ⟨h1, h2⟩
      rw [if_pos h] at h1
      exact ⟨h1, h2⟩
  · refine ⟨0, 0, 1, fun w => (c18 s at_ w hsz).mono ?_, fun w => (c19 s at_ w hsz).mono ?_⟩
    · rintro e w' ⟨h1, h2⟩
      rw [if_neg h] at h1
      exact ⟨h1, h2⟩
    · rintro e w' ⟨h1, h2⟩
      rw [if_neg h] at h1
      exact ⟨h1, h2⟩
theorem byte_both (s : ByteArray) (l c : Int) (hsz : s.size ≤ 1073741824) : ∃ x y : Int,
    (∀ w, Calls Tryz.prog 20 #[.string s, .int .i64 l, .int .i64 c] w fun e w' => e = .returned (.tuple #[.int .i64 x, .int .i64 y]) ∧ Below w.heap.size w w') ∧
    (∀ w, Calls Tryz.prog 21 #[.string s, .int .i64 l, .int .i64 c] w fun e w' => e = .returned (.tuple #[.int .i64 x, .int .i64 y]) ∧ w' = w) := by
  rcases hb : byteF s l c with _ | i
  · refine ⟨0, 3, fun w => (c20 s l c w hsz).mono ?_, fun w => (c21 s l c w hsz).mono ?_⟩
    · rintro e w' h
      unfold bytTo at h
      rw [hb] at h
      exact h
    · rintro e w' h
      rw [bytV_none hb] at h
      exact h
  · refine ⟨i, 0, fun w => (c20 s l c w hsz).mono ?_, fun w => (c21 s l c w hsz).mono ?_⟩
    · rintro e w' h
      unfold bytTo at h
      rw [hb] at h
      exact h
    · rintro e w' h
      rw [bytV_some hb] at h
      exact h

set_option maxRecDepth 100000 in
set_option maxHeartbeats 1600000 in
theorem c3 (s : ByteArray) (at_ l c : Int) (w : World) (hT : TI w) : Calls Tryz.prog 3 #[.string s, .int .i64 at_, .int .i64 l, .int .i64 c] w fun e w' => e = .returned (.bool true) ∧ Below w.heap.size w w' := by
  have h17 := c17 s
  have HT := Lib.hid hT
  clear hT
  rcases hsh : decide (s.size ≤ 3000) with _ | _
  · rw [hsh] at h17
    have H17 := Lib.hid h17
    clear h17 hsh
    go_enter Tryz.func3, Tryz.ntmps3
    go_wp2_with (first | (go_at_call 16; ((with_reducible refine (c16 _ HT.out).mono ?_); rintro e w' ⟨rfl, hb⟩; have HB := Lib.hid hb; clear hb)) | (go_at_call 17; ((with_reducible refine (H17.out _).mono ?_); rintro e w' ⟨rfl, rfl⟩)))
    go_ret
    exact ⟨rfl, HB.out⟩
  · have hsz : s.size ≤ 1073741824 := by have := of_decide_eq_true hsh; omega
    rw [hsh] at h17
    have H17 := Lib.hid h17
    obtain ⟨x, y, z, h18, h19⟩ := locate_both s at_ hsz
    obtain ⟨p, q, h20, h21⟩ := byte_both s l c hsz
    have H18 := Lib.hid h18
    have H19 := Lib.hid h19
    have H20 := Lib.hid h20
    have H21 := Lib.hid h21
    clear h17 hsh hsz h18 h19 h20 h21
    go_enter Tryz.func3, Tryz.ntmps3
    go_wp2_with (first | (go_at_call 16; ((with_reducible refine (c16 _ HT.out).mono ?_); rintro e w' ⟨rfl, hb⟩; have HB := Lib.hid hb; clear hb)) | (go_at_call 17; ((with_reducible refine (H17.out _).mono ?_); rintro e w' ⟨rfl, rfl⟩)) | (go_at_call 18; ((with_reducible refine (H18.out _).mono ?_); rintro e w' ⟨rfl, hb⟩; have hB := HB.out.trans (hb.mono HB.out.size); clear HB hb; have HB := Lib.hid hB; clear hB)) | (go_at_call 19; ((with_reducible refine (H19.out _).mono ?_); rintro e w' ⟨rfl, rfl⟩)) | (go_at_call 20; ((with_reducible refine (H20.out _).mono ?_); rintro e w' ⟨rfl, hb⟩; have hB := HB.out.trans (hb.mono HB.out.size); clear HB hb; have HB := Lib.hid hB; clear hB)) | (go_at_call 21; ((with_reducible refine (H21.out _).mono ?_); rintro e w' ⟨rfl, rfl⟩)))
    go_ret
    exact ⟨rfl, HB.out⟩
end Go.Proofs.YtagcfgoofiibfaaGreatDoor
namespace Go.Proofs.YtagcfgoofiibfaaGreatDoor
open Go Go.RowKit

theorem item_err (s : ByteArray) (i : Nat) (e : Int) (h : item s i = .bad e) : 20 ≤ e := by
  unfold item at h
  split at h
  · cases h
  · split at h
    · split at h
      · injection h with h; omega
      · cases h
    · split at h
      · cases h
      · injection h with h
        subst h
        rename_i h
        exact (tokF_err s i _ h).1
/-- what LexErrors says, in plain words -/
theorem errors_plain (s m : ByteArray) (hs : s.size ≤ 3000) (hm : m.size ≤ 3000) (a : Nat) (e : Int) (h : tokens s = .error (a, e)) :
    20 ≤ e ∧ a < s.size ∧ (∃ ts, tokens (s.extract 0 a) = .ok ts) ∧ (e ≠ 22 → tokens (s ++ ⟨#[10]⟩ ++ m) = .error (a, e)) := by
  rw [tokens_err_iff s (by omega)] at h
  obtain ⟨_, h2, _, h4⟩ := h.pt
  have hx := size_ext s 0 a (by omega)
  refine ⟨item_err s a e h4, h2, ?_, fun he => ?_⟩
  · obtain ⟨ps, ys, h5⟩ := err_prefix h
    exact ⟨_, (tokens_ok_iff _ (by rw [hx]; omega) _).2 ⟨ps, ys, h5, rfl⟩⟩
  · rw [tokens_err_iff _ (by rw [ByteArray.size_append, ByteArray.size_append]; show s.size + 1 + m.size ≤ 20000; omega)]
    exact err_more h he m

theorem tok_err_call {r : Nat × Int} (s : ByteArray) (h : tokens s = .error r) (w : World) (hT : TI w) : Calls Tryz.prog 24 #[.string s] w fun e w' => e = .returned (.tuple #[.slice none 0 0, .int .i64 (r.1 : Int), .int .i64 r.2]) ∧ Below w.heap.size w w' := by
  have := H24 s w hT
  rw [h] at this
  exact this
theorem tok_ok_call {ts : List Tk} (s : ByteArray) (h : tokens s = .ok ts) (w : World) (hT : TI w) : Calls Tryz.prog 24 #[.string s] w fun e w' => (∃ a cp, e = .returned (.tuple #[.slice a ts.length cp, .int .i64 0, .int .i64 0]) ∧ TokRow w' (.slice a ts.length cp) ts) ∧ Below w.heap.size w w' := by
  refine (H24 s w hT).mono ?_
  rw [h]
  rintro e w' ⟨⟨v, rfl, hr⟩, hb⟩
  obtain ⟨a, cp, rfl, _⟩ := hr.shape
  exact ⟨⟨a, cp, rfl, hr⟩, hb⟩
/-- Tokens, whatever it answers -/
theorem tok_any_call (s : ByteArray) : ∃ (p q : Int), ∀ (w : World), TI w → Calls Tryz.prog 24 #[.string s] w fun e w' => (∃ a n cp, e = .returned (.tuple #[.slice a n cp, .int .i64 p, .int .i64 q])) ∧ Below w.heap.size w w' := by
  rcases h : tokens s with ⟨a, e⟩ | ts
  · exact ⟨a, e, fun w hT => (tok_err_call s h w hT).mono fun e w' hh => ⟨⟨_, _, _, hh.1⟩, hh.2⟩⟩
  · exact ⟨0, 0, fun w hT => (tok_ok_call s h w hT).mono fun e w' hh => ⟨by obtain ⟨a, cp, h1, _⟩ := hh.1; exact ⟨_, _, _, h1⟩, hh.2⟩⟩

set_option maxRecDepth 100000 in
set_option maxHeartbeats 1600000 in
theorem c7 (s m : ByteArray) (w : World) (hT : TI w) : Calls Tryz.prog 7 #[.string s, .string m] w fun e w' => e = .returned (.bool true) ∧ Below w.heap.size w w' := by
  have h17 := c17 s
  have k17 := c17 m
  have HT := Lib.hid hT
  clear hT
  rcases hsh : decide (s.size ≤ 3000) with _ | _
  · rw [hsh] at h17
    have H17 := Lib.hid h17
    clear h17 hsh k17
    go_enter Tryz.func7, Tryz.ntmps7
    go_wp2_with (first | (go_at_call 16; ((with_reducible refine (c16 _ HT.out).mono ?_); rintro e w' ⟨rfl, hb⟩; have HB := Lib.hid hb; clear hb)) | (go_at_call 17; ((with_reducible refine (H17.out _).mono ?_); rintro e w' ⟨rfl, rfl⟩)))
    go_ret
    exact ⟨rfl, HB.out⟩
  rcases hmh : decide (m.size ≤ 3000) with _ | _
  · rw [hsh] at h17
    rw [hmh] at k17
    have H17 := Lib.hid h17
    have K17 := Lib.hid k17
    clear h17 hsh k17 hmh
    go_enter Tryz.func7, Tryz.ntmps7
    go_wp2_with (first | (go_at_call 16; ((with_reducible refine (c16 _ HT.out).mono ?_); rintro e w' ⟨rfl, hb⟩; have HB := Lib.hid hb; clear hb)) | (go_at_call 17; ((with_reducible refine (H17.out _).mono ?_); rintro e w' ⟨rfl, rfl⟩)) | (go_at_call 17; ((with_reducible refine (K17.out _).mono ?_); rintro e w' ⟨rfl, rfl⟩)))
    go_ret
    exact ⟨rfl, HB.out⟩
  have hs := of_decide_eq_true hsh
  have hm := of_decide_eq_true hmh
  rw [hsh] at h17
  rw [hmh] at k17
  have H17 := Lib.hid h17
  have K17 := Lib.hid k17
  clear h17 hsh k17 hmh
  rcases htok : tokens s with ⟨a, er⟩ | ts
  · obtain ⟨he, ha, ⟨ts, hp⟩, hq⟩ := errors_plain s m hs hm a er htok
    have C1 := Lib.hid (tok_err_call s htok)
    have C2 := Lib.hid (tok_ok_call (s.extract 0 a) hp)
    have e0 : (er == 0) = false := by simp; omega
    have haz : ¬ ((a : Int) < 0) := by omega
    have haz2 : ¬ ((a : Int) ≥ (s.size : Int)) := by omega
    have w1 : s.size + 1 ≤ 9223372036854775807 := by omega
    have w2 : s.size + 1 + m.size ≤ 9223372036854775807 := by omega
    have haz3 : (a : Int) ≤ (s.size : Int) := by omega
    have HA := Lib.hid ha
    by_cases h22 : er = 22
    · obtain ⟨p, q, h3⟩ := tok_any_call (s ++ ⟨#[10]⟩ ++ m)
      have C3 := Lib.hid h3
      subst h22
      clear htok hp hq he ha hs hm h3
      go_enter Tryz.func7, Tryz.ntmps7
      go_wp2_with (first | (go_at_call 16; ((with_reducible refine (c16 _ HT.out).mono ?_); rintro e w' ⟨rfl, hb⟩; have HB := Lib.hid hb; clear hb)) | (go_at_call 17; ((with_reducible refine (H17.out _).mono ?_); rintro e w' ⟨rfl, rfl⟩)) | (go_at_call 17; ((with_reducible refine (K17.out _).mono ?_); rintro e w' ⟨rfl, rfl⟩)) | (go_at_call 24; ((with_reducible refine (C1.out _ (TI.below HT.out HB.out)).mono ?_); rintro e w' ⟨rfl, hb⟩; have hB := HB.out.trans (hb.mono HB.out.size); clear HB hb; have HB := Lib.hid hB; clear hB)) | (go_at_call 24; ((with_reducible refine (C2.out _ (TI.below HT.out HB.out)).mono ?_); rintro e w' ⟨⟨a2, cp2, rfl, _⟩, hb⟩; have hB := HB.out.trans (hb.mono HB.out.size); clear HB hb; have HB := Lib.hid hB; clear hB)) | (go_at_call 24; ((with_reducible refine (C3.out _ (TI.below HT.out HB.out)).mono ?_); rintro e w' ⟨⟨a3, n3, cp3, rfl⟩, hb⟩; have hB := HB.out.trans (hb.mono HB.out.size); clear HB hb; have HB := Lib.hid hB; clear hB)))
      go_ret
      exact ⟨rfl, HB.out⟩
    · have C3 := Lib.hid (tok_err_call _ (hq h22))
      have e22 : (er == 22) = false := by simpa using h22
      clear htok hp hq he ha hs hm h22
      go_enter Tryz.func7, Tryz.ntmps7
      go_wp2_with (first | (go_at_call 16; ((with_reducible refine (c16 _ HT.out).mono ?_); rintro e w' ⟨rfl, hb⟩; have HB := Lib.hid hb; clear hb)) | (go_at_call 17; ((with_reducible refine (H17.out _).mono ?_); rintro e w' ⟨rfl, rfl⟩)) | (go_at_call 17; ((with_reducible refine (K17.out _).mono ?_); rintro e w' ⟨rfl, rfl⟩)) | (go_at_call 24; ((with_reducible refine (C1.out _ (TI.below HT.out HB.out)).mono ?_); rintro e w' ⟨rfl, hb⟩; have hB := HB.out.trans (hb.mono HB.out.size); clear HB hb; have HB := Lib.hid hB; clear hB)) | (go_at_call 24; ((with_reducible refine (C2.out _ (TI.below HT.out HB.out)).mono ?_); rintro e w' ⟨⟨a2, cp2, rfl, _⟩, hb⟩; have hB := HB.out.trans (hb.mono HB.out.size); clear HB hb; have HB := Lib.hid hB; clear hB)) | (go_at_call 24; ((with_reducible refine (C3.out _ (TI.below HT.out HB.out)).mono ?_); rintro e w' ⟨rfl, hb⟩; have hB := HB.out.trans (hb.mono HB.out.size); clear HB hb; have HB := Lib.hid hB; clear hB)))
      go_ret
      exact ⟨rfl, HB.out⟩
  · have C1 := Lib.hid (tok_ok_call s htok)
    clear hs hm htok
    go_enter Tryz.func7, Tryz.ntmps7
    go_wp2_with (first | (go_at_call 16; ((with_reducible refine (c16 _ HT.out).mono ?_); rintro e w' ⟨rfl, hb⟩; have HB := Lib.hid hb; clear hb)) | (go_at_call 17; ((with_reducible refine (H17.out _).mono ?_); rintro e w' ⟨rfl, rfl⟩)) | (go_at_call 17; ((with_reducible refine (K17.out _).mono ?_); rintro e w' ⟨rfl, rfl⟩)) | (go_at_call 24; ((with_reducible refine (C1.out _ (TI.below HT.out HB.out)).mono ?_); rintro e w' ⟨⟨a2, cp2, rfl, _⟩, hb⟩; have hB := HB.out.trans (hb.mono HB.out.size); clear HB hb; have HB := Lib.hid hB; clear hB)))
    go_ret
    exact ⟨rfl, HB.out⟩
end Go.Proofs.YtagcfgoofiibfaaGreatDoor
namespace Go.Proofs.YtagcfgoofiibfaaGreatDoor
open Go Go.RowKit

theorem likeF_refl (x : Tk) : likeF x x = true := by unfold likeF; simp
theorem likeL_refl : ∀ a : List Tk, likeL a a = true
  | [] => rfl
  | x :: a => by rw [likeL, likeF_refl, likeL_refl a]; rfl

set_option maxRecDepth 100000 in
set_option maxHeartbeats 3200000 in
/-- SameAll at one and the same list -/
theorem c39 (va vb : Value) (a : List Tk) (w : World) (ha : TokSl w va a) (hb : TokSl w vb a) (hd : DLim a) : Calls Tryz.prog 39 #[va, vb] w fun e w' => e = .returned (.bool true) ∧ Below w.heap.size w w' := by
  have h25 := c25 va vb a a w ha hb hd
  rw [likeL_refl] at h25
  have H25 := Lib.hid h25
  clear h25 hd
  by_cases hz : a.length = 0
  · have e1 := List.eq_nil_of_length_eq_zero hz
    subst e1
    obtain ⟨a1, cp1, rfl, _⟩ := ha
    obtain ⟨a2, cp2, rfl, _⟩ := hb
    have h25 := H25.out
    simp only [List.length_nil] at h25 ⊢
    have H26 := Lib.hid h25
    clear hz h25
    go_enter Tryz.func39, Tryz.ntmps39
    go_wp2_with (go_at_call 25; ((with_reducible refine H26.out.mono ?_); rintro e w1 ⟨rfl, hb⟩; have HB1 := Lib.hid hb; clear hb))
    go_loopw [5] (fun s5 wr => s5 = .int .i64 0 ∧ wr = w1) (fun _ _ => 0)
    case atStart => exact ⟨rfl, rfl⟩
    case round =>
      obtain ⟨rfl, rfl⟩ := hrel
      go_wp2
      go_ret
      exact ⟨rfl, HB1.out⟩
  · have hpa : 0 < a.length := by omega
    obtain ⟨_, cp1, rfl, hc1, hm1, hA⟩ := ha
    obtain ⟨_, cp2, rfl, hc2, hm2, hB⟩ := hb
    obtain ⟨g1, o1, rfl, hg1, hA⟩ := hA hpa
    obtain ⟨g2, o2, rfl, hg2, hB⟩ := hB hpa
    have hmx : (maxLen : Nat) = 9223372036854775807 := rfl
    have hn : a.length ≤ 9223372036854775807 := by omega
    have HA := Lib.hid hA
    have HB := Lib.hid hB
    clear hpa hz hA hB hc1 hc2 hm1 hm2 hmx
    go_enter Tryz.func39, Tryz.ntmps39
    go_wp2_with (go_at_call 25; ((with_reducible refine H25.out.mono ?_); rintro e w1 ⟨rfl, hb⟩; have HB1 := Lib.hid hb; clear hb))
    go_loopw [5] (fun s5 wr => ∃ k : Nat, k ≤ a.length ∧ s5 = .int .i64 (k : Int) ∧ Below w.heap.size w wr) (fun s5 _ => a.length - (intOf s5).toNat)
    case atStart => exact ⟨0, Nat.zero_le _, rfl, HB1.out⟩
    case round =>
      obtain ⟨k, hk, rfl, hbl⟩ := hrel
      have HBL := Lib.hid hbl
      clear hbl
      by_cases hlt : k < a.length
      · obtain ⟨x, hx⟩ : ∃ x, a[k]? = some x := ⟨_, List.getElem?_eq_getElem hlt⟩
        obtain ⟨dx, ix, x0, x1, x2, x3, x4, x5, x6, x7⟩ := HA.out k x hx
        obtain ⟨dy, iy, y0, y1, y2, y3, y4, y5, y6, y7⟩ := HB.out k x hx
        have b0 : (0 : Int) ≤ (k : Int) := by omega
        have b1 : (k : Int) < (a.length : Int) := by omega
        have hb2 : k < a.length := hlt
        have KS : Hid (∀ X, Below w.heap.size w X → X.cell? ⟨g1, o1 + k * 8 + 4, none⟩ = some (.int .i64 (x.at_ : Int)) ∧ X.cell? ⟨g1, o1 + k * 8 + 5, none⟩ = some (.int .i64 (x.en : Int)) ∧ X.cell? ⟨g1, o1 + k * 8 + 6, none⟩ = some (.int .i64 x.line) ∧ X.cell? ⟨g1, o1 + k * 8 + 7, none⟩ = some (.int .i64 x.col) ∧ X.cell? ⟨g2, o2 + k * 8 + 4, none⟩ = some (.int .i64 (x.at_ : Int)) ∧ X.cell? ⟨g2, o2 + k * 8 + 5, none⟩ = some (.int .i64 (x.en : Int)) ∧ X.cell? ⟨g2, o2 + k * 8 + 6, none⟩ = some (.int .i64 x.line) ∧ X.cell? ⟨g2, o2 + k * 8 + 7, none⟩ = some (.int .i64 x.col)) := Lib.hid (fun X hX => by
          have hbc : ∀ (g o : Nat) (u : Value), g < w.heap.size → w.cell? ⟨g, o, none⟩ = some u → X.cell? ⟨g, o, none⟩ = some u := fun g o u hg h => (hX.cell (p := ⟨g, o, none⟩) hg).trans h
          exact ⟨hbc _ _ _ hg1 x4, hbc _ _ _ hg1 x5, hbc _ _ _ hg1 x6, hbc _ _ _ hg1 x7, hbc _ _ _ hg2 y4, hbc _ _ _ hg2 y5, hbc _ _ _ hg2 y6, hbc _ _ _ hg2 y7⟩)
        clear ix iy hx x0 x1 x2 x3 x4 x5 x6 x7 y0 y1 y2 y3 y4 y5 y6 y7
        go_wp2
        go_region_held3 (fun w' : World => w'.cell? ⟨g1, o1 + k * 8 + 4, none⟩ = some (.int .i64 (x.at_ : Int)) ∧ w'.cell? ⟨g1, o1 + k * 8 + 5, none⟩ = some (.int .i64 (x.en : Int)) ∧ w'.cell? ⟨g1, o1 + k * 8 + 6, none⟩ = some (.int .i64 x.line) ∧ w'.cell? ⟨g1, o1 + k * 8 + 7, none⟩ = some (.int .i64 x.col) ∧ w'.cell? ⟨g2, o2 + k * 8 + 4, none⟩ = some (.int .i64 (x.at_ : Int)) ∧ w'.cell? ⟨g2, o2 + k * 8 + 5, none⟩ = some (.int .i64 (x.en : Int)) ∧ w'.cell? ⟨g2, o2 + k * 8 + 6, none⟩ = some (.int .i64 x.line) ∧ w'.cell? ⟨g2, o2 + k * 8 + 7, none⟩ = some (.int .i64 x.col)) (first | exact KS.out _ HBL.out | exact KS.out _ HBL.out.drew) (fail)
        go_wp2
        go_roundw
        case rel => exact ⟨k + 1, by omega, by go_num, by first | exact HBL.out | exact HBL.out.drew⟩
        case measure => simp [intOf]; omega
      · have hd : decide (k < a.length) = false := by simpa using hlt
        go_wp2
        go_ret
        exact ⟨rfl, HBL.out⟩
end Go.Proofs.YtagcfgoofiibfaaGreatDoor
namespace Go.Proofs.YtagcfgoofiibfaaGreatDoor
open Go Go.RowKit

theorem line_count (s : ByteArray) : ∀ n, n ≤ s.size → (pos s n).1 = 1 + (((s.data.toList.take n).count 10 : Nat) : Int)
  | 0, _ => rfl
  | n + 1, h => by
    have ih := line_count s n (by omega)
    have hl : n < s.data.toList.length := by rw [Array.length_toList]; exact h
    have hb := bt_get s n h
    have hg : s[n]'h = s.data.toList[n] := rfl
    rw [hg] at hb
    rw [List.take_add_one, List.getElem?_eq_getElem hl, Option.toList_some, List.count_append, List.count_singleton]
    simp only [pos, nxt]
    rw [← hb]
    generalize s.data.toList[n] = x at *
    by_cases hx : x = 10
    · subst hx
      rw [if_pos (by decide), ih]
      simp
      omega
    · have h1 : ¬ ((x.toNat : Int) = 10) := by
        intro e
        apply hx
        apply UInt8.toNat.inj
        show x.toNat = 10
        omega
      have h2 : (x == 10) = false := by simpa using hx
      rw [if_neg h1]
      split
      · simp only [h2]; rw [ih]; simp
      · simp only [h2]; rw [ih]; simp
theorem line_end (s : ByteArray) : (pos s s.size).1 = 1 + ((Lib.countByte s.data.toList 10 : Nat) : Int) := by
  have h := line_count s s.size (Nat.le_refl _)
  rw [List.take_of_length_le (by rw [Array.length_toList]; exact Nat.le_refl _)] at h
  exact h
theorem TokSl.front {w : World} {a : Option Addr} {n cp : Nat} {l q : List Tk} (h : TokSl w (.slice a n cp) (l ++ q)) : TokSl w (.slice a l.length cp) l := by
  obtain ⟨a', cp', e, h1, h2, h3⟩ := h
  injection e with e1 e2 e3
  subst e1 e2 e3
  rw [List.length_append] at h1 h3
  refine ⟨a, cp, rfl, by omega, h2, fun hp => ?_⟩
  obtain ⟨b, o, e, hlt, hc⟩ := h3 (by omega)
  refine ⟨b, o, e, hlt, fun k t ht => hc k t ?_⟩
  rw [List.getElem?_append_left]
  · exact ht
  · rcases Nat.lt_or_ge k l.length with h | h
    · exact h
    · rw [List.getElem?_eq_none h] at ht; cases ht
/-- the cells of the k-th token of a row -/
theorem TokSl.at {w : World} {a : Option Addr} {n cp : Nat} {l : List Tk} (h : TokSl w (.slice a n cp) l) (k : Nat) (hk : k < l.length) : ∃ b o x dv, a = some ⟨b, o, none⟩ ∧ b < w.heap.size ∧ l[k]? = some x ∧ IntsAt w dv x.d ∧ n = l.length ∧ n ≤ cp ∧ cp ≤ maxLen ∧
    w.cell? ⟨b, o + k * 8, none⟩ = some (.int .i64 x.k) ∧ w.cell? ⟨b, o + k * 8 + 1, none⟩ = some (.string x.s) ∧ w.cell? ⟨b, o + k * 8 + 2, none⟩ = some (.bool false) ∧ w.cell? ⟨b, o + k * 8 + 3, none⟩ = some dv ∧
      w.cell? ⟨b, o + k * 8 + 4, none⟩ = some (.int .i64 (x.at_ : Int)) ∧ w.cell? ⟨b, o + k * 8 + 5, none⟩ = some (.int .i64 (x.en : Int)) ∧ w.cell? ⟨b, o + k * 8 + 6, none⟩ = some (.int .i64 x.line) ∧ w.cell? ⟨b, o + k * 8 + 7, none⟩ = some (.int .i64 x.col) := by
  obtain ⟨a', cp', e, h1, h2, h3⟩ := h
  injection e with e1 e2 e3
  subst e1 e2 e3
  obtain ⟨b, o, e, hlt, hc⟩ := h3 (by omega)
  obtain ⟨dv, i, x0, x1, x2, x3, x4, x5, x6, x7⟩ := hc k _ (List.getElem?_eq_getElem hk)
  exact ⟨b, o, _, dv, e, hlt, List.getElem?_eq_getElem hk, i, rfl, h1, h2, x0, x1, x2, x3, x4, x5, x6, x7⟩
end Go.Proofs.YtagcfgoofiibfaaGreatDoor
namespace Go.Proofs.YtagcfgoofiibfaaGreatDoor
open Go Go.RowKit

theorem tokens_pos {s : ByteArray} (hs : s.size ≤ 20000) {q : List Tk} (h : tokens s = .ok q) : ∀ x ∈ q, 1 ≤ x.line ∧ x.line ≤ s.size + 1 ∧ 1 ≤ x.col ∧ x.col ≤ 8 * s.size + 1 ∧ x.at_ < x.en ∧ x.en ≤ s.size := by
  rw [tokens_ok_iff s hs] at h
  obtain ⟨ps, ys, h1, rfl⟩ := h
  intro x hx
  obtain ⟨p, hp, rfl⟩ := List.mem_map.1 hx
  have h2 := h1.bd p hp
  obtain ⟨p1, p2, p3, p4⟩ := pos_bd s p.at_
  refine ⟨?_, ?_, ?_, ?_, ?_, ?_⟩ <;> simp only [placed, Tk.placedAt] <;> omega
theorem like_down (n : Nat) (l : Int) (x : Tk) : likeF (x.down n l) x = true := by
  unfold likeF Tk.down; simp
/-- what the second half of LexTogether reckons with -/
structure TogN (s : ByteArray) (L : Int) (n k : Nat) (x : Tk) : Prop where
  i1 : wrap64 ((n : Int) + (k : Int)) = ((n + k : Nat) : Int)
  l1 : wrap64 (x.line + L) = x.line + L
  a1 : wrap64 ((x.at_ : Int) + (s.size : Int)) = ((x.at_ + s.size : Nat) : Int)
  a2 : wrap64 (((x.at_ + s.size : Nat) : Int) + 1) = ((x.at_ + (s.size + 1) : Nat) : Int)
  e1 : wrap64 ((x.en : Int) + (s.size : Int)) = ((x.en + s.size : Nat) : Int)
  e2 : wrap64 (((x.en + s.size : Nat) : Int) + 1) = ((x.en + (s.size + 1) : Nat) : Int)
  k1 : wrap64 ((k : Int) + 1) = ((k + 1 : Nat) : Int)
theorem togN {s m : ByteArray} {L : Int} {n k : Nat} {x : Tk} (hs : s.size ≤ 3000) (hm : m.size ≤ 3000) (hL : 1 ≤ L ∧ L ≤ s.size + 1) (hx : 1 ≤ x.line ∧ x.line ≤ m.size + 1 ∧ 1 ≤ x.col ∧ x.col ≤ 8 * m.size + 1 ∧ x.at_ < x.en ∧ x.en ≤ m.size) (hn : n + k < 9223372036854775807) : TogN s L n k x := by
  refine ⟨?_, ?_, ?_, ?_, ?_, ?_, ?_⟩ <;> unfold wrap64 <;> omega
end Go.Proofs.YtagcfgoofiibfaaGreatDoor
namespace Go.Proofs.YtagcfgoofiibfaaGreatDoor
open Go Go.RowKit

theorem TokSl.caps {w : World} {a : Option Addr} {n cp : Nat} {ts : List Tk} (h : TokSl w (.slice a n cp) ts) : ts.length ≤ cp ∧ cp ≤ maxLen := by
  obtain ⟨_, _, e, h1, h2, _⟩ := h
  injection e with _ _ e
  subst e
  exact ⟨h1, h2⟩


set_option maxRecDepth 100000 in
set_option maxHeartbeats 3200000 in
/-- LexTogether where its guard lets nothing in -/
theorem c14no (s m : ByteArray) (w : World) (hT : TI w) (hbad : ¬ (s.size ≤ 3000 ∧ m.size ≤ 3000 ∧ (∃ l, tokens s = .ok l) ∧ ∃ q, tokens m = .ok q)) : Calls Tryz.prog 14 #[.string s, .string m] w fun e w' => e = .returned (.bool true) ∧ Below w.heap.size w w' := by
  have h17 := c17 s
  have k17 := c17 m
  have HT := Lib.hid hT
  clear hT
  obtain ⟨p1, q1, h1⟩ := tok_any_call s
  obtain ⟨p2, q2, h2⟩ := tok_any_call m
  have C1 := Lib.hid h1
  have C2 := Lib.hid h2
  clear h1 h2
  by_cases hs : s.size ≤ 3000
  case neg =>
    rw [decide_eq_false hs] at h17
    have H17 := Lib.hid h17
    clear h17 k17 hbad hs
    go_enter Tryz.func14, Tryz.ntmps14
    go_wp2_with (first | (go_at_call 16; ((with_reducible refine (c16 _ HT.out).mono ?_); rintro e w' ⟨rfl, hb⟩; have HB := Lib.hid hb; clear hb)) | (go_at_call 17; ((with_reducible refine (H17.out _).mono ?_); rintro e w' ⟨rfl, rfl⟩)) | (go_at_call 24; ((with_reducible refine (C1.out _ (TI.below HT.out HB.out)).mono ?_); rintro e w' ⟨⟨a, n, cp, rfl⟩, hb⟩; have hB := HB.out.trans (hb.mono HB.out.size); clear HB hb; have HB := Lib.hid hB; clear hB)) | (go_at_call 24; ((with_reducible refine (C2.out _ (TI.below HT.out HB.out)).mono ?_); rintro e w' ⟨⟨a, n, cp, rfl⟩, hb⟩; have hB := HB.out.trans (hb.mono HB.out.size); clear HB hb; have HB := Lib.hid hB; clear hB)))
    go_ret
    exact ⟨rfl, HB.out⟩
  by_cases hm : m.size ≤ 3000
  case neg =>
    rw [decide_eq_true hs] at h17
    rw [decide_eq_false hm] at k17
    have H17 := Lib.hid h17
    have K17 := Lib.hid k17
    clear h17 k17 hbad hs hm
    go_enter Tryz.func14, Tryz.ntmps14
    go_wp2_with (first | (go_at_call 16; ((with_reducible refine (c16 _ HT.out).mono ?_); rintro e w' ⟨rfl, hb⟩; have HB := Lib.hid hb; clear hb)) | (go_at_call 17; ((with_reducible refine (H17.out _).mono ?_); rintro e w' ⟨rfl, rfl⟩)) | (go_at_call 17; ((with_reducible refine (K17.out _).mono ?_); rintro e w' ⟨rfl, rfl⟩)) | (go_at_call 24; ((with_reducible refine (C1.out _ (TI.below HT.out HB.out)).mono ?_); rintro e w' ⟨⟨a, n, cp, rfl⟩, hb⟩; have hB := HB.out.trans (hb.mono HB.out.size); clear HB hb; have HB := Lib.hid hB; clear hB)) | (go_at_call 24; ((with_reducible refine (C2.out _ (TI.below HT.out HB.out)).mono ?_); rintro e w' ⟨⟨a, n, cp, rfl⟩, hb⟩; have hB := HB.out.trans (hb.mono HB.out.size); clear HB hb; have HB := Lib.hid hB; clear hB)))
    go_ret
    exact ⟨rfl, HB.out⟩
  rw [decide_eq_true hs] at h17
  rw [decide_eq_true hm] at k17
  have H17 := Lib.hid h17
  have K17 := Lib.hid k17
  clear h17 k17
  rcases htok : tokens s with ⟨a, er⟩ | l
  · have he := (errors_plain s m hs hm a er htok).1
    have C3 := Lib.hid (tok_err_call s htok)
    have e0 : (er != 0) = true := by simp; omega
    clear htok hbad hs hm he C1
    go_enter Tryz.func14, Tryz.ntmps14
    go_wp2_with (first | (go_at_call 16; ((with_reducible refine (c16 _ HT.out).mono ?_); rintro e w' ⟨rfl, hb⟩; have HB := Lib.hid hb; clear hb)) | (go_at_call 17; ((with_reducible refine (H17.out _).mono ?_); rintro e w' ⟨rfl, rfl⟩)) | (go_at_call 17; ((with_reducible refine (K17.out _).mono ?_); rintro e w' ⟨rfl, rfl⟩)) | (go_at_call 24; ((with_reducible refine (C3.out _ (TI.below HT.out HB.out)).mono ?_); rintro e w' ⟨rfl, hb⟩; have hB := HB.out.trans (hb.mono HB.out.size); clear HB hb; have HB := Lib.hid hB; clear hB)) | (go_at_call 24; ((with_reducible refine (C2.out _ (TI.below HT.out HB.out)).mono ?_); rintro e w' ⟨⟨a, n, cp, rfl⟩, hb⟩; have hB := HB.out.trans (hb.mono HB.out.size); clear HB hb; have HB := Lib.hid hB; clear hB)))
    go_ret
    exact ⟨rfl, HB.out⟩
  rcases hmok : tokens m with ⟨a, er⟩ | q
  · have he := (errors_plain m s hm hs a er hmok).1
    have C3 := Lib.hid (tok_ok_call s htok)
    have C4 := Lib.hid (tok_err_call m hmok)
    have e0 : (er != 0) = true := by simp; omega
    clear htok hmok hbad hs hm he C1 C2
    go_enter Tryz.func14, Tryz.ntmps14
    go_wp2_with (first | (go_at_call 16; ((with_reducible refine (c16 _ HT.out).mono ?_); rintro e w' ⟨rfl, hb⟩; have HB := Lib.hid hb; clear hb)) | (go_at_call 17; ((with_reducible refine (H17.out _).mono ?_); rintro e w' ⟨rfl, rfl⟩)) | (go_at_call 17; ((with_reducible refine (K17.out _).mono ?_); rintro e w' ⟨rfl, rfl⟩)) | (go_at_call 24; ((with_reducible refine (C3.out _ (TI.below HT.out HB.out)).mono ?_); rintro e w' ⟨⟨a, cp, rfl, _⟩, hb⟩; have hB := HB.out.trans (hb.mono HB.out.size); clear HB hb; have HB := Lib.hid hB; clear hB)) | (go_at_call 24; ((with_reducible refine (C4.out _ (TI.below HT.out HB.out)).mono ?_); rintro e w' ⟨rfl, hb⟩; have hB := HB.out.trans (hb.mono HB.out.size); clear HB hb; have HB := Lib.hid hB; clear hB)))
    go_ret
    exact ⟨rfl, HB.out⟩
  exact absurd ⟨hs, hm, ⟨l, htok⟩, q, hmok⟩ hbad
end Go.Proofs.YtagcfgoofiibfaaGreatDoor
namespace Go.Proofs.YtagcfgoofiibfaaGreatDoor
open Go Go.RowKit

/-- where the token ahead of the k-th one ends -/
def prevEn (l : List Tk) : Nat → Nat
  | 0 => 0
  | k + 1 => match l[k]? with
    | some t => t.en
    | none => 0
/-- what LexWithin says of a token -/
structure WithinAt (s : ByteArray) (a : Nat) (x : Tk) : Prop where
  ap : a ≤ x.at_
  lt : x.at_ < x.en
  le : x.en ≤ s.size
  own : ∃ y, tokens (s.extract x.at_ x.en) = .ok [y] ∧ y.k = x.k ∧ y.s = x.s ∧ y.d = x.d ∧ y.at_ = 0 ∧ y.en = (s.extract x.at_ x.en).size
  loc : pos s x.at_ = (x.line, x.col)
  bet : tokens (s.extract a x.at_) = .ok []
theorem Sc.gap {s : ByteArray} : ∀ {ps : List Tk} {i : Nat} {ys : List (Nat × Nat)}, Sc s i ps ys → ∀ (k : Nat) (p : Tk), ps[k]? = some p → ∃ a zs, Pt s p.at_ a [] zs ∧ (k = 0 → a = i) ∧ (∀ j q, k = j + 1 → ps[j]? = some q → a = q.en)
  | [], _, _, _, k, p, hk => by simp at hk
  | q :: ps, i, ys, h, 0, p, hk => by
    simp only [List.getElem?_cons_zero, Option.some.injEq] at hk
    subst hk
    obtain ⟨_, ⟨zs, h1⟩, _⟩ := h.split
    exact ⟨i, zs, h1, fun _ => rfl, fun j q e => absurd e (by omega)⟩
  | q :: ps, i, ys, h, k + 1, p, hk => by
    simp only [List.getElem?_cons_succ] at hk
    obtain ⟨_, _, ws, h2⟩ := h.split
    obtain ⟨a, zs, h3, h4, h5⟩ := Sc.gap h2 k p hk
    refine ⟨a, zs, h3, (fun e => absurd e (by omega)), fun j r e hr => ?_⟩
    injection e with e
    subst e
    rcases k with _ | k
    · simp only [List.getElem?_cons_zero, Option.some.injEq] at hr
      subst hr
      exact h4 rfl
    · simp only [List.getElem?_cons_succ] at hr
      exact h5 k r rfl hr
theorem within_plain {s : ByteArray} (hs : s.size ≤ 3000) {l : List Tk} (h : tokens s = .ok l) (k : Nat) (x : Tk) (hx : l[k]? = some x) : WithinAt s (prevEn l k) x := by
  rw [tokens_ok_iff s (by omega)] at h
  obtain ⟨ps, ys, h1, rfl⟩ := h
  rw [List.getElem?_map] at hx
  rcases hp : ps[k]? with _ | p
  · rw [hp] at hx; cases hx
  rw [hp] at hx
  simp only [Option.map_some, Option.some.injEq] at hx
  subst hx
  have hm := List.mem_of_getElem? hp
  obtain ⟨m1, m2, m3⟩ := h1.mem p hm
  obtain ⟨b1, b2, b3⟩ := h1.bd p hm
  obtain ⟨a, zs, g1, g2, g3⟩ := h1.gap k p hp
  have ha : prevEn (ps.map (placed s)) k = a := by
    rcases k with _ | k
    · exact (g2 rfl).symm
    · simp only [prevEn]
      have hlt : k < ps.length := by
        rcases Nat.lt_or_ge k ps.length with q | q
        · exact q
        · rw [List.getElem?_eq_none (by omega)] at hp; cases hp
      rw [List.getElem?_map, List.getElem?_eq_getElem hlt]
      exact (g3 k _ rfl (List.getElem?_eq_getElem hlt)).symm
  rw [ha]
  have hle := g1.le
  have e1 := size_ext s p.at_ p.en b3
  refine ⟨hle, b2, b3, ?_, rfl, ?_⟩
  · have := tok_alone m1 m2 m3
    refine ⟨placed (s.extract p.at_ p.en) (p.mv 0), (tokens_ok_iff _ (by show (s.extract p.at_ p.en).size ≤ _; omega) _).2 ⟨_, _, this, rfl⟩, rfl, rfl, rfl, rfl, ?_⟩
    show 0 + (p.en - p.at_) = (s.extract p.at_ p.en).size
    omega
  · obtain ⟨ws, h5⟩ := between g1 (by omega)
    have e2 := size_ext s a p.at_ (by omega)
    exact (tokens_ok_iff _ (by show (s.extract a p.at_).size ≤ _; omega) _).2 ⟨_, _, h5, rfl⟩
end Go.Proofs.YtagcfgoofiibfaaGreatDoor
namespace Go.Proofs.YtagcfgoofiibfaaGreatDoor
open Go Go.RowKit

/-- what a token says, without its place -/
def Tk.key (t : Tk) : Int × ByteArray × List Int := (t.k, t.s, t.d)
theorem Tk.key_mv (t : Tk) (j : Nat) : (t.mv j).key = t.key := rfl
theorem Tk.key_placed (s : ByteArray) (t : Tk) : (placed s t).key = t.key := rfl
/-- a gap that can stand behind a token -/
structure GapB (κ : ByteArray) : Prop where
  g : Gap κ
  p : 0 < κ.size
  b : bar (bt κ 0) = true
/-- tokens with gaps behind them -/
def bl (s : ByteArray) (κ : Nat → ByteArray) : List Tk → Nat → ByteArray
  | [], _ => ByteArray.empty
  | p :: ps, i => (s.extract p.at_ p.en ++ κ (i + 1)) ++ bl s κ ps (i + 1)
theorem bl_snoc (s : ByteArray) (κ : Nat → ByteArray) (p : Tk) : ∀ (ps : List Tk) (i : Nat), bl s κ (ps ++ [p]) i = bl s κ ps i ++ (s.extract p.at_ p.en ++ κ (i + ps.length + 1))
  | [], i => by simp [bl]
  | q :: ps, i => by
    simp only [List.cons_append, bl, List.length_cons]
    rw [bl_snoc s κ p ps (i + 1), ByteArray.append_assoc (a := s.extract q.at_ q.en ++ κ (i + 1))]
    rw [show i + 1 + ps.length + 1 = i + (ps.length + 1) + 1 by omega]
theorem agr_parts {a b t : ByteArray} {x : Nat} (H : Agr (a ++ b) t 0 x (a ++ b).size) : Agr a t 0 x a.size ∧ Agr b t 0 (x + a.size) b.size := by
  have h1 := H.lt
  have h0 := ByteArray.size_append (a := a) (b := b)
  refine ⟨⟨by omega, by omega, fun k hk => ?_⟩, ⟨by omega, by omega, fun k hk => ?_⟩⟩
  · rw [H.b k (by omega)]; simp only [Nat.zero_add]; rw [bt_app1 _ _ _ hk]
  · rw [show x + a.size + k = x + (a.size + k) by omega, H.b (a.size + k) (by omega)]; simp only [Nat.zero_add]; rw [bt_app2]
theorem bl_sc {s t : ByteArray} {κ : Nat → ByteArray} (hκ : ∀ i, GapB (κ i)) : ∀ (ps : List Tk) (i x : Nat), (∀ p ∈ ps, p.at_ < s.size ∧ blk (bt s p.at_) = false ∧ item s p.at_ = .tok p) → Agr (bl s κ ps i) t 0 x (bl s κ ps i).size → x + (bl s κ ps i).size = t.size →
    ∃ qs zs, Sc t x qs zs ∧ qs.map Tk.key = ps.map Tk.key
  | [], i, x, _, _, he => ⟨[], [], .fin _ (by have : (bl s κ [] i).size = 0 := rfl; omega), rfl⟩
  | p :: ps, i, x, hp, H, he => by
    simp only [bl] at H he
    obtain ⟨m1, m2, m3⟩ := hp p (by simp)
    obtain ⟨g1, g2, g3, g4, g5, g6⟩ := item_tok s _ p m1 m3
    have e1 := size_ext s p.at_ p.en g3
    obtain ⟨H1, H2⟩ := agr_parts H
    obtain ⟨H3, H4⟩ := agr_parts H1
    have z1 := ByteArray.size_append (a := s.extract p.at_ p.en ++ κ (i + 1)) (b := bl s κ ps (i + 1))
    have z2 := ByteArray.size_append (a := s.extract p.at_ p.en) (b := κ (i + 1))
    obtain ⟨qs, zs, h1, h2⟩ := bl_sc hκ ps (i + 1) _ (fun q hq => hp q (by simp [hq])) H2 (by omega)
    rw [z2, ← Nat.add_assoc] at h1
    obtain ⟨ws, h3⟩ := (hκ (i + 1)).g.glue H4 h1
    rw [e1] at h3 H3 H4
    have hA : Agr s t p.at_ x (p.en - p.at_) := ⟨by omega, by have := H3.lt; omega, fun k hk => by
      rw [H3.b k hk, Nat.zero_add, bt_ext s _ _ k hk g3]⟩
    have hbar : bar (bt t (x + (p.en - p.at_))) = true := by
      have := H4.b 0 (hκ (i + 1)).p
      rw [Nat.add_zero, Nat.add_zero] at this
      rw [this]; exact (hκ (i + 1)).b
    exact ⟨_, _, tok_glue m1 m2 m3 hA hbar h3, by simp only [List.map_cons, Tk.key_mv, h2]⟩
theorem bl_size (s : ByteArray) (κ : Nat → ByteArray) (hκ : ∀ i, (κ i).size ≤ 16) : ∀ (ps : List Tk) (i N : Nat), ps.Pairwise (fun a b => a.en ≤ b.at_) → (∀ p ∈ ps, N ≤ p.at_ ∧ p.at_ < p.en ∧ p.en ≤ s.size) → N ≤ s.size → (bl s κ ps i).size ≤ (s.size - N) + 16 * ps.length
  | [], i, N, _, _, _ => Nat.zero_le _
  | p :: ps, i, N, ho, hb, hN => by
    have h1 := hb p (by simp)
    have e1 := size_ext s p.at_ p.en h1.2.2
    rw [List.pairwise_cons] at ho
    have ih := bl_size s κ hκ ps (i + 1) p.en ho.2 (fun q hq => ⟨ho.1 q hq, (hb q (by simp [hq])).2⟩) h1.2.2
    have := hκ (i + 1)
    simp only [bl, ByteArray.size_append, e1, List.length_cons]
    omega
theorem Sc.ord {s : ByteArray} {i : Nat} {ps : List Tk} {ys : List (Nat × Nat)} (h : Sc s i ps ys) : ps.Pairwise (fun a b => a.en ≤ b.at_) := by
  induction h with
  | fin => exact List.Pairwise.nil
  | blank i ps ys hi hb _ ih => exact ih
  | com i j ps ys hi hb hc _ ih => exact ih
  | tok i p ps ys hi hb hc h' ih => exact List.pairwise_cons.2 ⟨fun q hq => (h'.bd q hq).1, ih⟩
theorem bl_placed (s : ByteArray) (κ : Nat → ByteArray) : ∀ (ps : List Tk) (i : Nat), bl s κ (ps.map (placed s)) i = bl s κ ps i
  | [], _ => rfl
  | p :: ps, i => by simp only [List.map_cons, bl]; rw [bl_placed s κ ps (i + 1)]; rfl
/-- BLANKS -/
theorem blanks_plain {s : ByteArray} (hs : s.size ≤ 3000) {l : List Tk} (h : tokens s = .ok l) (hl : l.length ≤ 300) (κ : Nat → ByteArray) (hκ : ∀ i, GapB (κ i)) (hz : ∀ i, (κ i).size ≤ 16) : ∃ q, tokens (κ 0 ++ bl s κ l 0) = .ok q ∧ q.map Tk.key = l.map Tk.key := by
  rw [tokens_ok_iff s (by omega)] at h
  obtain ⟨ps, ys, h1, rfl⟩ := h
  rw [bl_placed]
  rw [List.length_map] at hl
  have hb := bl_size s κ hz ps 0 0 h1.ord (fun p hp => h1.bd p hp) (Nat.zero_le _)
  have hH : Agr (κ 0 ++ bl s κ ps 0) (κ 0 ++ bl s κ ps 0) 0 0 (κ 0 ++ bl s κ ps 0).size := ⟨by omega, by omega, fun k _ => rfl⟩
  have z := ByteArray.size_append (a := κ 0) (b := bl s κ ps 0)
  have z0 := hz 0
  generalize ht : κ 0 ++ bl s κ ps 0 = t at hH z
  rw [← ht] at hH
  have hH' : Agr (κ 0 ++ bl s κ ps 0) t 0 0 (κ 0 ++ bl s κ ps 0).size := by rw [ht] at hH ⊢; exact hH
  obtain ⟨H1, H2⟩ := agr_parts hH'
  obtain ⟨qs, zs, h2, h3⟩ := bl_sc hκ ps 0 _ (fun p hp => h1.mem p hp) H2 (by omega)
  obtain ⟨ws, h4⟩ := (hκ 0).g.glue H1 h2
  refine ⟨qs.map (placed t), (tokens_ok_iff t (by omega) _).2 ⟨_, _, h4, rfl⟩, ?_⟩
  rw [List.map_map, List.map_map]
  exact h3
/-- the gaps of LexBlanks -/
def gapRows : List ByteArray := [⟨#[32]⟩, ⟨#[9]⟩, ⟨#[10]⟩, ⟨#[32, 13, 10]⟩, ⟨#[32, 40, 42, 42, 41]⟩, ⟨#[40, 42, 32, 97, 32, 40, 42, 32, 34, 32, 42, 41, 32, 42, 41, 32]⟩, ⟨#[32, 92, 42, 32, 40, 42, 32, 34, 10]⟩, ⟨#[32, 32]⟩]
theorem gapRows_ok : gapRows.all (fun κ => gapOk κ && decide (0 < κ.size) && bar (bt κ 0) && decide (κ.size ≤ 16)) = true := by decide +kernel
theorem gapRows_b {κ : ByteArray} (h : κ ∈ gapRows) : GapB κ ∧ κ.size ≤ 16 := by
  have := List.all_eq_true.1 gapRows_ok κ h
  simp only [Bool.and_eq_true, decide_eq_true_eq] at this
  obtain ⟨⟨⟨h1, h2⟩, h3⟩, h4⟩ := this
  exact ⟨⟨Gap.of h1, h2, h3⟩, h4⟩
end Go.Proofs.YtagcfgoofiibfaaGreatDoor
namespace Go.Proofs.YtagcfgoofiibfaaGreatDoor
open Go Go.RowKit

theorem stp_stp (x : UInt8) : stp (stp x) = stp x := by
  unfold stp
  by_cases h : x = 10 ∨ x = 9
  · rw [if_pos h, if_pos h]
  · rw [if_neg h, if_neg (by decide)]
theorem stripL_get : ∀ (ys : List (Nat × Nat)) (l : List UInt8) (k : Nat), (stripL l ys)[k]? = l[k]?.map fun x => if inC ys k then stp x else x
  | [], l, k => by show l[k]? = _; rcases l[k]? with _ | x <;> simp [inC]
  | y :: ys, l, k => by
    show (stripL (strip1 l y.1 y.2) ys)[k]? = _
    rw [stripL_get ys, strip1_get, Option.map_map]
    congr 1
    funext x
    simp only [Function.comp]
    have e : inC (y :: ys) k = ((decide (y.1 ≤ k) && decide (k < y.2)) || inC ys k) := by simp [inC]
    rw [e]
    by_cases h1 : y.1 ≤ k ∧ k < y.2
    · rw [if_pos h1, stp_stp]
      have : (decide (y.1 ≤ k) && decide (k < y.2)) = true := by simpa using h1
      rw [this]; simp
    · rw [if_neg h1]
      have : (decide (y.1 ≤ k) && decide (k < y.2)) = false := by
        rcases hh : (decide (y.1 ≤ k) && decide (k < y.2)) with _ | _
        · rfl
        · exact absurd (by simpa using hh) h1
      rw [this]; simp
theorem stripL_bt (s : ByteArray) (ys : List (Nat × Nat)) (k : Nat) (hk : k < s.size) : ∃ x : UInt8, bt s k = (x.toNat : Int) ∧ bt ⟨(stripL s.data.toList ys).toArray⟩ k = (((if inC ys k then stp x else x) : UInt8).toNat : Int) := by
  have hl : k < s.data.toList.length := by rw [Array.length_toList]; exact hk
  refine ⟨s.data.toList[k], ?_, ?_⟩
  · unfold bt; rw [List.getD_eq_getElem?_getD, List.getElem?_eq_getElem hl]; rfl
  · have := stripL_get ys s.data.toList k
    rw [List.getElem?_eq_getElem hl] at this
    unfold bt
    rw [List.getD_eq_getElem?_getD]
    show ((((stripL s.data.toList ys)[k]?).getD 0).toNat : Int) = _
    rw [this]; rfl
theorem stp_blk (x : UInt8) : blk ((stp x).toNat : Int) = true := by
  unfold stp
  by_cases h : x = 10 ∨ x = 9
  · rw [if_pos h]; rcases h with rfl | rfl <;> decide
  · rw [if_neg h]; decide
theorem nxt_stp (l c : Int) (x : UInt8) : nxt l c ((stp x).toNat : Int) = nxt l c (x.toNat : Int) := by
  unfold stp
  by_cases h : x = 10 ∨ x = 9
  · rw [if_pos h]
  · rw [if_neg h]
    have h1 : (x.toNat : Int) ≠ 10 := fun e => h (.inl (UInt8.toNat.inj (by show x.toNat = 10; omega)))
    have h2 : (x.toNat : Int) ≠ 9 := fun e => h (.inr (UInt8.toNat.inj (by show x.toNat = 9; omega)))
    unfold nxt
    rw [if_neg h1, if_neg h2]; rfl
/-- where the last token ends -/
theorem Sc.blank_all {s : ByteArray} : ∀ {ps : List Tk} {i : Nat}, Sc s i ps [] → (∀ (k : Nat) (p : Tk), ps[k]? = some p → ∀ j, (if k = 0 then i else prevEn ps k) ≤ j → j < p.at_ → blk (bt s j) = true) ∧ ∀ j, (if ps.length = 0 then i else prevEn ps ps.length) ≤ j → j < s.size → blk (bt s j) = true
  | [], i, h => ⟨fun k p hp => by simp at hp, fun j a b => h.blank_end j a b⟩
  | q :: ps, i, h => by
    obtain ⟨h1, h2, h3⟩ := h.blank_ahead
    obtain ⟨g1, g2⟩ := Sc.blank_all h3
    have hpe : ∀ k, prevEn (q :: ps) (k + 1) = if k = 0 then q.en else prevEn ps k := fun k => by
      rcases k with _ | k
      · rfl
      · rw [if_neg (by omega)]; simp only [prevEn, List.getElem?_cons_succ]
    refine ⟨fun k p hp j a b => ?_, fun j a b => ?_⟩
    · rcases k with _ | k
      · simp only [List.getElem?_cons_zero, Option.some.injEq] at hp
        subst hp
        exact h2 j (by simpa using a) b
      · simp only [List.getElem?_cons_succ] at hp
        rw [if_neg (by omega), hpe] at a
        exact g1 k p hp j a b
    · rw [if_neg (by simp), List.length_cons, hpe] at a
      exact g2 j a b
/-- STRIPPED -/
theorem stripped_plain {s : ByteArray} (hs : s.size ≤ 3000) {l : List Tk} (h : tokens s = .ok l) : ∃ t, stripF s = .ok t ∧ t.size = s.size ∧ tokens t = .ok l ∧
    (∀ (k : Nat) (x : Tk), l[k]? = some x → prevEn l k ≤ x.at_ ∧ x.at_ ≤ s.size ∧ ∀ j, prevEn l k ≤ j → j < x.at_ → blk (bt t j) = true) ∧ prevEn l l.length ≤ s.size ∧ ∀ j, prevEn l l.length ≤ j → j < s.size → blk (bt t j) = true := by
  have h0 := h
  rw [tokens_ok_iff s (by omega)] at h
  obtain ⟨ps, ys, h1, rfl⟩ := h
  have hsc := (scan_ok_iff s ps ys).2 h1
  have e : stripF s = .ok ⟨(stripL s.data.toList ys).toArray⟩ := by
    unfold stripF; rw [h0, hsc]
  refine ⟨_, e, ?_⟩
  have hsz : (⟨(stripL s.data.toList ys).toArray⟩ : ByteArray).size = s.size := by
    show (stripL s.data.toList ys).toArray.size = _
    rw [List.size_toArray, stripL_len, Array.length_toList]; rfl
  have hb := stripL_bt s ys
  generalize (⟨(stripL s.data.toList ys).toArray⟩ : ByteArray) = t at hsz hb
  have c1 : ∀ k, inC ys k = false → bt t k = bt s k := fun k hk => by
    rcases Nat.lt_or_ge k s.size with q | q
    · obtain ⟨x, x1, x2⟩ := hb k q
      rw [x1, x2, hk]; rfl
    · rw [bt_out t k (by omega), bt_out s k q]
  have hco := h1.coms
  have c2 : ∀ k, inC ys k = true → blk (bt t k) = true := fun k hk => by
    have q : k < s.size := by
      unfold inC at hk
      obtain ⟨y, hy, h2⟩ := List.any_eq_true.1 hk
      have := hco y hy
      simp at h2; omega
    obtain ⟨x, x1, x2⟩ := hb k q
    rw [x2, hk]; exact stp_blk x
  have h2 := strip_sc hsz h1 (fun k _ hk => c1 k hk) (fun k _ hk => c2 k hk)
  have hpos : ∀ n, n ≤ s.size → pos t n = pos s n := by
    intro n
    induction n with
    | zero => intro _; rfl
    | succ n ih =>
      intro hn
      simp only [pos]
      rw [ih (by omega)]
      obtain ⟨x, x1, x2⟩ := hb n (by omega)
      rw [x1, x2]
      split
      · exact nxt_stp _ _ x
      · rfl
  have hbd := h1.bd
  have e3 : ps.map (placed t) = ps.map (placed s) := List.map_congr_left fun p hp => by
    have := hbd p hp
    unfold placed; rw [hpos _ (by omega)]
  have hpe : ∀ k, prevEn (ps.map (placed s)) k = prevEn ps k := fun k => by
    rcases k with _ | k
    · rfl
    · simp only [prevEn, List.getElem?_map]
      rcases ps[k]? with _ | p <;> rfl
  obtain ⟨b1, b2⟩ := h2.blank_all
  have hzero : ∀ k, (if k = 0 then 0 else prevEn ps k) = prevEn ps k := fun k => by
    rcases k with _ | k
    · rfl
    · rw [if_neg (by omega)]
  refine ⟨hsz, (tokens_ok_iff t (by omega) _).2 ⟨_, _, h2, e3.symm⟩, fun k x hx => ?_, ?_, fun j a b => ?_⟩
  · rw [List.getElem?_map] at hx
    rcases hp : ps[k]? with _ | p
    · rw [hp] at hx; cases hx
    rw [hp] at hx
    simp only [Option.map_some, Option.some.injEq] at hx
    subst hx
    rw [hpe]
    have hw := within_plain hs h0 k (placed s p) (by rw [List.getElem?_map, hp]; rfl)
    have hap := hw.ap
    rw [hpe] at hap
    refine ⟨hap, ?_, fun j a b => b1 k p hp j (by rw [hzero]; exact a) b⟩
    have := hbd p (List.mem_of_getElem? hp)
    show p.at_ ≤ _
    omega
  · rw [hpe, List.length_map]
    rcases hk : ps.length with _ | k
    · exact Nat.zero_le _
    · have hlt : k < ps.length := by omega
      have := hbd ps[k] (List.getElem_mem hlt)
      simp only [prevEn, List.getElem?_eq_getElem hlt]
      omega
  · rw [hpe, List.length_map] at a
    exact b2 j (by rw [hzero]; exact a) (by omega)
end Go.Proofs.YtagcfgoofiibfaaGreatDoor
namespace Go.Proofs.YtagcfgoofiibfaaGreatDoor
open Go Go.RowKit

theorem quo_k (s : ByteArray) (i : Nat) (p : Tk) : ∀ (f k : Nat) (o : List UInt8), quo s i f k o = .ok p → p.k = 3 ∧ p.d = []
  | 0, _, _, h => by simp only [quo] at h; cases h
  | f + 1, k, o, h => by
    simp only [quo] at h
    split at h
    · cases h
    · split at h
      · split at h
        · cases h
        · injection h with h; subst h; exact ⟨rfl, rfl⟩
      · split at h
        · split at h
          · split at h
            · cases h
            · exact quo_k s i p f _ _ h
          · cases h
        · split at h
          · cases h
          · exact quo_k s i p f _ _ h
theorem sgn_k (s : ByteArray) (i : Nat) (p : Tk) (N : Nat) (h : sgn s i N = .ok p) : p.k = 5 ∧ p.d = [] := by
  obtain ⟨L, c, _, _, rfl, _⟩ := sgn_ok s i p N h
  exact ⟨rfl, rfl⟩
/-- a sign has no number -/
theorem tokF_nod (s : ByteArray) (i : Nat) (p : Tk) (h : tokF s i = .ok p) (hk : p.k ≠ 2) : p.d = [] := by
  unfold tokF at h
  split at h
  · unfold runF at h
    (repeat' split at h) <;> first | (cases h; done) | (injection h with h; subst h; first | rfl | exact absurd rfl hk)
  · split at h
    · unfold basedF at h
      split at h
      · cases h
      · injection h with h; subst h; exact absurd rfl hk
    · split at h
      · exact (quo_k s i p _ _ _ h).2
      · split at h
        · injection h with h; subst h; rfl
        · split at h
          · injection h with h; subst h; rfl
          · unfold signF at h
            split at h
            · injection h with h; subst h; rfl
            · exact (sgn_k s i p _ h).2
theorem signs_len40 : signsL.all (fun p => decide (p.1.length ≤ 40)) = true := by decide +kernel
theorem canon_size {w c : ByteArray} (h : canonOf w = some c) : w.size ≤ 40 := by
  obtain ⟨q, hq, he⟩ := canonOf_mem h
  have := List.all_eq_true.1 signs_len40 q hq
  rw [he] at this
  have e : w.size = w.data.toList.length := by rw [Array.length_toList]; rfl
  rw [e]; simpa using this
theorem respell_tokens {s : ByteArray} (hs : s.size ≤ 3000) {l : List Tk} (h : tokens s = .ok l) {x : Tk} (hx : x ∈ l) (hk : x.k = 5) {w : ByteArray} (hw : canonOf w = some x.s) :
    ∃ q, tokens (s.extract 0 x.at_ ++ sp ++ w ++ sp ++ s.extract x.en s.size) = .ok q ∧ q.map Tk.key = l.map Tk.key := by
  rw [tokens_ok_iff s (by omega)] at h
  obtain ⟨ps, ys, h1, rfl⟩ := h
  obtain ⟨p, hp, rfl⟩ := List.mem_map.1 hx
  have hm := h1.mem p hp
  have hbd := h1.bd p hp
  have hd := tokF_nod s p.at_ p (item_tok s _ p hm.1 hm.2.2).1 (by have : p.k = 5 := hk; omega)
  obtain ⟨p1, p2, rfl⟩ := List.append_of_mem hp
  obtain ⟨q1, q2, zs, h2, rfl, rfl⟩ := respell h1 hk hd w hw
  have hz := canon_size hw
  have e1 := size_ext s 0 p.at_ (by omega)
  have e2 := size_ext s p.en s.size (Nat.le_refl _)
  refine ⟨_, (tokens_ok_iff _ (by
    show (s.extract 0 p.at_ ++ sp ++ w ++ sp ++ s.extract p.en s.size).size ≤ 20000
    simp only [ByteArray.size_append, e1, e2, sp_size]; omega) _).2 ⟨_, _, h2, rfl⟩, ?_⟩
  simp only [List.map_map, List.map_append, List.map_cons]
  have e : (⟨5, p.s, [], p.at_ + 1, p.at_ + 1 + w.size, 0, 0⟩ : Tk).key = p.key := by
    have : p.k = 5 := hk
    unfold Tk.key; rw [hd, this]
  simp only [Function.comp_def, Tk.key_placed, Tk.key_mv]
  rw [e]
theorem likeL_key : ∀ {a b : List Tk}, a.map Tk.key = b.map Tk.key → likeL a b = true
  | [], [], _ => rfl
  | [], b :: bs, h => by simp at h
  | a :: as', [], h => by simp at h
  | a :: as', b :: bs', h => by
    simp only [List.map_cons, List.cons.injEq] at h
    obtain ⟨h1, h2⟩ := h
    unfold Tk.key at h1
    injection h1 with k1 h1
    injection h1 with k2 k3
    simp only [likeL, likeL_key h2, likeF, k1, k2, k3]
    simp
end Go.Proofs.YtagcfgoofiibfaaGreatDoor
namespace Go.Proofs.YtagcfgoofiibfaaGreatDoor
open Go Go.RowKit

set_option maxRecDepth 100000 in
set_option maxHeartbeats 3200000 in
/-- LexWithin where its guard lets nothing in -/
theorem c5no (s : ByteArray) (w : World) (hT : TI w) (hbad : ¬ (s.size ≤ 3000 ∧ ∃ l, tokens s = .ok l)) : Calls Tryz.prog 5 #[.string s] w fun e w' => e = .returned (.bool true) ∧ Below w.heap.size w w' := by
  have h17 := c17 s
  have HT := Lib.hid hT
  clear hT
  by_cases hs : s.size ≤ 3000
  case neg =>
    obtain ⟨p1, q1, h1⟩ := tok_any_call s
    have C1 := Lib.hid h1
    clear h1
    rw [decide_eq_false hs] at h17
    have H17 := Lib.hid h17
    clear h17 hbad hs
    go_enter Tryz.func5, Tryz.ntmps5
    go_wp2_with (first | (go_at_call 16; ((with_reducible refine (c16 _ HT.out).mono ?_); rintro e w' ⟨rfl, hb⟩; have HB := Lib.hid hb; clear hb)) | (go_at_call 17; ((with_reducible refine (H17.out _).mono ?_); rintro e w' ⟨rfl, rfl⟩)) | (go_at_call 24; ((with_reducible refine (C1.out _ (TI.below HT.out HB.out)).mono ?_); rintro e w' ⟨⟨a, n, cp, rfl⟩, hb⟩; have hB := HB.out.trans (hb.mono HB.out.size); clear HB hb; have HB := Lib.hid hB; clear hB)))
    go_ret
    exact ⟨rfl, HB.out⟩
  rw [decide_eq_true hs] at h17
  have H17 := Lib.hid h17
  clear h17
  rcases htok : tokens s with ⟨a, er⟩ | l
  · have he := (errors_plain s s hs hs a er htok).1
    have C3 := Lib.hid (tok_err_call s htok)
    have e0 : (er != 0) = true := by simp; omega
    clear htok hbad hs he
    go_enter Tryz.func5, Tryz.ntmps5
    go_wp2_with (first | (go_at_call 16; ((with_reducible refine (c16 _ HT.out).mono ?_); rintro e w' ⟨rfl, hb⟩; have HB := Lib.hid hb; clear hb)) | (go_at_call 17; ((with_reducible refine (H17.out _).mono ?_); rintro e w' ⟨rfl, rfl⟩)) | (go_at_call 24; ((with_reducible refine (C3.out _ (TI.below HT.out HB.out)).mono ?_); rintro e w' ⟨rfl, hb⟩; have hB := HB.out.trans (hb.mono HB.out.size); clear HB hb; have HB := Lib.hid hB; clear hB)))
    go_ret
    exact ⟨rfl, HB.out⟩
  exact absurd ⟨hs, l, htok⟩ hbad

theorem kind_own {t : ByteArray} {y : Tk} (h : tokens t = .ok [y]) (ha : y.at_ = 0) (he : y.en = t.size) : kindF t = y.k := by
  unfold kindF; rw [h]; simp only [kindR]; rw [if_pos ⟨ha, he⟩]
theorem prevEn_le {s : ByteArray} (hs : s.size ≤ 3000) {l : List Tk} (h : tokens s = .ok l) (k : Nat) : prevEn l k ≤ s.size := by
  rcases k with _ | k
  · exact Nat.zero_le _
  · simp only [prevEn]
    rcases hx : l[k]? with _ | x
    · exact Nat.zero_le _
    · exact (within_plain hs h k x hx).le
theorem prevEn_next {l : List Tk} {k : Nat} {x : Tk} (h : l[k]? = some x) : prevEn l (k + 1) = x.en := by simp only [prevEn, h]

/-- a token in a block of its own -/
def TokBlk (n : Nat) (x : Tk) (dx : Value) (X : World) : Prop := X.cell? ⟨n, 0, none⟩ = some (.int .i64 x.k) ∧ X.cell? ⟨n, 1, none⟩ = some (.string x.s) ∧ X.cell? ⟨n, 2, none⟩ = some (.bool false) ∧ X.cell? ⟨n, 3, none⟩ = some dx ∧ X.cell? ⟨n, 4, none⟩ = some (.int .i64 (x.at_ : Int)) ∧ X.cell? ⟨n, 5, none⟩ = some (.int .i64 (x.en : Int)) ∧ X.cell? ⟨n, 6, none⟩ = some (.int .i64 x.line) ∧ X.cell? ⟨n, 7, none⟩ = some (.int .i64 x.col)
theorem TokBlk.below {n : Nat} {x : Tk} {dx : Value} {X Y : World} (h : TokBlk n x dx X) (hn : n < X.heap.size) (hb : Below X.heap.size X Y) : TokBlk n x dx Y := by
  obtain ⟨h0, h1, h2, h3, h4, h5, h6, h7⟩ := h
  have hbc : ∀ (o : Nat) (u : Value), X.cell? ⟨n, o, none⟩ = some u → Y.cell? ⟨n, o, none⟩ = some u := fun o u h => (hb.cell (p := ⟨n, o, none⟩) hn).trans h
  exact ⟨hbc _ _ h0, hbc _ _ h1, hbc _ _ h2, hbc _ _ h3, hbc _ _ h4, hbc _ _ h5, hbc _ _ h6, hbc _ _ h7⟩
theorem TokBlk.made (W : World) (x : Tk) (dx : Value) : TokBlk W.heap.size x dx (W.alloc (.cells #[.int .i64 x.k, .string x.s, .bool false, dx, .int .i64 (x.at_ : Int), .int .i64 (x.en : Int), .int .i64 x.line, .int .i64 x.col] 41 (0, 0))) := by
  have h := heap_alloc_new W (.cells #[.int .i64 x.k, .string x.s, .bool false, dx, .int .i64 (x.at_ : Int), .int .i64 (x.en : Int), .int .i64 x.line, .int .i64 x.col] 41 (0, 0))
  refine ⟨?_, ?_, ?_, ?_, ?_, ?_, ?_, ?_⟩ <;> (rw [cell_of_row _ _ _ _ _ _ h]; rfl)

/-- behind the reading of a token alone: its row, and the copy of the token that it was -/
theorem own_state (wr : World) (x y : Tk) (dx : Value) {w' w2 : World} {a2 : Option Addr} {cp2 : Nat} (hG : Below w'.heap.size w' wr) (hix : IntsAt wr dx x.d)
    (hb : Below (wr.alloc (.cells #[.int .i64 x.k, .string x.s, .bool false, dx, .int .i64 (x.at_ : Int), .int .i64 (x.en : Int), .int .i64 x.line, .int .i64 x.col] 41 (0, 0))).heap.size (wr.alloc (.cells #[.int .i64 x.k, .string x.s, .bool false, dx, .int .i64 (x.at_ : Int), .int .i64 (x.en : Int), .int .i64 x.line, .int .i64 x.col] 41 (0, 0))) w2)
    (hr : TokSl w2 (.slice a2 [y].length cp2) [y]) : ∃ b2 o2 ay cpy, a2 = some ⟨b2, o2, none⟩ ∧ Hid (Below w'.heap.size w' w2) ∧ Hid (IntsAt w2 (.slice ay y.d.length cpy) y.d) ∧ Hid (IntsAt w2 dx x.d) ∧
    Hid (∀ X, Below w2.heap.size w2 X → X.cell? ⟨wr.heap.size, 0, none⟩ = some (.int .i64 x.k) ∧ X.cell? ⟨wr.heap.size, 1, none⟩ = some (.string x.s) ∧ X.cell? ⟨wr.heap.size, 2, none⟩ = some (.bool false) ∧ X.cell? ⟨wr.heap.size, 3, none⟩ = some (dx) ∧ X.cell? ⟨wr.heap.size, 4, none⟩ = some (.int .i64 (x.at_ : Int)) ∧ X.cell? ⟨wr.heap.size, 5, none⟩ = some (.int .i64 (x.en : Int)) ∧ X.cell? ⟨wr.heap.size, 6, none⟩ = some (.int .i64 x.line) ∧ X.cell? ⟨wr.heap.size, 7, none⟩ = some (.int .i64 x.col) ∧ X.cell? ⟨b2, o2, none⟩ = some (.int .i64 y.k) ∧ X.cell? ⟨b2, o2 + 1, none⟩ = some (.string y.s) ∧ X.cell? ⟨b2, o2 + 2, none⟩ = some (.bool false) ∧ X.cell? ⟨b2, o2 + 3, none⟩ = some (.slice ay y.d.length cpy) ∧ X.cell? ⟨b2, o2 + 4, none⟩ = some (.int .i64 (y.at_ : Int)) ∧ X.cell? ⟨b2, o2 + 5, none⟩ = some (.int .i64 (y.en : Int)) ∧ X.cell? ⟨b2, o2 + 6, none⟩ = some (.int .i64 y.line) ∧ X.cell? ⟨b2, o2 + 7, none⟩ = some (.int .i64 y.col)) := by
  obtain ⟨b2, o2, y', dy, rfl, hb2, hy, iy, _, _, _, y0, y1, y2, y3, y4, y5, y6, y7⟩ := hr.at 0 (by simp)
  simp only [List.getElem?_cons_zero, Option.some.injEq] at hy
  subst hy
  obtain ⟨ay, cpy, rfl⟩ := row_form iy
  simp only [Nat.zero_mul, Nat.add_zero] at y0 y1 y2 y3 y4 y5 y6 y7
  have hsz : (wr.alloc (.cells #[.int .i64 x.k, .string x.s, .bool false, dx, .int .i64 (x.at_ : Int), .int .i64 (x.en : Int), .int .i64 x.line, .int .i64 x.col] 41 (0, 0))).heap.size = wr.heap.size + 1 := by simp
  have hT := (TokBlk.made wr x dx).below (by rw [hsz]; exact Nat.lt_succ_self _) hb
  have hlt : wr.heap.size < w2.heap.size := by have := hb.size; rw [hsz] at this; omega
  refine ⟨b2, o2, ay, cpy, rfl, Lib.hid ((hG.alloc hG.size _).trans (hb.mono (by rw [hsz]; have := hG.size; omega))), Lib.hid iy, Lib.hid (hix.below (((Below.refl _ _).alloc (Nat.le_refl _) _).trans (hb.mono (by rw [hsz]; omega)))), Lib.hid (fun X hX => ?_)⟩
  obtain ⟨h0, h1, h2, h3, h4, h5, h6, h7⟩ := hT.below hlt hX
  have hbc : ∀ (o : Nat) (u : Value), w2.cell? ⟨b2, o, none⟩ = some u → X.cell? ⟨b2, o, none⟩ = some u := fun o u h => (hX.cell (p := ⟨b2, o, none⟩) hb2).trans h
  exact ⟨h0, h1, h2, h3, h4, h5, h6, h7, hbc _ _ y0, hbc _ _ y1, hbc _ _ y2, hbc _ _ y3, hbc _ _ y4, hbc _ _ y5, hbc _ _ y6, hbc _ _ y7⟩

set_option maxRecDepth 100000 in
set_option maxHeartbeats 6400000 in
theorem c5 (s : ByteArray) (w : World) (hT : TI w) : Calls Tryz.prog 5 #[.string s] w fun e w' => e = .returned (.bool true) ∧ Below w.heap.size w w' := by
  have h17 := c17 s
  have HT := Lib.hid hT
  clear hT
  by_cases hbad : ¬ (s.size ≤ 3000 ∧ ∃ l, tokens s = .ok l)
  · exact c5no s w HT.out hbad
  obtain ⟨hs, l, hl⟩ : s.size ≤ 3000 ∧ ∃ l, tokens s = .ok l := Classical.not_not.1 hbad
  clear hbad
  rw [decide_eq_true hs] at h17
  have H17 := Lib.hid h17
  clear h17
  have C1 := Lib.hid (tok_ok_call s hl)
  have DL := Lib.hid (tokens_d hl)
  have HSZ := Lib.hid hs
  have HTK := Lib.hid hl
  clear hl hs
  go_enter Tryz.func5, Tryz.ntmps5
  go_wp2_with (first | (go_at_call 16; ((with_reducible refine (c16 _ HT.out).mono ?_); rintro e w' ⟨rfl, hb⟩; have HB := Lib.hid hb; clear hb)) | (go_at_call 17; ((with_reducible refine (H17.out _).mono ?_); rintro e w' ⟨rfl, rfl⟩)) | (go_at_call 24; ((with_reducible refine (C1.out _ (TI.below HT.out HB.out)).mono ?_); rintro e w' ⟨⟨a1, cp1, rfl, hr⟩, hb⟩; have hB := HB.out.trans (hb.mono HB.out.size); have HR1 := Lib.hid hr.sl; clear HB hb hr; have HB := Lib.hid hB; clear hB; obtain ⟨hc1, hm1⟩ := HR1.out.caps; have hmx : (maxLen : Nat) = 9223372036854775807 := rfl; have hln : (l.length : Int) ≤ 9223372036854775807 := (by omega); clear hc1 hm1 hmx)))
  have HTl := Lib.hid (TI.below HT.out HB.out)
  go_loopw [6, 34] (fun s6 s34 wr => ∃ k : Nat, k ≤ l.length ∧ s34 = .int .i64 (k : Int) ∧ s6 = .int .i64 (prevEn l k : Int) ∧ Below w'.heap.size w' wr) (fun _ s34 _ => l.length - (intOf s34).toNat)
  case atStart => exact ⟨0, Nat.zero_le _, rfl, rfl, Below.refl _ _⟩
  case round =>
    obtain ⟨k, hk, rfl, rfl, hG⟩ := hrel
    have HGr := Lib.hid hG
    clear hG
    by_cases hlt : k < l.length
    · have hltz : (k : Int) < (l.length : Int) := by omega
      obtain ⟨b1, o1, x, dx, rfl, hb1, hx, ix, _, _, _, x0, x1, x2, x3, x4, x5, x6, x7⟩ := (HR1.out.below HGr.out).at k hlt
      obtain ⟨ax, cpx, rfl⟩ := row_form ix
      have hW := within_plain HSZ.out HTK.out k x hx
      obtain ⟨y, hy, yk, ys, yd, ya, ye⟩ := hW.own
      obtain ⟨a, ha⟩ : ∃ a, prevEn l k = a := ⟨_, rfl⟩
      rw [ha] at hW
      have hap : (a : Int) ≤ (x.at_ : Int) := by have := hW.ap; omega
      have hae : (x.at_ : Int) < (x.en : Int) := by have := hW.lt; omega
      have hel : (x.en : Int) ≤ (s.size : Int) := by have := hW.le; omega
      have hn1 : x.at_ ≤ x.en := by omega
      have hn2 : x.en ≤ s.size := by omega
      have hn3 : (x.at_ : Int) ≤ (x.en : Int) := by omega
      have hn4 : (0 : Int) ≤ (x.en : Int) := by omega
      have CO := Lib.hid (tok_ok_call _ hy)
      have CB := Lib.hid (tok_ok_call _ hW.bet)
      have CL : Hid (∀ X, Calls Tryz.prog 18 #[.string s, .int .i64 (x.at_ : Int)] X fun e w' => e = .returned (.tuple #[.int .i64 x.line, .int .i64 x.col, .int .i64 0]) ∧ Below X.heap.size X w') := Lib.hid (fun X => (c18 s x.at_ X (by have := HSZ.out; omega)).mono fun e w' h => by
        unfold locTo at h
        rw [if_pos ⟨by omega, by omega⟩, Int.toNat_natCast, hW.loc] at h
        exact h)
      have hlk : likeF y x = true := by unfold likeF; rw [yk, ys, yd]; simp
      have KK : Hid (∀ X, TI X → Calls Tryz.prog 27 #[.string (s.extract x.at_ x.en)] X fun e w' => e = .returned (.int .i64 x.k) ∧ Below X.heap.size X w') := Lib.hid (fun X hX => by
        have h := c27 H24 (s.extract x.at_ x.en) X hX
        rw [kind_own hy ya ye, yk] at h
        exact h)
      have HW := Lib.hid hW
      have HY := Lib.hid (And.intro hlk (And.intro yd (DL.out x (List.mem_of_getElem? hx))))
      have HX := Lib.hid hx
      have HLT := Lib.hid hlt
      have HK := Lib.hid ha
      have IX := Lib.hid ix
      have h0k : (0 : Int) ≤ (k : Int) := by omega
      have h0a : (0 : Int) ≤ (a : Int) := by omega
      have h0x : (0 : Int) ≤ (x.at_ : Int) := by omega
      rw [ha]
      clear hW hy yk ys yd ya ye hlk hx ha ix
      go_wp2_with (first | (go_at_call 24; ((with_reducible refine (CO.out _ (TI.below HTl.out (HGr.out.alloc HGr.out.size _))).mono ?_); rintro e w2 ⟨⟨a2, cp2, rfl, hr⟩, hb⟩; obtain ⟨b2, o2, ay, cpy, rfl, HB2, HIY, HIX, KS⟩ := own_state wr x y (.slice ax x.d.length cpx) HGr.out IX.out hb hr.sl; obtain ⟨z0, z1, z2, z3, z4, z5, z6, z7, y0, y1, y2, y3, y4, y5, y6, y7⟩ := KS.out _ (Below.refl _ _); clear hr hb y0 y1 y2 y3 y4 y5 y6 y7)) | (go_at_call 18; ((with_reducible refine (CL.out _).mono ?_); rintro e w3 ⟨rfl, hb⟩; have HB3 := Lib.hid hb; clear hb)))
      have C26 : Hid (∀ X, Below w2.heap.size w2 X → Calls Tryz.prog 26 #[tokV y (.slice ay y.d.length cpy), tokV x (.slice ax x.d.length cpx)] X fun e w' => e = .returned (.bool true) ∧ Below X.heap.size X w') := Lib.hid (fun X hX => by
        have h := c26 y x _ _ X (HIY.out.below hX) (HIX.out.below hX) (by rw [HY.out.2.1]; exact HY.out.2.2)
        rw [HY.out.1] at h
        exact h)
      go_region_held3 (fun w' : World => w'.cell? ⟨wr.heap.size, 0, none⟩ = some (.int .i64 x.k) ∧ w'.cell? ⟨wr.heap.size, 1, none⟩ = some (.string x.s) ∧ w'.cell? ⟨wr.heap.size, 2, none⟩ = some (.bool false) ∧ w'.cell? ⟨wr.heap.size, 3, none⟩ = some (.slice ax x.d.length cpx) ∧ w'.cell? ⟨wr.heap.size, 4, none⟩ = some (.int .i64 (x.at_ : Int)) ∧ w'.cell? ⟨wr.heap.size, 5, none⟩ = some (.int .i64 (x.en : Int)) ∧ w'.cell? ⟨wr.heap.size, 6, none⟩ = some (.int .i64 x.line) ∧ w'.cell? ⟨wr.heap.size, 7, none⟩ = some (.int .i64 x.col) ∧ w'.cell? ⟨b2, o2, none⟩ = some (.int .i64 y.k) ∧ w'.cell? ⟨b2, o2 + 1, none⟩ = some (.string y.s) ∧ w'.cell? ⟨b2, o2 + 2, none⟩ = some (.bool false) ∧ w'.cell? ⟨b2, o2 + 3, none⟩ = some (.slice ay y.d.length cpy) ∧ w'.cell? ⟨b2, o2 + 4, none⟩ = some (.int .i64 (y.at_ : Int)) ∧ w'.cell? ⟨b2, o2 + 5, none⟩ = some (.int .i64 (y.en : Int)) ∧ w'.cell? ⟨b2, o2 + 6, none⟩ = some (.int .i64 y.line) ∧ w'.cell? ⟨b2, o2 + 7, none⟩ = some (.int .i64 y.col)) (first | exact KS.out _ HB3.out | exact KS.out _ HB3.out.drew | exact KS.out _ HBN.out | exact KS.out _ HBN.out.drew)
        ((first | (go_at_call 26; ((with_reducible refine (C26.out _ (by first | exact HB3.out | exact HB3.out.drew)).mono ?_); rintro e w4 ⟨rfl, hbb⟩; have HBN : Hid (Below w2.heap.size w2 w4) := Lib.hid (by first | exact HB3.out.trans (hbb.mono HB3.out.size) | exact HB3.out.drew.trans (hbb.mono HB3.out.size)); clear hbb)) | (go_at_call 27; ((with_reducible refine (KK.out _ (TI.below HTl.out (HB2.out.trans ((show Below w2.heap.size w2 _ by first | exact HBN.out | exact HBN.out.drew).mono HB2.out.size)))).mono ?_); rintro e w5 ⟨rfl, hbb⟩; have hbn : Below w2.heap.size w2 w5 := (by first | exact HBN.out.trans (hbb.mono HBN.out.size) | exact HBN.out.drew.trans (hbb.mono HBN.out.size)); clear HBN hbb; have HBN := Lib.hid hbn; clear hbn))))
      clear z0 z1 z2 z3 z4 z5 z6 z7
      obtain ⟨z0, z1, z2, z3, z4, z5, z6, z7, y0, y1, y2, y3, y4, y5, y6, y7⟩ := KS.out _ HBN.out
      clear y0 y1 y2 y3 y4 y5 y6 y7
      go_wp2_with (go_at_call 24; ((with_reducible refine (CB.out _ (TI.below HTl.out (HB2.out.trans (HBN.out.mono HB2.out.size)))).mono ?_); rintro e w6 ⟨⟨a3, cp3, rfl, _⟩, hb⟩; obtain ⟨q0, q1, q2, q3, q4, q5, q6, q7, y0, y1, y2, y3, y4, y5, y6, y7⟩ := KS.out _ (HBN.out.trans (hb.mono HBN.out.size)); clear y0 y1 y2 y3 y4 y5 y6 y7; have HB6 := Lib.hid ((HBN.out.trans (hb.mono HBN.out.size))); clear hb))
      have hlt' := HLT.out
      exact ⟨⟨k + 1, by omega, by go_num, by rw [prevEn_next HX.out], HB2.out.trans (HB6.out.mono HB2.out.size)⟩, by simp [intOf]; omega⟩
    · have hltz : ¬ ((k : Int) < (l.length : Int)) := by omega
      go_wp2
      go_ret
      exact ⟨rfl, HB.out.trans (HGr.out.mono HB.out.size)⟩
end Go.Proofs.YtagcfgoofiibfaaGreatDoor
namespace Go.Proofs.YtagcfgoofiibfaaGreatDoor
open Go Go.RowKit

theorem dropWhile_all {p : UInt8 → Bool} : ∀ {l : List UInt8}, (∀ x ∈ l, p x = true) → l.dropWhile p = []
  | [], _ => rfl
  | a :: l, h => by rw [List.dropWhile_cons, if_pos (h a (by simp))]; exact dropWhile_all fun x hx => h x (by simp [hx])
/-- strings.Trim of blanks alone -/
theorem c93 (s : ByteArray) (w : World) (hs : s.size ≤ 9223372036854775807) (hb : ∀ k, k < s.size → blk (bt s k) = true) : Calls Tryz.prog 93 #[.string s, .string ⟨#[9, 10, 13, 32]⟩] w fun e w' => e = .returned (.string ByteArray.empty) ∧ Below w.heap.size w w' := by
  have h := Any.strings_Trim_laid Tryz.lays160 (by kernel_rfl) s ⟨#[9, 10, 13, 32]⟩ w hs (by decide) (ascii_of_all (l := [9, 10, 13, 32]) (by decide))
  have hall : ∀ x ∈ s.data.toList, ([9, 10, 13, 32] : List UInt8).contains x = true := by
    intro x hx
    obtain ⟨k, hk, he⟩ := List.getElem_of_mem hx
    have hk' : k < s.size := by rw [Array.length_toList] at hk; exact hk
    have h1 := hb k hk'
    unfold bt at h1
    rw [List.getD_eq_getElem?_getD, List.getElem?_eq_getElem hk, he] at h1
    simp only [Option.getD_some] at h1
    unfold blk at h1
    simp only [Bool.or_eq_true, decide_eq_true_eq] at h1
    have hn : ∀ d : UInt8, (x.toNat : Int) = (d.toNat : Int) → x = d := fun d e => UInt8.toNat.inj (by omega)
    rcases h1 with ((h1 | h1) | h1) | h1
    · rw [hn 32 h1]; decide
    · rw [hn 9 h1]; decide
    · rw [hn 10 h1]; decide
    · rw [hn 13 h1]; decide
  have he : Lib.trimS s.data.toList (⟨#[9, 10, 13, 32]⟩ : ByteArray).data.toList = [] := by
    unfold Lib.trimS Lib.trimRightS
    have e1 : (s.data.toList.reverse.dropWhile ((⟨#[9, 10, 13, 32]⟩ : ByteArray).data.toList.contains ·)) = [] := dropWhile_all (fun x hx => hall x (List.mem_reverse.1 hx))
    rw [e1]; rfl
  rw [he] at h
  exact h
set_option maxRecDepth 100000 in
set_option maxHeartbeats 1600000 in
theorem c54 (s : ByteArray) (w : World) (hs : s.size ≤ 9223372036854775807) (hb : ∀ k, k < s.size → blk (bt s k) = true) : Calls Tryz.prog 54 #[.string s] w fun e w' => e = .returned (.bool true) ∧ Below w.heap.size w w' := by
  have H93 := Lib.hid (fun W => c93 s W hs hb)
  clear hs hb
  go_enter Tryz.func54, Tryz.ntmps54
  go_wp2_with (go_at_call 93; ((with_reducible refine (H93.out _).mono ?_); rintro e w' ⟨rfl, hb⟩; have HB := Lib.hid hb; clear hb))
  go_ret
  exact ⟨rfl, HB.out⟩

set_option maxRecDepth 100000 in
set_option maxHeartbeats 3200000 in
/-- LexStripped where its guard lets nothing in -/
theorem c15no (s : ByteArray) (w : World) (hT : TI w) (hbad : ¬ (s.size ≤ 3000 ∧ ∃ l, tokens s = .ok l)) : Calls Tryz.prog 15 #[.string s] w fun e w' => e = .returned (.bool true) ∧ Below w.heap.size w w' := by
  have h17 := c17 s
  have HT := Lib.hid hT
  clear hT
  by_cases hs : s.size ≤ 3000
  case neg =>
    obtain ⟨p1, q1, h1⟩ := tok_any_call s
    have C1 := Lib.hid h1
    clear h1
    rw [decide_eq_false hs] at h17
    have H17 := Lib.hid h17
    clear h17 hbad hs
    go_enter Tryz.func15, Tryz.ntmps15
    go_wp2_with (first | (go_at_call 16; ((with_reducible refine (c16 _ HT.out).mono ?_); rintro e w' ⟨rfl, hb⟩; have HB := Lib.hid hb; clear hb)) | (go_at_call 17; ((with_reducible refine (H17.out _).mono ?_); rintro e w' ⟨rfl, rfl⟩)) | (go_at_call 24; ((with_reducible refine (C1.out _ (TI.below HT.out HB.out)).mono ?_); rintro e w' ⟨⟨a, n, cp, rfl⟩, hb⟩; have hB := HB.out.trans (hb.mono HB.out.size); clear HB hb; have HB := Lib.hid hB; clear hB)))
    go_ret
    exact ⟨rfl, HB.out⟩
  rw [decide_eq_true hs] at h17
  have H17 := Lib.hid h17
  clear h17
  rcases htok : tokens s with ⟨a, er⟩ | l
  · have he := (errors_plain s s hs hs a er htok).1
    have C3 := Lib.hid (tok_err_call s htok)
    have e0 : (er != 0) = true := by simp; omega
    clear htok hbad hs he
    go_enter Tryz.func15, Tryz.ntmps15
    go_wp2_with (first | (go_at_call 16; ((with_reducible refine (c16 _ HT.out).mono ?_); rintro e w' ⟨rfl, hb⟩; have HB := Lib.hid hb; clear hb)) | (go_at_call 17; ((with_reducible refine (H17.out _).mono ?_); rintro e w' ⟨rfl, rfl⟩)) | (go_at_call 24; ((with_reducible refine (C3.out _ (TI.below HT.out HB.out)).mono ?_); rintro e w' ⟨rfl, hb⟩; have hB := HB.out.trans (hb.mono HB.out.size); clear HB hb; have HB := Lib.hid hB; clear hB)))
    go_ret
    exact ⟨rfl, HB.out⟩
  exact absurd ⟨hs, l, htok⟩ hbad

set_option maxRecDepth 100000 in
set_option maxHeartbeats 6400000 in
theorem c15 (s : ByteArray) (w : World) (hT : TI w) : Calls Tryz.prog 15 #[.string s] w fun e w' => e = .returned (.bool true) ∧ Below w.heap.size w w' := by
  have h17 := c17 s
  have HT := Lib.hid hT
  clear hT
  by_cases hbad : ¬ (s.size ≤ 3000 ∧ ∃ l, tokens s = .ok l)
  · exact c15no s w HT.out hbad
  obtain ⟨hs, l, hl⟩ : s.size ≤ 3000 ∧ ∃ l, tokens s = .ok l := Classical.not_not.1 hbad
  clear hbad
  rw [decide_eq_true hs] at h17
  have H17 := Lib.hid h17
  clear h17
  obtain ⟨t, ht, hz, htk, hbl, hpe, hend⟩ := stripped_plain hs hl
  have C1 := Lib.hid (tok_ok_call s hl)
  have C2 := Lib.hid (tok_ok_call t htk)
  have C51 : Hid (∀ X, TI X → Calls Tryz.prog 51 #[.string s] X fun e w' => e = .returned (.tuple #[.string t, .int .i64 0]) ∧ Below X.heap.size X w') := Lib.hid (fun X hX => by
    have h := c51 H24 H68 s X hX (.inl (by omega))
    rw [ht] at h
    exact h)
  have DL := Lib.hid (tokens_d hl)
  have hz2 : ((t.size : Int) != (s.size : Int)) = false := by simp [hz]
  have HE := Lib.hid (And.intro hpe hend)
  have HBL := Lib.hid hbl
  have HZ := Lib.hid hz
  have HSZ := Lib.hid hs
  have hts : (t.size : Int) ≤ 3000 := by omega
  clear hl hs ht htk hbl hpe hend hz
  go_enter Tryz.func15, Tryz.ntmps15
  go_wp2_with (first | (go_at_call 16; ((with_reducible refine (c16 _ HT.out).mono ?_); rintro e w' ⟨rfl, hb⟩; have HB := Lib.hid hb; clear hb)) | (go_at_call 17; ((with_reducible refine (H17.out _).mono ?_); rintro e w' ⟨rfl, rfl⟩)) | (go_at_call 24; ((with_reducible refine (C1.out _ (TI.below HT.out HB.out)).mono ?_); rintro e w' ⟨⟨a1, cp1, rfl, hr⟩, hb⟩; have hB := HB.out.trans (hb.mono HB.out.size); have HR1 := Lib.hid hr.sl; clear HB hb hr; have HB := Lib.hid hB; clear hB)) | (go_at_call 51; ((with_reducible refine (C51.out _ (TI.below HT.out HB.out)).mono ?_); rintro e w' ⟨rfl, hb⟩; have hB := HB.out.trans (hb.mono HB.out.size); have hR := HR1.out.below hb; clear HB hb HR1; have HB := Lib.hid hB; have HR1 := Lib.hid hR; clear hB hR)) | (go_at_call 24; ((with_reducible refine (C2.out _ (TI.below HT.out HB.out)).mono ?_); rintro e w' ⟨⟨a2, cp2, rfl, hr⟩, hb⟩; have hB := HB.out.trans (hb.mono HB.out.size); have hR := HR1.out.below hb; have HR2 := Lib.hid hr.sl; clear HB hb hr HR1; have HB := Lib.hid hB; have HR1 := Lib.hid hR; clear hB hR)) | (go_at_call 39; ((with_reducible refine (c39 _ _ l _ HR2.out HR1.out DL.out).mono ?_); rintro e w' ⟨rfl, hb⟩; have hB := HB.out.trans (hb.mono HB.out.size); have hR := HR2.out.below hb; clear HB hb HR1 HR2; have HB := Lib.hid hB; have HR2 := Lib.hid hR; clear hB hR; obtain ⟨hc1, hm1⟩ := HR2.out.caps; have hmx : (maxLen : Nat) = 9223372036854775807 := rfl; have hln : (l.length : Int) ≤ 9223372036854775807 := (by omega); clear hc1 hm1 hmx)))
  go_loopw [10, 60] (fun s6 s34 wr => ∃ k : Nat, k ≤ l.length ∧ s34 = .int .i64 (k : Int) ∧ s6 = .int .i64 (prevEn l k : Int) ∧ Below w'.heap.size w' wr) (fun _ s34 _ => l.length - (intOf s34).toNat)
  case atStart => exact ⟨0, Nat.zero_le _, rfl, rfl, Below.refl _ _⟩
  case round =>
    obtain ⟨k, hk, rfl, rfl, hG⟩ := hrel
    have HGr := Lib.hid hG
    clear hG
    by_cases hlt : k < l.length
    · have hltz : (k : Int) < (l.length : Int) := by omega
      obtain ⟨b1, o1, x, dx, rfl, hb1, hx, ix, _, _, _, x0, x1, x2, x3, x4, x5, x6, x7⟩ := (HR2.out.below HGr.out).at k hlt
      obtain ⟨ax, cpx, rfl⟩ := row_form ix
      obtain ⟨g1, g2, g3⟩ := HBL.out k x hx
      have hzt := HZ.out
      have C54 : Hid (∀ X, Calls Tryz.prog 54 #[.string (t.extract (prevEn l k) x.at_)] X fun e w' => e = .returned (.bool true) ∧ Below X.heap.size X w') := Lib.hid (fun X => c54 _ X (by rw [size_ext _ _ _ (by omega)]; omega) (fun j hj => by
        rw [size_ext _ _ _ (by omega)] at hj
        rw [bt_ext _ _ _ _ hj (by omega)]
        exact g3 _ (by omega) (by omega)))
      obtain ⟨a, ha⟩ : ∃ a, prevEn l k = a := ⟨_, rfl⟩
      rw [ha] at g1 C54 ⊢
      have hap : (a : Int) ≤ (x.at_ : Int) := by omega
      have hel : (x.at_ : Int) ≤ (t.size : Int) := by omega
      have h0k : (0 : Int) ≤ (k : Int) := by omega
      have h0a : (0 : Int) ≤ (a : Int) := by omega
      have h0x : (0 : Int) ≤ (x.at_ : Int) := by omega
      have HX := Lib.hid hx
      have HLT := Lib.hid hlt
      clear g1 g2 g3 hx ha ix hzt
      go_wp2_with (go_at_call 54; ((with_reducible refine (C54.out _).mono ?_); rintro e w4 ⟨rfl, hb⟩; obtain ⟨z0, z1, z2, z3, z4, z5, z6, z7⟩ := (TokBlk.made wr x (.slice ax x.d.length cpx)).below (by simp) hb; have hb4 := (HGr.out.alloc HGr.out.size _).trans (hb.mono (by simp; have := HGr.out.size; omega)); clear hb; have HB4 := Lib.hid hb4; clear hb4))
      have hlt' := HLT.out
      exact ⟨⟨k + 1, by omega, by go_num, by rw [prevEn_next HX.out], HB4.out⟩, by simp [intOf]; omega⟩
    · have hltz : ¬ ((k : Int) < (l.length : Int)) := by omega
      obtain rfl : k = l.length := by omega
      obtain ⟨g1, g2⟩ := HE.out
      have hzt := HZ.out
      have C54 : Hid (∀ X, Calls Tryz.prog 54 #[.string (t.extract (prevEn l l.length) t.size)] X fun e w' => e = .returned (.bool true) ∧ Below X.heap.size X w') := Lib.hid (fun X => c54 _ X (by rw [size_ext _ _ _ (by omega)]; omega) (fun j hj => by
        rw [size_ext _ _ _ (by omega)] at hj
        rw [bt_ext _ _ _ _ hj (by omega)]
        exact g2 _ (by omega) (by omega)))
      obtain ⟨a, ha⟩ : ∃ a, prevEn l l.length = a := ⟨_, rfl⟩
      rw [ha] at g1 C54 ⊢
      have hap : (a : Int) ≤ (t.size : Int) := by omega
      have h0a : (0 : Int) ≤ (a : Int) := by omega
      clear g1 g2 ha hzt
      go_wp2_with (go_at_call 54; ((with_reducible refine (C54.out _).mono ?_); rintro e w' ⟨rfl, hb⟩; have HB9 := Lib.hid hb; clear hb))
      go_ret
      exact ⟨rfl, HB.out.trans ((HGr.out.trans (HB9.out.mono HGr.out.size)).mono HB.out.size)⟩
end Go.Proofs.YtagcfgoofiibfaaGreatDoor
namespace Go.Proofs.YtagcfgoofiibfaaGreatDoor
open Go Go.ChangeMaps Go.ChangeShapes Go.WideShapes Go.ChangeAt Go.RowKit

set_option maxRecDepth 100000 in
theorem lexStripped_lifted (os : Os) (started : os.Started) (H : Type) (enc : TypeId × Value → H) :
    ReturnsInHanded {} Tryz.checked os 15 .any (fun w args => (Rows.lexStrippedSpec.pre enc Tryz.prog Tryz.f15 [] false w args ∧ laidMetH Tryz.prog laidL w) ∧ sizedMet enc Tryz.prog Tryz.f15 (OpenSpec.ofChange Rows.lexStrippedSpec) false w args)
      (Rows.lexStrippedSpec.post enc Tryz.prog Tryz.f15 false true false false) := by
  refine returnsInHanded_of_change_and (C := Tryz.checked) (X := fun w _ => laidMetH Tryz.prog laidL w) (fun _ _ _ hh h => h.of_heap hh) own started (by kernel_rfl) Tryz.func15
    (ChangeSpec.witness_shaped (enc := enc) (C := Tryz.checked) (os := os) (X := fun w _ => laidMetH Tryz.prog laidL w) false (World.laidAll Tryz.prog os laidL) #[.string ByteArray.empty] 8 (World.laidAll_os _ _ _)
      (start_shaped os) (by kernel_rfl) (by kernel_rfl) (by kernel_rfl) (start_met os _)) ?_
  intro W base args ds gs before hval0 hW _ _ hL _
  have hval : ∀ (j : Nat) t v, Tryz.f15.params[j]? = some t → args[j]? = some v → Value.okWide Tryz.prog W .any base t v := hval0
  have hW' := hW
  obtain ⟨p, q, hA0, hV, rfl, _, _⟩ := hW
  have hA : DataW.TrodAll enc Tryz.prog W 0 (fun _ => true) true Tryz.f15.params.toList args.toList ds p := hA0
  rw [Tryz.params15] at hA hval
  obtain ⟨v0, d0, rfl, rfl, h0⟩ := trodAll_one hA
  obtain ⟨rfl, rfl⟩ := trodVars_none hV
  obtain ⟨x0, rfl, rfl, rfl, wx0⟩ := open_string Tryz.underlying9 (hval 0 9 v0 rfl rfl) h0
  simp only [List.append_nil] at hW'
  refine (c15 x0 W (ti_of_laid hL)).mono fun e W' ⟨he, hb⟩ => ?_
  subst he
  exact ⟨_, rfl, _, _, _, [], [], [], hW', trodAll_mk1 (shut_bool Tryz.underlying4 _), trodAll_mk1 (shut_string Tryz.underlying9 wx0), rfl, hb.frame _, fun h => by cases h⟩

theorem lexStripped_bare : Rows.LexStrippedSaid :=
  OpenClaim.holds_of_wide 15 Tryz.f15 rfl rfl rfl rfl rfl rfl rfl ⟨rfl, rfl, rfl, rfl, rfl⟩ rfl rfl rfl rfl rfl lexStripped_named Tryz.func15 lexStripped_closed
    (of_decide_eq_true (by kernel_rfl)) lexStripped_wrap (fun os started H enc _ => lexStripped_lifted os started H enc)
theorem lexStripped_holds : Rows.LexStrippedCardSaid :=
  Claim7.holds_tied_plain_at .later [] [.data, .data, .data, .data, .listed, .data, .pinned] true (true, "598e79093b2262133a9d99cdf3b0e1040e74e7a98986b3c01bfbd78ee9122216") true
    lexStripped_bare (fun _ h => by cases h) (by kernel_rfl) (fun _ h => by cases h) lexStripped_row_tie rfl ⟨rfl, rfl⟩ lexStripped_main rfl
    (fun f fn hf hfn => by
      obtain rfl : f = 15 := Option.some.inj (lexStripped_named.symm.trans hf) |>.symm
      obtain rfl : fn = Tryz.f15 := (Option.some.inj (Tryz.func15.symm.trans hfn)).symm
      exact ⟨lexStripped_looks, fun j t ht => by
        rw [Tryz.params15] at ht
        have hm : t ∈ [9] := by simpa using Array.mem_of_getElem? ht
        have hall : ([9].all fun u => !Tryz.prog.wantsStandIn u) = true := by kernel_rfl
        exact (show Tryz.prog.wantsStandIn t = false by simpa using List.all_eq_true.1 hall t hm)⟩)
    lexStripped_goes
#print axioms lexStripped_holds
end Go.Proofs.YtagcfgoofiibfaaGreatDoor
