/- The law LexPlaced: its walk and its statement: LA0, LA1, LC0, LD0, LD1, LD2, LD4, NP0, NP1, LY0, LZ10. -/
import Derived.Test.YtagcfgoofiibfaaGreatDoorG40
import Derived.Test.YtagcfgoofiibfaaGreatDoorLexPlacedJ
import Derived.Test.YtagcfgoofiibfaaGreatDoorLexPlacedP
import Derived.Test.YtagcfgoofiibfaaGreatDoorG41
import Derived.Test.YtagcfgoofiibfaaGreatDoorLexPlacedN
import Derived.Test.YtagcfgoofiibfaaGreatDoorLexPlacedF
set_option linter.unusedVariables false
set_option linter.unusedSimpArgs false
namespace Go.Proofs.YtagcfgoofiibfaaGreatDoor
open Go Go.RowKit

theorem c60 (l c b : Int) (hl0 : 1 ≤ l) (hl : l ≤ 1099511627776) (hc0 : 1 ≤ c) (hc : c ≤ 1099511627776) (w : World) :
    Calls Tryz.prog 60 #[.int .i64 l, .int .i64 c, .int .u8 b] w fun e w' => e = .returned (.tuple #[.int .i64 (nxt l c b).1, .int .i64 (nxt l c b).2]) ∧ w' = w := by
  rcases h1 : (b == 10) with _ | _
  · rcases h2 : (b == 9) with _ | _
    · go_enter Tryz.func60, Tryz.ntmps60
      go_wp2
      refine bodyPost_ret (v := .tuple #[.int .i64 l, .int .i64 (c + 1)]) (by simp [results, Tryz.results60, go_sem]) rfl ⟨?_, rfl⟩
      simp at h1 h2; simp [nxt, h1, h2]
    · go_enter Tryz.func60, Tryz.ntmps60
      go_wp2
      refine bodyPost_ret (v := .tuple #[.int .i64 l, .int .i64 ((c - 1) / 8 * 8 + 8 + 1)]) (by simp [results, Tryz.results60, go_sem]) rfl ⟨?_, rfl⟩
      simp at h2; simp [nxt, h2]
  · go_enter Tryz.func60, Tryz.ntmps60
    go_wp2
    refine bodyPost_ret (v := .tuple #[.int .i64 (l + 1), .int .i64 1]) (by simp [results, Tryz.results60, go_sem]) rfl ⟨?_, rfl⟩
    simp at h1; simp [nxt, h1]

theorem c60pos (s : ByteArray) (k : Nat) (hk : k < s.size) (hsz : s.size ≤ 1073741824) (w : World) :
    Calls Tryz.prog 60 #[.int .i64 (pos s k).1, .int .i64 (pos s k).2, .int .u8 ((s[k]'hk).toNat : Int)] w fun e w' => e = .returned (.tuple #[.int .i64 (pos s (k + 1)).1, .int .i64 (pos s (k + 1)).2]) ∧ w' = w := by
  obtain ⟨h1, h2, h3, h4⟩ := pos_bd s k
  have h := c60 (pos s k).1 (pos s k).2 (bt s k) h1 (by omega) h3 (by omega) w
  rw [bt_get s k hk]
  exact h

set_option maxRecDepth 100000 in
set_option maxHeartbeats 1600000 in
theorem c19 (s : ByteArray) (at_ : Int) (w : World) (hsz : s.size ≤ 1073741824) : Calls Tryz.prog 19 #[.string s, .int .i64 at_] w fun e w' => (if 0 ≤ at_ ∧ at_ ≤ s.size then e = .returned (.tuple #[.int .i64 (pos s at_.toNat).1, .int .i64 (pos s at_.toNat).2, .int .i64 0]) else e = .returned (.tuple #[.int .i64 0, .int .i64 0, .int .i64 1])) ∧ w' = w := by
  by_cases h0 : at_ < 0
  · have hf : (0 ≤ at_ ∧ at_ ≤ s.size) = False := eq_false (by omega)
    simp only [hf, if_false]
    go_enter Tryz.func19, Tryz.ntmps19
    go_wp2
    exact bodyPost_ret (v := .tuple #[.int .i64 0, .int .i64 0, .int .i64 1]) (by simp [results, Tryz.results19, go_sem]) rfl ⟨rfl, rfl⟩
  · by_cases h1 : at_ > (s.size : Int)
    · have hf : (0 ≤ at_ ∧ at_ ≤ s.size) = False := eq_false (by omega)
      simp only [hf, if_false]
      go_enter Tryz.func19, Tryz.ntmps19
      go_wp2
      exact bodyPost_ret (v := .tuple #[.int .i64 0, .int .i64 0, .int .i64 1]) (by simp [results, Tryz.results19, go_sem]) rfl ⟨rfl, rfl⟩
    · have hf : (0 ≤ at_ ∧ at_ ≤ s.size) = True := eq_true (by omega)
      simp only [hf, if_true]
      clear hf
      obtain ⟨n, rfl⟩ : ∃ n : Nat, at_ = (n : Int) := ⟨at_.toNat, by omega⟩
      have hn : n ≤ s.size := by omega
      rw [show (n : Int).toNat = n from rfl]
      go_enter Tryz.func19, Tryz.ntmps19
      go_wp2
      go_loopw [7, 8, 9] (fun s7 s8 s9 wr => ∃ k : Nat, k ≤ n ∧ s7 = .int .i64 (pos s k).1 ∧ s8 = .int .i64 (pos s k).2 ∧ s9 = .int .i64 (k : Int) ∧ wr = w) (fun _ _ s9 _ => n - (intOf s9).toNat)
      case atStart => exact ⟨0, Nat.zero_le _, rfl, rfl, rfl, rfl⟩
      case round =>
        obtain ⟨k, hk, rfl, rfl, rfl, rfl⟩ := hrel
        by_cases hlt : k < n
        · have hltz : (k : Int) < (n : Int) := by omega
          have hks : k < s.size := by omega
          have hksz : (k : Int) < (s.size : Int) := by omega
          have hw : wrap64 ((k : Int) + 1) = ((k + 1 : Nat) : Int) := by unfold wrap64; omega
          have CC := Lib.hid (c60pos s k hks hsz wr)
          have HX := Lib.hid (And.intro hlt hw)
          clear hw hsz hk hn h0 h1
          go_wp2_with (go_at_call 60; ((with_reducible refine CC.out.mono ?_); rintro e w' ⟨rfl, rfl⟩))
          rw [HX.out.2]
          have hl := HX.out.1
          refine ⟨⟨k + 1, hl, rfl, rfl, rfl, by first | rfl | trivial⟩, ?_⟩
          show n - (((k + 1 : Nat) : Int)).toNat < n - ((k : Int)).toNat
          omega
        · have hltz : ¬ ((k : Int) < (n : Int)) := by omega
          obtain rfl : k = n := by omega
          go_wp2
          exact bodyPost_ret (v := .tuple #[.int .i64 (pos s k).1, .int .i64 (pos s k).2, .int .i64 0]) (by simp [results, Tryz.results19, go_sem]) rfl ⟨rfl, rfl⟩

/-- Byte's answer -/
def bytV (s : ByteArray) (l c : Int) : Value := match byteF s l c with | some i => .tuple #[.int .i64 (i : Int), .int .i64 0] | none => .tuple #[.int .i64 0, .int .i64 3]
theorem bytV_some {s : ByteArray} {l c : Int} {i : Nat} (h : byteF s l c = some i) : bytV s l c = .tuple #[.int .i64 (i : Int), .int .i64 0] := by unfold bytV; rw [h]
theorem bytV_none {s : ByteArray} {l c : Int} (h : byteF s l c = none) : bytV s l c = .tuple #[.int .i64 0, .int .i64 3] := by unfold bytV; rw [h]

set_option maxRecDepth 100000 in
set_option maxHeartbeats 1600000 in
theorem c21 (s : ByteArray) (l c : Int) (w : World) (hsz : s.size ≤ 1073741824) : Calls Tryz.prog 21 #[.string s, .int .i64 l, .int .i64 c] w fun e w' => e = .returned (bytV s l c) ∧ w' = w := by
  go_enter Tryz.func21, Tryz.ntmps21
  go_wp2
  go_loopw [8, 9, 10] (fun s8 s9 s10 wr => ∃ k : Nat, k ≤ s.size + 1 ∧ (∀ j, j < k → pos s j ≠ (l, c)) ∧ (k ≤ s.size → s8 = .int .i64 (pos s k).1 ∧ s9 = .int .i64 (pos s k).2) ∧ s10 = .int .i64 (k : Int) ∧ wr = w) (fun _ _ s10 _ => s.size + 1 - (intOf s10).toNat)
  case atStart => exact ⟨0, Nat.zero_le _, fun j hj => absurd hj (Nat.not_lt_zero _), fun _ => ⟨rfl, rfl⟩, rfl, rfl⟩
  case round =>
    obtain ⟨k, hk, hno, hp, rfl, rfl⟩ := hrel
    by_cases hle : k ≤ s.size
    · obtain ⟨rfl, rfl⟩ := hp hle
      have hlez : (k : Int) ≤ (s.size : Int) := by omega
      have hw : wrap64 ((k : Int) + 1) = ((k + 1 : Nat) : Int) := by unfold wrap64; omega
      by_cases he : pos s k = (l, c)
      · have e1 : ((pos s k).1 == l) = true := by rw [he]; simp
        have e2 : ((pos s k).2 == c) = true := by rw [he]; simp
        have hb := byteF_some s l c k hle he
        have HB := Lib.hid hb
        clear hb hno hp
        go_wp2
        rw [bytV_some HB.out]
        exact bodyPost_ret (v := .tuple #[.int .i64 (k : Int), .int .i64 0]) (by simp [results, Tryz.results21, go_sem]) rfl ⟨rfl, rfl⟩
      · have e12 : ((pos s k).1 == l) = false ∨ ((pos s k).1 == l) = true ∧ ((pos s k).2 == c) = false := by
          by_cases h : (pos s k).1 = l
          · refine .inr ⟨by simpa using h, ?_⟩
            have : (pos s k).2 ≠ c := fun h2 => he (Prod.ext h h2)
            simpa using this
          · exact .inl (by simpa using h)
        have HNO : Hid (∀ j, j < k + 1 → pos s j ≠ (l, c)) := Lib.hid fun j hj => by
          rcases Nat.lt_or_ge j k with h | h
          · exact hno j h
          · obtain rfl : j = k := by omega
            exact he
        clear hno he hp
        have HX := Lib.hid (And.intro hle hw)
        clear hw
        by_cases hlt : k < s.size
        · have hltz : (k : Int) < (s.size : Int) := by omega
          have CC := Lib.hid (c60pos s k hlt hsz wr)
          have HL := Lib.hid hlt
          clear hsz hk hle
          rcases e12 with e1 | ⟨e1, e2⟩
          · go_wp2_with (go_at_call 60; ((with_reducible refine CC.out.mono ?_); rintro e w' ⟨rfl, rfl⟩))
            rw [HX.out.2]
            have hl := HL.out
            refine ⟨⟨k + 1, by omega, HNO.out, fun _ => ⟨rfl, rfl⟩, rfl, by first | rfl | trivial⟩, ?_⟩
            show s.size + 1 - (((k + 1 : Nat) : Int)).toNat < s.size + 1 - ((k : Int)).toNat
            omega
          · go_wp2_with (go_at_call 60; ((with_reducible refine CC.out.mono ?_); rintro e w' ⟨rfl, rfl⟩))
            rw [HX.out.2]
            have hl := HL.out
            refine ⟨⟨k + 1, by omega, HNO.out, fun _ => ⟨rfl, rfl⟩, rfl, by first | rfl | trivial⟩, ?_⟩
            show s.size + 1 - (((k + 1 : Nat) : Int)).toNat < s.size + 1 - ((k : Int)).toNat
            omega
        · have hltz : ¬ ((k : Int) < (s.size : Int)) := by omega
          have HKS := Lib.hid (show k = s.size by omega)
          clear hsz hk hle
          rcases e12 with e1 | ⟨e1, e2⟩
          · go_wp2
            rw [HX.out.2]
            have hks := HKS.out
            refine ⟨⟨k + 1, by omega, HNO.out, fun h => absurd h (by omega), rfl, by first | rfl | trivial⟩, ?_⟩
            show s.size + 1 - (((k + 1 : Nat) : Int)).toNat < s.size + 1 - ((k : Int)).toNat
            omega
          · go_wp2
            rw [HX.out.2]
            have hks := HKS.out
            refine ⟨⟨k + 1, by omega, HNO.out, fun h => absurd h (by omega), rfl, by first | rfl | trivial⟩, ?_⟩
            show s.size + 1 - (((k + 1 : Nat) : Int)).toNat < s.size + 1 - ((k : Int)).toNat
            omega
    · have hlez : ¬ ((k : Int) ≤ (s.size : Int)) := by omega
      have hb := byteF_none s l c (fun i hi => hno i (by omega))
      clear hp hno
      go_wp2
      rw [bytV_none hb]
      exact bodyPost_ret (v := .tuple #[.int .i64 0, .int .i64 3]) (by simp [results, Tryz.results21, go_sem]) rfl ⟨rfl, rfl⟩
end Go.Proofs.YtagcfgoofiibfaaGreatDoor
namespace Go.Proofs.YtagcfgoofiibfaaGreatDoor
open Go Go.RowKit

theorem c17 (s : ByteArray) (w : World) : Calls Tryz.prog 17 #[.string s] w fun e w' => e = .returned (.bool (decide (s.size ≤ 3000))) ∧ w' = w := by
  by_cases h : s.size ≤ 3000
  · have hz : (s.size : Int) ≤ 3000 := by omega
    rw [decide_eq_true h]
    go_enter Tryz.func17, Tryz.ntmps17
    go_wp2
    go_ret
    exact ⟨rfl, rfl⟩
  · have hz : ¬ ((s.size : Int) ≤ 3000) := by omega
    rw [decide_eq_false h]
    go_enter Tryz.func17, Tryz.ntmps17
    go_wp2
    go_ret
    exact ⟨rfl, rfl⟩

/-- both Locates, one answer -/
theorem locate_both (s : ByteArray) (at_ : Int) (hsz : s.size ≤ 1073741824) : ∃ x y z : Int,
    (∀ w, Calls Tryz.prog 18 #[.string s, .int .i64 at_] w fun e w' => e = .returned (.tuple #[.int .i64 x, .int .i64 y, .int .i64 z]) ∧ Below w.heap.size w w') ∧
    (∀ w, Calls Tryz.prog 19 #[.string s, .int .i64 at_] w fun e w' => e = .returned (.tuple #[.int .i64 x, .int .i64 y, .int .i64 z]) ∧ w' = w) := by
  by_cases h : 0 ≤ at_ ∧ at_ ≤ s.size
  · refine ⟨(pos s at_.toNat).1, (pos s at_.toNat).2, 0, fun w => (c18 s at_ w hsz).mono ?_, fun w => (c19 s at_ w hsz).mono ?_⟩
    · rintro e w' ⟨h1, h2⟩
      rw [if_pos h] at h1
      exact ⟨h1, h2⟩
    · rintro e w' ⟨h1, h2⟩
      rw [if_pos h] at h1
      exact ⟨h1, h2⟩
  · refine ⟨0, 0, 1, fun w => (c18 s at_ w hsz).mono ?_, fun w => (c19 s at_ w hsz).mono ?_⟩
    · rintro e w' ⟨h1, h2⟩
      rw [if_neg h] at h1
      exact ⟨h1, h2⟩
    · rintro e w' ⟨h1, h2⟩
      rw [if_neg h] at h1
      exact ⟨h1, h2⟩
theorem byte_both (s : ByteArray) (l c : Int) (hsz : s.size ≤ 1073741824) : ∃ x y : Int,
    (∀ w, Calls Tryz.prog 20 #[.string s, .int .i64 l, .int .i64 c] w fun e w' => e = .returned (.tuple #[.int .i64 x, .int .i64 y]) ∧ Below w.heap.size w w') ∧
    (∀ w, Calls Tryz.prog 21 #[.string s, .int .i64 l, .int .i64 c] w fun e w' => e = .returned (.tuple #[.int .i64 x, .int .i64 y]) ∧ w' = w) := by
  rcases hb : byteF s l c with _ | i
  · refine ⟨0, 3, fun w => (c20 s l c w hsz).mono ?_, fun w => (c21 s l c w hsz).mono ?_⟩
    · rintro e w' h
      unfold bytTo at h
      rw [hb] at h
      exact h
    · rintro e w' h
      rw [bytV_none hb] at h
      exact h
  · refine ⟨i, 0, fun w => (c20 s l c w hsz).mono ?_, fun w => (c21 s l c w hsz).mono ?_⟩
    · rintro e w' h
      unfold bytTo at h
      rw [hb] at h
      exact h
    · rintro e w' h
      rw [bytV_some hb] at h
      exact h

set_option maxRecDepth 100000 in
set_option maxHeartbeats 1600000 in
theorem c3 (s : ByteArray) (at_ l c : Int) (w : World) (hT : TI w) : Calls Tryz.prog 3 #[.string s, .int .i64 at_, .int .i64 l, .int .i64 c] w fun e w' => e = .returned (.bool true) ∧ Below w.heap.size w w' := by
  have h17 := c17 s
  have HT := Lib.hid hT
  clear hT
  rcases hsh : decide (s.size ≤ 3000) with _ | _
  · rw [hsh] at h17
    have H17 := Lib.hid h17
    clear h17 hsh
    go_enter Tryz.func3, Tryz.ntmps3
    go_wp2_with (first | (go_at_call 16; ((with_reducible refine (c16 _ HT.out).mono ?_); rintro e w' ⟨rfl, hb⟩; have HB := Lib.hid hb; clear hb)) | (go_at_call 17; ((with_reducible refine (H17.out _).mono ?_); rintro e w' ⟨rfl, rfl⟩)))
    go_ret
    exact ⟨rfl, HB.out⟩
  · have hsz : s.size ≤ 1073741824 := by have := of_decide_eq_true hsh; omega
    rw [hsh] at h17
    have H17 := Lib.hid h17
    obtain ⟨x, y, z, h18, h19⟩ := locate_both s at_ hsz
    obtain ⟨p, q, h20, h21⟩ := byte_both s l c hsz
    have H18 := Lib.hid h18
    have H19 := Lib.hid h19
    have H20 := Lib.hid h20
    have H21 := Lib.hid h21
    clear h17 hsh hsz h18 h19 h20 h21
    go_enter Tryz.func3, Tryz.ntmps3
    go_wp2_with (first | (go_at_call 16; ((with_reducible refine (c16 _ HT.out).mono ?_); rintro e w' ⟨rfl, hb⟩; have HB := Lib.hid hb; clear hb)) | (go_at_call 17; ((with_reducible refine (H17.out _).mono ?_); rintro e w' ⟨rfl, rfl⟩)) | (go_at_call 18; ((with_reducible refine (H18.out _).mono ?_); rintro e w' ⟨rfl, hb⟩; have hB := HB.out.trans (hb.mono HB.out.size); clear HB hb; have HB := Lib.hid hB; clear hB)) | (go_at_call 19; ((with_reducible refine (H19.out _).mono ?_); rintro e w' ⟨rfl, rfl⟩)) | (go_at_call 20; ((with_reducible refine (H20.out _).mono ?_); rintro e w' ⟨rfl, hb⟩; have hB := HB.out.trans (hb.mono HB.out.size); clear HB hb; have HB := Lib.hid hB; clear hB)) | (go_at_call 21; ((with_reducible refine (H21.out _).mono ?_); rintro e w' ⟨rfl, rfl⟩)))
    go_ret
    exact ⟨rfl, HB.out⟩
end Go.Proofs.YtagcfgoofiibfaaGreatDoor
namespace Go.Proofs.YtagcfgoofiibfaaGreatDoor
open Go Go.RowKit

theorem item_err (s : ByteArray) (i : Nat) (e : Int) (h : item s i = .bad e) : 20 ≤ e := by
  unfold item at h
  split at h
  · cases h
  · split at h
    · split at h
      · injection h with h; omega
      · cases h
    · split at h
      · cases h
      · injection h with h
        subst h
        rename_i h
        exact (tokF_err s i _ h).1
/-- what LexErrors says, in plain words -/
theorem errors_plain (s m : ByteArray) (hs : s.size ≤ 3000) (hm : m.size ≤ 3000) (a : Nat) (e : Int) (h : tokens s = .error (a, e)) :
    20 ≤ e ∧ a < s.size ∧ (∃ ts, tokens (s.extract 0 a) = .ok ts) ∧ (e ≠ 22 → tokens (s ++ ⟨#[10]⟩ ++ m) = .error (a, e)) := by
  rw [tokens_err_iff s (by omega)] at h
  obtain ⟨_, h2, _, h4⟩ := h.pt
  have hx := size_ext s 0 a (by omega)
  refine ⟨item_err s a e h4, h2, ?_, fun he => ?_⟩
  · obtain ⟨ps, ys, h5⟩ := err_prefix h
    exact ⟨_, (tokens_ok_iff _ (by rw [hx]; omega) _).2 ⟨ps, ys, h5, rfl⟩⟩
  · rw [tokens_err_iff _ (by rw [ByteArray.size_append, ByteArray.size_append]; show s.size + 1 + m.size ≤ 20000; omega)]
    exact err_more h he m

theorem tok_err_call {r : Nat × Int} (s : ByteArray) (h : tokens s = .error r) (w : World) (hT : TI w) : Calls Tryz.prog 24 #[.string s] w fun e w' => e = .returned (.tuple #[.slice none 0 0, .int .i64 (r.1 : Int), .int .i64 r.2]) ∧ Below w.heap.size w w' := by
  have := H24 s w hT
  rw [h] at this
  exact this
theorem tok_ok_call {ts : List Tk} (s : ByteArray) (h : tokens s = .ok ts) (w : World) (hT : TI w) : Calls Tryz.prog 24 #[.string s] w fun e w' => (∃ a cp, e = .returned (.tuple #[.slice a ts.length cp, .int .i64 0, .int .i64 0]) ∧ TokRow w' (.slice a ts.length cp) ts) ∧ Below w.heap.size w w' := by
  refine (H24 s w hT).mono ?_
  rw [h]
  rintro e w' ⟨⟨v, rfl, hr⟩, hb⟩
  obtain ⟨a, cp, rfl, _⟩ := hr.shape
  exact ⟨⟨a, cp, rfl, hr⟩, hb⟩
/-- Tokens, whatever it answers -/
theorem tok_any_call (s : ByteArray) : ∃ (p q : Int), ∀ (w : World), TI w → Calls Tryz.prog 24 #[.string s] w fun e w' => (∃ a n cp, e = .returned (.tuple #[.slice a n cp, .int .i64 p, .int .i64 q])) ∧ Below w.heap.size w w' := by
  rcases h : tokens s with ⟨a, e⟩ | ts
  · exact ⟨a, e, fun w hT => (tok_err_call s h w hT).mono fun e w' hh => ⟨⟨_, _, _, hh.1⟩, hh.2⟩⟩
  · exact ⟨0, 0, fun w hT => (tok_ok_call s h w hT).mono fun e w' hh => ⟨by obtain ⟨a, cp, h1, _⟩ := hh.1; exact ⟨_, _, _, h1⟩, hh.2⟩⟩

set_option maxRecDepth 100000 in
set_option maxHeartbeats 1600000 in
theorem c7 (s m : ByteArray) (w : World) (hT : TI w) : Calls Tryz.prog 7 #[.string s, .string m] w fun e w' => e = .returned (.bool true) ∧ Below w.heap.size w w' := by
  have h17 := c17 s
  have k17 := c17 m
  have HT := Lib.hid hT
  clear hT
  rcases hsh : decide (s.size ≤ 3000) with _ | _
  · rw [hsh] at h17
    have H17 := Lib.hid h17
    clear h17 hsh k17
    go_enter Tryz.func7, Tryz.ntmps7
    go_wp2_with (first | (go_at_call 16; ((with_reducible refine (c16 _ HT.out).mono ?_); rintro e w' ⟨rfl, hb⟩; have HB := Lib.hid hb; clear hb)) | (go_at_call 17; ((with_reducible refine (H17.out _).mono ?_); rintro e w' ⟨rfl, rfl⟩)))
    go_ret
    exact ⟨rfl, HB.out⟩
  rcases hmh : decide (m.size ≤ 3000) with _ | _
  · rw [hsh] at h17
    rw [hmh] at k17
    have H17 := Lib.hid h17
    have K17 := Lib.hid k17
    clear h17 hsh k17 hmh
    go_enter Tryz.func7, Tryz.ntmps7
    go_wp2_with (first | (go_at_call 16; ((with_reducible refine (c16 _ HT.out).mono ?_); rintro e w' ⟨rfl, hb⟩; have HB := Lib.hid hb; clear hb)) | (go_at_call 17; ((with_reducible refine (H17.out _).mono ?_); rintro e w' ⟨rfl, rfl⟩)) | (go_at_call 17; ((with_reducible refine (K17.out _).mono ?_); rintro e w' ⟨rfl, rfl⟩)))
    go_ret
    exact ⟨rfl, HB.out⟩
  have hs := of_decide_eq_true hsh
  have hm := of_decide_eq_true hmh
  rw [hsh] at h17
  rw [hmh] at k17
  have H17 := Lib.hid h17
  have K17 := Lib.hid k17
  clear h17 hsh k17 hmh
  rcases htok : tokens s with ⟨a, er⟩ | ts
  · obtain ⟨he, ha, ⟨ts, hp⟩, hq⟩ := errors_plain s m hs hm a er htok
    have C1 := Lib.hid (tok_err_call s htok)
    have C2 := Lib.hid (tok_ok_call (s.extract 0 a) hp)
    have e0 : (er == 0) = false := by simp; omega
    have haz : ¬ ((a : Int) < 0) := by omega
    have haz2 : ¬ ((a : Int) ≥ (s.size : Int)) := by omega
    have w1 : s.size + 1 ≤ 9223372036854775807 := by omega
    have w2 : s.size + 1 + m.size ≤ 9223372036854775807 := by omega
    have haz3 : (a : Int) ≤ (s.size : Int) := by omega
    have HA := Lib.hid ha
    by_cases h22 : er = 22
    · obtain ⟨p, q, h3⟩ := tok_any_call (s ++ ⟨#[10]⟩ ++ m)
      have C3 := Lib.hid h3
      subst h22
      clear htok hp hq he ha hs hm h3
      go_enter Tryz.func7, Tryz.ntmps7
      go_wp2_with (first | (go_at_call 16; ((with_reducible refine (c16 _ HT.out).mono ?_); rintro e w' ⟨rfl, hb⟩; have HB := Lib.hid hb; clear hb)) | (go_at_call 17; ((with_reducible refine (H17.out _).mono ?_); rintro e w' ⟨rfl, rfl⟩)) | (go_at_call 17; ((with_reducible refine (K17.out _).mono ?_); rintro e w' ⟨rfl, rfl⟩)) | (go_at_call 24; ((with_reducible refine (C1.out _ (TI.below HT.out HB.out)).mono ?_); rintro e w' ⟨rfl, hb⟩; have hB := HB.out.trans (hb.mono HB.out.size); clear HB hb; have HB := Lib.hid hB; clear hB)) | (go_at_call 24; ((with_reducible refine (C2.out _ (TI.below HT.out HB.out)).mono ?_); rintro e w' ⟨⟨a2, cp2, rfl, _⟩, hb⟩; have hB := HB.out.trans (hb.mono HB.out.size); clear HB hb; have HB := Lib.hid hB; clear hB)) | (go_at_call 24; ((with_reducible refine (C3.out _ (TI.below HT.out HB.out)).mono ?_); rintro e w' ⟨⟨a3, n3, cp3, rfl⟩, hb⟩; have hB := HB.out.trans (hb.mono HB.out.size); clear HB hb; have HB := Lib.hid hB; clear hB)))
      go_ret
      exact ⟨rfl, HB.out⟩
    · have C3 := Lib.hid (tok_err_call _ (hq h22))
      have e22 : (er == 22) = false := by simpa using h22
      clear htok hp hq he ha hs hm h22
      go_enter Tryz.func7, Tryz.ntmps7
      go_wp2_with (first | (go_at_call 16; ((with_reducible refine (c16 _ HT.out).mono ?_); rintro e w' ⟨rfl, hb⟩; have HB := Lib.hid hb; clear hb)) | (go_at_call 17; ((with_reducible refine (H17.out _).mono ?_); rintro e w' ⟨rfl, rfl⟩)) | (go_at_call 17; ((with_reducible refine (K17.out _).mono ?_); rintro e w' ⟨rfl, rfl⟩)) | (go_at_call 24; ((with_reducible refine (C1.out _ (TI.below HT.out HB.out)).mono ?_); rintro e w' ⟨rfl, hb⟩; have hB := HB.out.trans (hb.mono HB.out.size); clear HB hb; have HB := Lib.hid hB; clear hB)) | (go_at_call 24; ((with_reducible refine (C2.out _ (TI.below HT.out HB.out)).mono ?_); rintro e w' ⟨⟨a2, cp2, rfl, _⟩, hb⟩; have hB := HB.out.trans (hb.mono HB.out.size); clear HB hb; have HB := Lib.hid hB; clear hB)) | (go_at_call 24; ((with_reducible refine (C3.out _ (TI.below HT.out HB.out)).mono ?_); rintro e w' ⟨rfl, hb⟩; have hB := HB.out.trans (hb.mono HB.out.size); clear HB hb; have HB := Lib.hid hB; clear hB)))
      go_ret
      exact ⟨rfl, HB.out⟩
  · have C1 := Lib.hid (tok_ok_call s htok)
    clear hs hm htok
    go_enter Tryz.func7, Tryz.ntmps7
    go_wp2_with (first | (go_at_call 16; ((with_reducible refine (c16 _ HT.out).mono ?_); rintro e w' ⟨rfl, hb⟩; have HB := Lib.hid hb; clear hb)) | (go_at_call 17; ((with_reducible refine (H17.out _).mono ?_); rintro e w' ⟨rfl, rfl⟩)) | (go_at_call 17; ((with_reducible refine (K17.out _).mono ?_); rintro e w' ⟨rfl, rfl⟩)) | (go_at_call 24; ((with_reducible refine (C1.out _ (TI.below HT.out HB.out)).mono ?_); rintro e w' ⟨⟨a2, cp2, rfl, _⟩, hb⟩; have hB := HB.out.trans (hb.mono HB.out.size); clear HB hb; have HB := Lib.hid hB; clear hB)))
    go_ret
    exact ⟨rfl, HB.out⟩
end Go.Proofs.YtagcfgoofiibfaaGreatDoor
namespace Go.Proofs.YtagcfgoofiibfaaGreatDoor
open Go Go.RowKit

theorem likeF_refl (x : Tk) : likeF x x = true := by unfold likeF; simp
theorem likeL_refl : ∀ a : List Tk, likeL a a = true
  | [] => rfl
  | x :: a => by rw [likeL, likeF_refl, likeL_refl a]; rfl

set_option maxRecDepth 100000 in
set_option maxHeartbeats 3200000 in
/-- SameAll at one and the same list -/
theorem c39 (va vb : Value) (a : List Tk) (w : World) (ha : TokSl w va a) (hb : TokSl w vb a) (hd : DLim a) : Calls Tryz.prog 39 #[va, vb] w fun e w' => e = .returned (.bool true) ∧ Below w.heap.size w w' := by
  have h25 := c25 va vb a a w ha hb hd
  rw [likeL_refl] at h25
  have H25 := Lib.hid h25
  clear h25 hd
  by_cases hz : a.length = 0
  · have e1 := List.eq_nil_of_length_eq_zero hz
    subst e1
    obtain ⟨a1, cp1, rfl, _⟩ := ha
    obtain ⟨a2, cp2, rfl, _⟩ := hb
    have h25 := H25.out
    simp only [List.length_nil] at h25 ⊢
    have H26 := Lib.hid h25
    clear hz h25
    go_enter Tryz.func39, Tryz.ntmps39
    go_wp2_with (go_at_call 25; ((with_reducible refine H26.out.mono ?_); rintro e w1 ⟨rfl, hb⟩; have HB1 := Lib.hid hb; clear hb))
    go_loopw [5] (fun s5 wr => s5 = .int .i64 0 ∧ wr = w1) (fun _ _ => 0)
    case atStart => exact ⟨rfl, rfl⟩
    case round =>
      obtain ⟨rfl, rfl⟩ := hrel
      go_wp2
      go_ret
      exact ⟨rfl, HB1.out⟩
  · have hpa : 0 < a.length := by omega
    obtain ⟨_, cp1, rfl, hc1, hm1, hA⟩ := ha
    obtain ⟨_, cp2, rfl, hc2, hm2, hB⟩ := hb
    obtain ⟨g1, o1, rfl, hg1, hA⟩ := hA hpa
    obtain ⟨g2, o2, rfl, hg2, hB⟩ := hB hpa
    have hmx : (maxLen : Nat) = 9223372036854775807 := rfl
    have hn : a.length ≤ 9223372036854775807 := by omega
    have HA := Lib.hid hA
    have HB := Lib.hid hB
    clear hpa hz hA hB hc1 hc2 hm1 hm2 hmx
    go_enter Tryz.func39, Tryz.ntmps39
    go_wp2_with (go_at_call 25; ((with_reducible refine H25.out.mono ?_); rintro e w1 ⟨rfl, hb⟩; have HB1 := Lib.hid hb; clear hb))
    go_loopw [5] (fun s5 wr => ∃ k : Nat, k ≤ a.length ∧ s5 = .int .i64 (k : Int) ∧ Below w.heap.size w wr) (fun s5 _ => a.length - (intOf s5).toNat)
    case atStart => exact ⟨0, Nat.zero_le _, rfl, HB1.out⟩
    case round =>
      obtain ⟨k, hk, rfl, hbl⟩ := hrel
      have HBL := Lib.hid hbl
      clear hbl
      by_cases hlt : k < a.length
      · obtain ⟨x, hx⟩ : ∃ x, a[k]? = some x := ⟨_, List.getElem?_eq_getElem hlt⟩
        obtain ⟨dx, ix, x0, x1, x2, x3, x4, x5, x6, x7⟩ := HA.out k x hx
        obtain ⟨dy, iy, y0, y1, y2, y3, y4, y5, y6, y7⟩ := HB.out k x hx
        have b0 : (0 : Int) ≤ (k : Int) := by omega
        have b1 : (k : Int) < (a.length : Int) := by omega
        have hb2 : k < a.length := hlt
        have KS : Hid (∀ X, Below w.heap.size w X → X.cell? ⟨g1, o1 + k * 8 + 4, none⟩ = some (.int .i64 (x.at_ : Int)) ∧ X.cell? ⟨g1, o1 + k * 8 + 5, none⟩ = some (.int .i64 (x.en : Int)) ∧ X.cell? ⟨g1, o1 + k * 8 + 6, none⟩ = some (.int .i64 x.line) ∧ X.cell? ⟨g1, o1 + k * 8 + 7, none⟩ = some (.int .i64 x.col) ∧ X.cell? ⟨g2, o2 + k * 8 + 4, none⟩ = some (.int .i64 (x.at_ : Int)) ∧ X.cell? ⟨g2, o2 + k * 8 + 5, none⟩ = some (.int .i64 (x.en : Int)) ∧ X.cell? ⟨g2, o2 + k * 8 + 6, none⟩ = some (.int .i64 x.line) ∧ X.cell? ⟨g2, o2 + k * 8 + 7, none⟩ = some (.int .i64 x.col)) := Lib.hid (fun X hX => by
          have hbc : ∀ (g o : Nat) (u : Value), g < w.heap.size → w.cell? ⟨g, o, none⟩ = some u → X.cell? ⟨g, o, none⟩ = some u := fun g o u hg h => (hX.cell (p := ⟨g, o, none⟩) hg).trans h
          exact ⟨hbc _ _ _ hg1 x4, hbc _ _ _ hg1 x5, hbc _ _ _ hg1 x6, hbc _ _ _ hg1 x7, hbc _ _ _ hg2 y4, hbc _ _ _ hg2 y5, hbc _ _ _ hg2 y6, hbc _ _ _ hg2 y7⟩)
        clear ix iy hx x0 x1 x2 x3 x4 x5 x6 x7 y0 y1 y2 y3 y4 y5 y6 y7
        go_wp2
        go_region_held3 (fun w' : World => w'.cell? ⟨g1, o1 + k * 8 + 4, none⟩ = some (.int .i64 (x.at_ : Int)) ∧ w'.cell? ⟨g1, o1 + k * 8 + 5, none⟩ = some (.int .i64 (x.en : Int)) ∧ w'.cell? ⟨g1, o1 + k * 8 + 6, none⟩ = some (.int .i64 x.line) ∧ w'.cell? ⟨g1, o1 + k * 8 + 7, none⟩ = some (.int .i64 x.col) ∧ w'.cell? ⟨g2, o2 + k * 8 + 4, none⟩ = some (.int .i64 (x.at_ : Int)) ∧ w'.cell? ⟨g2, o2 + k * 8 + 5, none⟩ = some (.int .i64 (x.en : Int)) ∧ w'.cell? ⟨g2, o2 + k * 8 + 6, none⟩ = some (.int .i64 x.line) ∧ w'.cell? ⟨g2, o2 + k * 8 + 7, none⟩ = some (.int .i64 x.col)) (first | exact KS.out _ HBL.out | exact KS.out _ HBL.out.drew) (fail)
        go_wp2
        go_roundw
        case rel => exact ⟨k + 1, by omega, by go_num, by first | exact HBL.out | exact HBL.out.drew⟩
        case measure => simp [intOf]; omega
      · have hd : decide (k < a.length) = false := by simpa using hlt
        go_wp2
        go_ret
        exact ⟨rfl, HBL.out⟩
end Go.Proofs.YtagcfgoofiibfaaGreatDoor
namespace Go.Proofs.YtagcfgoofiibfaaGreatDoor
open Go Go.RowKit

theorem line_count (s : ByteArray) : ∀ n, n ≤ s.size → (pos s n).1 = 1 + (((s.data.toList.take n).count 10 : Nat) : Int)
  | 0, _ => rfl
  | n + 1, h => by
    have ih := line_count s n (by omega)
    have hl : n < s.data.toList.length := by rw [Array.length_toList]; exact h
    have hb := bt_get s n h
    have hg : s[n]'h = s.data.toList[n] := rfl
    rw [hg] at hb
    rw [List.take_add_one, List.getElem?_eq_getElem hl, Option.toList_some, List.count_append, List.count_singleton]
    simp only [pos, nxt]
    rw [← hb]
    generalize s.data.toList[n] = x at *
    by_cases hx : x = 10
    · subst hx
      rw [if_pos (by decide), ih]
      simp
      omega
    · have h1 : ¬ ((x.toNat : Int) = 10) := by
        intro e
        apply hx
        apply UInt8.toNat.inj
        show x.toNat = 10
        omega
      have h2 : (x == 10) = false := by simpa using hx
      rw [if_neg h1]
      split
      · simp only [h2]; rw [ih]; simp
      · simp only [h2]; rw [ih]; simp
theorem line_end (s : ByteArray) : (pos s s.size).1 = 1 + ((Lib.countByte s.data.toList 10 : Nat) : Int) := by
  have h := line_count s s.size (Nat.le_refl _)
  rw [List.take_of_length_le (by rw [Array.length_toList]; exact Nat.le_refl _)] at h
  exact h
theorem TokSl.front {w : World} {a : Option Addr} {n cp : Nat} {l q : List Tk} (h : TokSl w (.slice a n cp) (l ++ q)) : TokSl w (.slice a l.length cp) l := by
  obtain ⟨a', cp', e, h1, h2, h3⟩ := h
  injection e with e1 e2 e3
  subst e1 e2 e3
  rw [List.length_append] at h1 h3
  refine ⟨a, cp, rfl, by omega, h2, fun hp => ?_⟩
  obtain ⟨b, o, e, hlt, hc⟩ := h3 (by omega)
  refine ⟨b, o, e, hlt, fun k t ht => hc k t ?_⟩
  rw [List.getElem?_append_left]
  · exact ht
  · rcases Nat.lt_or_ge k l.length with h | h
    · exact h
    · rw [List.getElem?_eq_none h] at ht; cases ht
/-- the cells of the k-th token of a row -/
theorem TokSl.at {w : World} {a : Option Addr} {n cp : Nat} {l : List Tk} (h : TokSl w (.slice a n cp) l) (k : Nat) (hk : k < l.length) : ∃ b o x dv, a = some ⟨b, o, none⟩ ∧ b < w.heap.size ∧ l[k]? = some x ∧ IntsAt w dv x.d ∧ n = l.length ∧ n ≤ cp ∧ cp ≤ maxLen ∧
    w.cell? ⟨b, o + k * 8, none⟩ = some (.int .i64 x.k) ∧ w.cell? ⟨b, o + k * 8 + 1, none⟩ = some (.string x.s) ∧ w.cell? ⟨b, o + k * 8 + 2, none⟩ = some (.bool false) ∧ w.cell? ⟨b, o + k * 8 + 3, none⟩ = some dv ∧
      w.cell? ⟨b, o + k * 8 + 4, none⟩ = some (.int .i64 (x.at_ : Int)) ∧ w.cell? ⟨b, o + k * 8 + 5, none⟩ = some (.int .i64 (x.en : Int)) ∧ w.cell? ⟨b, o + k * 8 + 6, none⟩ = some (.int .i64 x.line) ∧ w.cell? ⟨b, o + k * 8 + 7, none⟩ = some (.int .i64 x.col) := by
  obtain ⟨a', cp', e, h1, h2, h3⟩ := h
  injection e with e1 e2 e3
  subst e1 e2 e3
  obtain ⟨b, o, e, hlt, hc⟩ := h3 (by omega)
  obtain ⟨dv, i, x0, x1, x2, x3, x4, x5, x6, x7⟩ := hc k _ (List.getElem?_eq_getElem hk)
  exact ⟨b, o, _, dv, e, hlt, List.getElem?_eq_getElem hk, i, rfl, h1, h2, x0, x1, x2, x3, x4, x5, x6, x7⟩
end Go.Proofs.YtagcfgoofiibfaaGreatDoor
namespace Go.Proofs.YtagcfgoofiibfaaGreatDoor
open Go Go.RowKit

theorem tokens_pos {s : ByteArray} (hs : s.size ≤ 20000) {q : List Tk} (h : tokens s = .ok q) : ∀ x ∈ q, 1 ≤ x.line ∧ x.line ≤ s.size + 1 ∧ 1 ≤ x.col ∧ x.col ≤ 8 * s.size + 1 ∧ x.at_ < x.en ∧ x.en ≤ s.size := by
  rw [tokens_ok_iff s hs] at h
  obtain ⟨ps, ys, h1, rfl⟩ := h
  intro x hx
  obtain ⟨p, hp, rfl⟩ := List.mem_map.1 hx
  have h2 := h1.bd p hp
  obtain ⟨p1, p2, p3, p4⟩ := pos_bd s p.at_
  refine ⟨?_, ?_, ?_, ?_, ?_, ?_⟩ <;> simp only [placed, Tk.placedAt] <;> omega
theorem like_down (n : Nat) (l : Int) (x : Tk) : likeF (x.down n l) x = true := by
  unfold likeF Tk.down; simp
/-- what the second half of LexTogether reckons with -/
structure TogN (s : ByteArray) (L : Int) (n k : Nat) (x : Tk) : Prop where
  i1 : wrap64 ((n : Int) + (k : Int)) = ((n + k : Nat) : Int)
  l1 : wrap64 (x.line + L) = x.line + L
  a1 : wrap64 ((x.at_ : Int) + (s.size : Int)) = ((x.at_ + s.size : Nat) : Int)
  a2 : wrap64 (((x.at_ + s.size : Nat) : Int) + 1) = ((x.at_ + (s.size + 1) : Nat) : Int)
  e1 : wrap64 ((x.en : Int) + (s.size : Int)) = ((x.en + s.size : Nat) : Int)
  e2 : wrap64 (((x.en + s.size : Nat) : Int) + 1) = ((x.en + (s.size + 1) : Nat) : Int)
  k1 : wrap64 ((k : Int) + 1) = ((k + 1 : Nat) : Int)
theorem togN {s m : ByteArray} {L : Int} {n k : Nat} {x : Tk} (hs : s.size ≤ 3000) (hm : m.size ≤ 3000) (hL : 1 ≤ L ∧ L ≤ s.size + 1) (hx : 1 ≤ x.line ∧ x.line ≤ m.size + 1 ∧ 1 ≤ x.col ∧ x.col ≤ 8 * m.size + 1 ∧ x.at_ < x.en ∧ x.en ≤ m.size) (hn : n + k < 9223372036854775807) : TogN s L n k x := by
  refine ⟨?_, ?_, ?_, ?_, ?_, ?_, ?_⟩ <;> unfold wrap64 <;> omega
end Go.Proofs.YtagcfgoofiibfaaGreatDoor
namespace Go.Proofs.YtagcfgoofiibfaaGreatDoor
open Go Go.RowKit

theorem TokSl.caps {w : World} {a : Option Addr} {n cp : Nat} {ts : List Tk} (h : TokSl w (.slice a n cp) ts) : ts.length ≤ cp ∧ cp ≤ maxLen := by
  obtain ⟨_, _, e, h1, h2, _⟩ := h
  injection e with _ _ e
  subst e
  exact ⟨h1, h2⟩


set_option maxRecDepth 100000 in
set_option maxHeartbeats 3200000 in
/-- LexTogether where its guard lets nothing in -/
theorem c14no (s m : ByteArray) (w : World) (hT : TI w) (hbad : ¬ (s.size ≤ 3000 ∧ m.size ≤ 3000 ∧ (∃ l, tokens s = .ok l) ∧ ∃ q, tokens m = .ok q)) : Calls Tryz.prog 14 #[.string s, .string m] w fun e w' => e = .returned (.bool true) ∧ Below w.heap.size w w' := by
  have h17 := c17 s
  have k17 := c17 m
  have HT := Lib.hid hT
  clear hT
  obtain ⟨p1, q1, h1⟩ := tok_any_call s
  obtain ⟨p2, q2, h2⟩ := tok_any_call m
  have C1 := Lib.hid h1
  have C2 := Lib.hid h2
  clear h1 h2
  by_cases hs : s.size ≤ 3000
  case neg =>
    rw [decide_eq_false hs] at h17
    have H17 := Lib.hid h17
    clear h17 k17 hbad hs
    go_enter Tryz.func14, Tryz.ntmps14
    go_wp2_with (first | (go_at_call 16; ((with_reducible refine (c16 _ HT.out).mono ?_); rintro e w' ⟨rfl, hb⟩; have HB := Lib.hid hb; clear hb)) | (go_at_call 17; ((with_reducible refine (H17.out _).mono ?_); rintro e w' ⟨rfl, rfl⟩)) | (go_at_call 24; ((with_reducible refine (C1.out _ (TI.below HT.out HB.out)).mono ?_); rintro e w' ⟨⟨a, n, cp, rfl⟩, hb⟩; have hB := HB.out.trans (hb.mono HB.out.size); clear HB hb; have HB := Lib.hid hB; clear hB)) | (go_at_call 24; ((with_reducible refine (C2.out _ (TI.below HT.out HB.out)).mono ?_); rintro e w' ⟨⟨a, n, cp, rfl⟩, hb⟩; have hB := HB.out.trans (hb.mono HB.out.size); clear HB hb; have HB := Lib.hid hB; clear hB)))
    go_ret
    exact ⟨rfl, HB.out⟩
  by_cases hm : m.size ≤ 3000
  case neg =>
    rw [decide_eq_true hs] at h17
    rw [decide_eq_false hm] at k17
    have H17 := Lib.hid h17
    have K17 := Lib.hid k17
    clear h17 k17 hbad hs hm
    go_enter Tryz.func14, Tryz.ntmps14
    go_wp2_with (first | (go_at_call 16; ((with_reducible refine (c16 _ HT.out).mono ?_); rintro e w' ⟨rfl, hb⟩; have HB := Lib.hid hb; clear hb)) | (go_at_call 17; ((with_reducible refine (H17.out _).mono ?_); rintro e w' ⟨rfl, rfl⟩)) | (go_at_call 17; ((with_reducible refine (K17.out _).mono ?_); rintro e w' ⟨rfl, rfl⟩)) | (go_at_call 24; ((with_reducible refine (C1.out _ (TI.below HT.out HB.out)).mono ?_); rintro e w' ⟨⟨a, n, cp, rfl⟩, hb⟩; have hB := HB.out.trans (hb.mono HB.out.size); clear HB hb; have HB := Lib.hid hB; clear hB)) | (go_at_call 24; ((with_reducible refine (C2.out _ (TI.below HT.out HB.out)).mono ?_); rintro e w' ⟨⟨a, n, cp, rfl⟩, hb⟩; have hB := HB.out.trans (hb.mono HB.out.size); clear HB hb; have HB := Lib.hid hB; clear hB)))
    go_ret
    exact ⟨rfl, HB.out⟩
  rw [decide_eq_true hs] at h17
  rw [decide_eq_true hm] at k17
  have H17 := Lib.hid h17
  have K17 := Lib.hid k17
  clear h17 k17
  rcases htok : tokens s with ⟨a, er⟩ | l
  · have he := (errors_plain s m hs hm a er htok).1
    have C3 := Lib.hid (tok_err_call s htok)
    have e0 : (er != 0) = true := by simp; omega
    clear htok hbad hs hm he C1
    go_enter Tryz.func14, Tryz.ntmps14
    go_wp2_with (first | (go_at_call 16; ((with_reducible refine (c16 _ HT.out).mono ?_); rintro e w' ⟨rfl, hb⟩; have HB := Lib.hid hb; clear hb)) | (go_at_call 17; ((with_reducible refine (H17.out _).mono ?_); rintro e w' ⟨rfl, rfl⟩)) | (go_at_call 17; ((with_reducible refine (K17.out _).mono ?_); rintro e w' ⟨rfl, rfl⟩)) | (go_at_call 24; ((with_reducible refine (C3.out _ (TI.below HT.out HB.out)).mono ?_); rintro e w' ⟨rfl, hb⟩; have hB := HB.out.trans (hb.mono HB.out.size); clear HB hb; have HB := Lib.hid hB; clear hB)) | (go_at_call 24; ((with_reducible refine (C2.out _ (TI.below HT.out HB.out)).mono ?_); rintro e w' ⟨⟨a, n, cp, rfl⟩, hb⟩; have hB := HB.out.trans (hb.mono HB.out.size); clear HB hb; have HB := Lib.hid hB; clear hB)))
    go_ret
    exact ⟨rfl, HB.out⟩
  rcases hmok : tokens m with ⟨a, er⟩ | q
  · have he := (errors_plain m s hm hs a er hmok).1
    have C3 := Lib.hid (tok_ok_call s htok)
    have C4 := Lib.hid (tok_err_call m hmok)
    have e0 : (er != 0) = true := by simp; omega
    clear htok hmok hbad hs hm he C1 C2
    go_enter Tryz.func14, Tryz.ntmps14
    go_wp2_with (first | (go_at_call 16; ((with_reducible refine (c16 _ HT.out).mono ?_); rintro e w' ⟨rfl, hb⟩; have HB := Lib.hid hb; clear hb)) | (go_at_call 17; ((with_reducible refine (H17.out _).mono ?_); rintro e w' ⟨rfl, rfl⟩)) | (go_at_call 17; ((with_reducible refine (K17.out _).mono ?_); rintro e w' ⟨rfl, rfl⟩)) | (go_at_call 24; ((with_reducible refine (C3.out _ (TI.below HT.out HB.out)).mono ?_); rintro e w' ⟨⟨a, cp, rfl, _⟩, hb⟩; have hB := HB.out.trans (hb.mono HB.out.size); clear HB hb; have HB := Lib.hid hB; clear hB)) | (go_at_call 24; ((with_reducible refine (C4.out _ (TI.below HT.out HB.out)).mono ?_); rintro e w' ⟨rfl, hb⟩; have hB := HB.out.trans (hb.mono HB.out.size); clear HB hb; have HB := Lib.hid hB; clear hB)))
    go_ret
    exact ⟨rfl, HB.out⟩
  exact absurd ⟨hs, hm, ⟨l, htok⟩, q, hmok⟩ hbad
end Go.Proofs.YtagcfgoofiibfaaGreatDoor
namespace Go.Proofs.YtagcfgoofiibfaaGreatDoor
open Go Go.RowKit

theorem least {p : Nat → Prop} (h : ∃ n, p n) : ∃ n, p n ∧ ∀ m, m < n → ¬ p m := by
  obtain ⟨n, hn⟩ := h
  induction n using Nat.strongRecOn with
  | ind n ih =>
    by_cases hm : ∃ m, m < n ∧ p m
    · obtain ⟨m, h1, h2⟩ := hm; exact ih m h1 h2
    · exact ⟨n, hn, fun m h1 h2 => hm ⟨m, h1, h2⟩⟩
theorem miss_none {s : ByteArray} {ts : List Tk} (h : ts.any (missF s) = false) : ∀ x ∈ ts, s.extract x.at_ x.en = spellF x := fun x hx => by
  have := (List.any_eq_false.1 h) x hx
  unfold missF at this
  exact str_eq (by simpa using this)
/-- how Place ends at the tokens of a text -/
theorem place_ends {s : ByteArray} (hs : s.size ≤ 3000) {ts : List Tk} (h : tokens s = .ok ts) (S : ByteArray) (hS : S = ⟨(PS.gat ts ts.length).t.toArray⟩) :
    ∃ (m : Nat) (b : Bool), m ≤ ts.length ∧ (∀ (i : Nat) (x : Tk), i < m → ts[i]? = some x → (PS.gat ts i).GFits x) ∧ PlEnd ts m S b ∧ (b = false → ts.any (missF s) = true) ∧ (b = true → ∃ out, BackOf S ts out) := by
  have P := place_of hs h
  by_cases hcf : ∃ m, ∃ y, ts[m]? = some y ∧ Cf (PS.gat ts m) y
  · obtain ⟨m, ⟨y, hy, hc⟩, hl⟩ := least hcf
    have hm : m < ts.length := (List.getElem?_eq_some_iff.1 hy).1
    refine ⟨m, false, by omega, fun i x hi hx => P.fit i x hx (fun hq => hl i hi ⟨x, hx, hq⟩), .cf y hy hc, fun _ => ?_, fun e => by cases e⟩
    rcases hq : ts.any (missF s) with _ | _
    · exact absurd hc ((P.ok (miss_none hq)).1 m y hy)
    · rfl
  · have hfit : ∀ (i : Nat) (x : Tk), i < ts.length → ts[i]? = some x → (PS.gat ts i).GFits x := fun i x _ hx => P.fit i x hx (fun hq => hcf ⟨i, x, hx, hq⟩)
    have hno : (¬ ∃ out, BackOf S ts out) → ts.any (missF s) = true := fun hb => by
      rcases hq : ts.any (missF s) with _ | _
      · rw [hS] at hb
        exact absurd (P.ok (miss_none hq)).2 hb
      · rfl
    rcases htok : tokens S with ⟨a, er⟩ | out
    · exact ⟨ts.length, false, Nat.le_refl _, hfit, .er a er rfl (by have := tokens_er htok; omega) htok, fun _ => hno (fun ⟨o, hb⟩ => by rw [hb.tok] at htok; cases htok), fun e => by cases e⟩
    · have hout : ∀ o, BackOf S ts o → o = out := fun o hb => by have := hb.tok; rw [htok] at this; injection this with this; exact this.symm
      by_cases hln : out.length = ts.length
      · by_cases hmm : ∃ n, n < ts.length ∧ ∀ (x y : Tk), out[n]? = some x → ts[n]? = some y → likeF x y = false ∨ x.line ≠ y.line ∨ x.col ≠ y.col
        · obtain ⟨n, ⟨hn, hbad⟩, hl⟩ := least hmm
          refine ⟨ts.length, false, Nat.le_refl _, hfit, .rd out n false rfl htok hln (by omega) (fun i x y hi hx hy => ?_) (.inr ⟨hn, rfl, hbad⟩), fun _ => hno (fun ⟨o, hb⟩ => ?_), fun e => by cases e⟩
          · have h1 := hl i hi
            rcases hk : likeF x y with _ | _
            · exact absurd ⟨by omega, fun x' y' hx' hy' => by rw [hx] at hx'; rw [hy] at hy'; injection hx' with hx'; injection hy' with hy'; subst hx' hy'; exact .inl hk⟩ h1
            · by_cases g1 : x.line = y.line
              · by_cases g2 : x.col = y.col
                · exact ⟨rfl, g1, g2⟩
                · exact absurd ⟨by omega, fun x' y' hx' hy' => by rw [hx] at hx'; rw [hy] at hy'; injection hx' with hx'; injection hy' with hy'; subst hx' hy'; exact .inr (.inr g2)⟩ h1
              · exact absurd ⟨by omega, fun x' y' hx' hy' => by rw [hx] at hx'; rw [hy] at hy'; injection hx' with hx'; injection hy' with hy'; subst hx' hy'; exact .inr (.inl g1)⟩ h1
          · obtain rfl := hout o hb
            obtain ⟨x, hx⟩ : ∃ x, o[n]? = some x := ⟨_, List.getElem?_eq_getElem (by omega)⟩
            obtain ⟨y, hy⟩ : ∃ y, ts[n]? = some y := ⟨_, List.getElem?_eq_getElem hn⟩
            have q1 := ((likeL_iff o ts).1 hb.like).2 n x y hx hy
            have q2 := hb.at_ n x y hx hy
            rcases hbad x y hx hy with q | q | q
            · rw [q1] at q; cases q
            · exact q q2.1
            · exact q q2.2
        · have hall : ∀ (i : Nat) (x y : Tk), out[i]? = some x → ts[i]? = some y → likeF x y = true ∧ x.line = y.line ∧ x.col = y.col := fun i x y hx hy => by
            have hi : i < ts.length := (List.getElem?_eq_some_iff.1 hy).1
            apply Classical.byContradiction
            intro hq
            apply hmm
            refine ⟨i, hi, fun x' y' hx' hy' => ?_⟩
            rw [hx] at hx'; rw [hy] at hy'; injection hx' with hx'; injection hy' with hy'; subst hx' hy'
            rcases hk : likeF x y with _ | _
            · exact .inl rfl
            · by_cases g1 : x.line = y.line
              · by_cases g2 : x.col = y.col
                · exact absurd ⟨hk, g1, g2⟩ hq
                · exact .inr (.inr g2)
              · exact .inr (.inl g1)
          exact ⟨ts.length, true, Nat.le_refl _, hfit, .rd out ts.length true rfl htok hln (Nat.le_refl _) (fun i x y _ hx hy => hall i x y hx hy) (.inl ⟨rfl, rfl⟩), (fun e => by cases e), fun _ => ⟨out, htok, (likeL_iff out ts).2 ⟨hln, fun j x y hx hy => (hall j x y hx hy).1⟩, fun i x y hx hy => (hall i x y hx hy).2⟩⟩
      · exact ⟨ts.length, false, Nat.le_refl _, hfit, .ln out rfl hln htok, fun _ => hno (fun ⟨o, hb⟩ => by obtain rfl := hout o hb; exact hln ((likeL_iff o ts).1 hb.like).1), fun e => by cases e⟩
/-- Place of the tokens of a text -/
theorem place_calls {s : ByteArray} (hs : s.size ≤ 3000) {ts : List Tk} (h : tokens s = .ok ts) :
    (ts.any (missF s) = true ∧ ∀ (v : Value) (W : World), TI W → TP W → TokRow W v ts → Calls Tryz.prog 32 #[v] W (PlcNo W)) ∨
    ∃ S out, BackOf S ts out ∧ ∀ (v : Value) (W : World), TI W → TP W → TokRow W v ts → Calls Tryz.prog 32 #[v] W (PlcTo S W) := by
  have P := place_of hs h
  obtain ⟨S, hS⟩ : ∃ S : ByteArray, S = ⟨(PS.gat ts ts.length).t.toArray⟩ := ⟨_, rfl⟩
  obtain ⟨m, b, hm, hfit, hend, hno, hyes⟩ := place_ends hs h S hS
  have hn := P.n
  have hc : ∀ (v : Value) (W : World), TI W → TP W → TokRow W v ts → Calls Tryz.prog 32 #[v] W (PlcR b S W) := fun v W hT hP hr => c32any v ts m S b W hT hP hr P.v (by omega) hm hfit hS hend
  rcases b with _ | _
  · exact .inl ⟨hno rfl, hc⟩
  · obtain ⟨out, hb⟩ := hyes rfl
    exact .inr ⟨S, out, hb, hc⟩
end Go.Proofs.YtagcfgoofiibfaaGreatDoor
set_option linter.unusedVariables false
namespace Go.Proofs.YtagcfgoofiibfaaGreatDoor
open Go Go.RowKit

set_option maxRecDepth 100000 in
set_option maxHeartbeats 3200000 in
/-- LexPlaced where its guard lets nothing in -/
theorem c10no (s : ByteArray) (w : World) (hT : TI w) (hbad : ¬ (s.size ≤ 3000 ∧ ∃ l, tokens s = .ok l)) : Calls Tryz.prog 10 #[.string s] w fun e w' => e = .returned (.bool true) ∧ Below w.heap.size w w' := by
  have h17 := c17 s
  have HT := Lib.hid hT
  clear hT
  by_cases hs : s.size ≤ 3000
  case neg =>
    obtain ⟨p1, q1, h1⟩ := tok_any_call s
    have C1 := Lib.hid h1
    clear h1
    rw [decide_eq_false hs] at h17
    have H17 := Lib.hid h17
    clear h17 hbad hs
    go_enter Tryz.func10, Tryz.ntmps10
    go_wp2_with (first | (go_at_call 16; ((with_reducible refine (c16 _ HT.out).mono ?_); rintro e w' ⟨rfl, hb⟩; have HB := Lib.hid hb; clear hb)) | (go_at_call 17; ((with_reducible refine (H17.out _).mono ?_); rintro e w' ⟨rfl, rfl⟩)) | (go_at_call 24; ((with_reducible refine (C1.out _ (TI.below HT.out HB.out)).mono ?_); rintro e w' ⟨⟨a, n, cp, rfl⟩, hb⟩; have hB := HB.out.trans (hb.mono HB.out.size); clear HB hb; have HB := Lib.hid hB; clear hB)))
    go_ret
    exact ⟨rfl, HB.out⟩
  rw [decide_eq_true hs] at h17
  have H17 := Lib.hid h17
  clear h17
  rcases htok : tokens s with ⟨a, er⟩ | l
  · have he := (errors_plain s s hs hs a er htok).1
    have C3 := Lib.hid (tok_err_call s htok)
    have e0 : (er != 0) = true := by simp; omega
    clear htok hbad hs he
    go_enter Tryz.func10, Tryz.ntmps10
    go_wp2_with (first | (go_at_call 16; ((with_reducible refine (c16 _ HT.out).mono ?_); rintro e w' ⟨rfl, hb⟩; have HB := Lib.hid hb; clear hb)) | (go_at_call 17; ((with_reducible refine (H17.out _).mono ?_); rintro e w' ⟨rfl, rfl⟩)) | (go_at_call 24; ((with_reducible refine (C3.out _ (TI.below HT.out HB.out)).mono ?_); rintro e w' ⟨rfl, hb⟩; have hB := HB.out.trans (hb.mono HB.out.size); clear HB hb; have HB := Lib.hid hB; clear hB)))
    go_ret
    exact ⟨rfl, HB.out⟩
  exact absurd ⟨hs, l, htok⟩ hbad

set_option maxRecDepth 100000 in
set_option maxHeartbeats 6400000 in
theorem c10 (s : ByteArray) (w : World) (hT : TI w) (hP : TP w) : Calls Tryz.prog 10 #[.string s] w fun e w' => e = .returned (.bool true) ∧ Below w.heap.size w w' := by
  have h17 := c17 s
  have HT := Lib.hid hT
  have HPw := Lib.hid hP
  clear hT hP
  by_cases hbad : ¬ (s.size ≤ 3000 ∧ ∃ l, tokens s = .ok l)
  · exact c10no s w HT.out hbad
  obtain ⟨hs, l, hl⟩ : s.size ≤ 3000 ∧ ∃ l, tokens s = .ok l := Classical.not_not.1 hbad
  clear hbad
  rw [decide_eq_true hs] at h17
  have H17 := Lib.hid h17
  clear h17
  have C1 := Lib.hid (tok_ok_call s hl)
  have P := place_of hs hl
  have DL := Lib.hid (tokens_d hl)
  rcases place_calls hs hl with ⟨hm, h32⟩ | ⟨S, out, hb, h32⟩
  · have C32 := Lib.hid h32
    have C33 : Hid (∀ (v : Value) (X : World), TokRow X v l → TI X → TP X → Calls Tryz.prog 33 #[.string s, v] X fun e w' => e = .returned (.bool false) ∧ Below X.heap.size X w') := Lib.hid (fun v X hr h1 h2 => by
      have h := c33 s v l X hr (fun t ht => ⟨P.v t ht, P.bd t ht⟩) h1 h2 hs
      rw [hm] at h
      exact h)
    clear hl hs hm h32 P
    go_enter Tryz.func10, Tryz.ntmps10
    go_wp2_with (first | (go_at_call 16; ((with_reducible refine (c16 _ HT.out).mono ?_); rintro e w' ⟨rfl, hb⟩; have HB := Lib.hid hb; clear hb)) | (go_at_call 17; ((with_reducible refine (H17.out _).mono ?_); rintro e w' ⟨rfl, rfl⟩)) | (go_at_call 24; ((with_reducible refine (C1.out _ (TI.below HT.out HB.out)).mono ?_); rintro e w' ⟨⟨a1, cp1, rfl, hr⟩, hb⟩; have hB := HB.out.trans (hb.mono HB.out.size); have HR1 := Lib.hid hr; clear HB hb hr; have HB := Lib.hid hB; clear hB)) | (go_at_call 32; ((with_reducible refine (C32.out _ _ (TI.below HT.out HB.out) (TP.below HPw.out HB.out) HR1.out).mono ?_); rintro e w' ⟨rfl, hb⟩; have hB := HB.out.trans (hb.mono HB.out.size); have hR := HR1.out.below hb; clear HB hb HR1; have HB := Lib.hid hB; have HR1 := Lib.hid hR; clear hB hR)) | (go_at_call 33; ((with_reducible refine (C33.out _ _ HR1.out (TI.below HT.out HB.out) (TP.below HPw.out HB.out)).mono ?_); rintro e w' ⟨rfl, hb⟩; have hB := HB.out.trans (hb.mono HB.out.size); clear HB hb; have HB := Lib.hid hB; clear hB)))
    go_ret
    exact ⟨rfl, HB.out⟩
  · have C32 := Lib.hid h32
    have C2 := Lib.hid (tok_ok_call S hb.tok)
    have hln : out.length = l.length := ((likeL_iff out l).1 hb.like).1
    have DO := Lib.hid (tokens_d hb.tok)
    have HLK := Lib.hid hb.like
    have HAT := Lib.hid hb.at_
    have HLN := Lib.hid hln
    clear hl hs h32 P hb hln
    go_enter Tryz.func10, Tryz.ntmps10
    go_wp2_with (first | (go_at_call 16; ((with_reducible refine (c16 _ HT.out).mono ?_); rintro e w' ⟨rfl, hb⟩; have HB := Lib.hid hb; clear hb)) | (go_at_call 17; ((with_reducible refine (H17.out _).mono ?_); rintro e w' ⟨rfl, rfl⟩)) | (go_at_call 24; ((with_reducible refine (C1.out _ (TI.below HT.out HB.out)).mono ?_); rintro e w' ⟨⟨a1, cp1, rfl, hr⟩, hb⟩; have hB := HB.out.trans (hb.mono HB.out.size); have HR1 := Lib.hid hr; clear HB hb hr; have HB := Lib.hid hB; clear hB)) | (go_at_call 32; ((with_reducible refine (C32.out _ _ (TI.below HT.out HB.out) (TP.below HPw.out HB.out) HR1.out).mono ?_); rintro e w' ⟨rfl, hb⟩; have hB := HB.out.trans (hb.mono HB.out.size); have hR := HR1.out.below hb; clear HB hb HR1; have HB := Lib.hid hB; have HR1 := Lib.hid hR; clear hB hR)) | (go_at_call 24; ((with_reducible refine (C2.out _ (TI.below HT.out HB.out)).mono ?_); rintro e w' ⟨⟨a2, cp2, rfl, hr⟩, hb⟩; have hB := HB.out.trans (hb.mono HB.out.size); have hR := (HR1.out.below hb).sl; have HR2 := Lib.hid hr.sl; clear HB hb hr HR1; have HB := Lib.hid hB; have HR1 := Lib.hid hR; clear hB hR)) | (go_at_call 25; ((with_reducible refine (c25 _ _ out l _ HR2.out HR1.out DO.out).mono ?_); rintro e w' ⟨rfl, hb⟩; rw [HLK.out]; have hB := HB.out.trans (hb.mono HB.out.size); have hR := HR2.out.below hb; have hR1 := HR1.out.below hb; clear HB hb HR1 HR2; have HB := Lib.hid hB; have HR2 := Lib.hid hR; have HR1 := Lib.hid hR1; clear hB hR hR1; obtain ⟨hc1, hm1⟩ := HR2.out.caps; have hmx : (maxLen : Nat) = 9223372036854775807 := rfl; have hln : (out.length : Int) ≤ 9223372036854775807 := (by omega); clear hc1 hm1 hmx)))
    go_loopw [60] (fun s34 wr => ∃ k : Nat, k ≤ out.length ∧ s34 = .int .i64 (k : Int) ∧ Below w'.heap.size w' wr) (fun s34 _ => out.length - (intOf s34).toNat)
    case atStart => exact ⟨0, Nat.zero_le _, rfl, Below.refl _ _⟩
    case round =>
      obtain ⟨k, hk, rfl, hG⟩ := hrel
      have HGr := Lib.hid hG
      clear hG
      by_cases hlt : k < out.length
      · have hltz : (k : Int) < (out.length : Int) := by omega
        have hltl : (k : Int) < (l.length : Int) := by have := HLN.out; omega
        obtain ⟨b1, o1, x, dx, rfl, hb1, hx, ix, _, _, _, x0, x1, x2, x3, x4, x5, x6, x7⟩ := (HR2.out.below HGr.out).at k hlt
        obtain ⟨b2, o2, y, dy, rfl, hb2, hy, iy, _, _, _, y0, y1, y2, y3, y4, y5, y6, y7⟩ := (HR1.out.below HGr.out).at k (by have := HLN.out; omega)
        obtain ⟨p1, p2⟩ := HAT.out k x y hx hy
        have l1 : (x.line != y.line) = false := by simp [p1]
        have l2 : (x.col != y.col) = false := by simp [p2]
        have h0k : (0 : Int) ≤ (k : Int) := by omega
        have HLT := Lib.hid hlt
        clear hx hy ix iy p1 p2
        go_wp2
        go_quiet (fail)
        go_wp2
        go_roundw
        case rel => exact ⟨k + 1, HLT.out, by go_num, HGr.out.trans ((Dr.below (Dr.here _ _) _).mono HGr.out.size)⟩
        case measure => have := HLT.out; simp [intOf]; omega
      · have hltz : ¬ ((k : Int) < (out.length : Int)) := by omega
        go_wp2
        go_ret
        exact ⟨rfl, HB.out.trans (HGr.out.mono HB.out.size)⟩
end Go.Proofs.YtagcfgoofiibfaaGreatDoor
namespace Go.Proofs.YtagcfgoofiibfaaGreatDoor
open Go Go.ChangeShapes Go.WideShapes Go.ChangeAt Go.RowKit

theorem pow_data : (Rows.laid_internal_strconv_uint64pow10 : DataW Unit) = Lib.tabData .u64 Lib.pow10Tab := by kernel_rfl
theorem glob_pow : Tryz.prog.globalNamed "internal/strconv.uint64pow10" = some 5 := by kernel_rfl
theorem tp_of_laid {W : World} (h : laidMetH Tryz.prog laidL W) : TP W := by
  rw [MakeChecks.laidMetH_plain _ _ _ (by kernel_rfl)] at h
  obtain ⟨g, t, cs, fuel, p, hg, hty, hv, hd⟩ := Lib.laidMet.reads h (n := "internal/strconv.uint64pow10") (d := Rows.laid_internal_strconv_uint64pow10) (by unfold laidL Rows.lexBytesRow; simp)
  rw [pow_data] at hd
  obtain rfl := Option.some.inj (glob_pow.symm.trans hg)
  obtain ⟨e, he⟩ : ∃ e, (Tryz.prog.globals[5]?).map (·.type) = some e ∧ Tryz.prog.underlying e = some (.array 20 148) ∧ Tryz.prog.cellsOf e = 20 := ⟨_, rfl, by kernel_rfl, by kernel_rfl⟩
  obtain rfl := Option.some.inj (he.1.symm.trans hty)
  have := Lib.cells_of_tab he.2.1 (show Tryz.prog.underlying 148 = some (.int .u64) by kernel_rfl) (by kernel_rfl) he.2.2 hd
  unfold TP Lib.TabIs
  rw [hv, ← this]
end Go.Proofs.YtagcfgoofiibfaaGreatDoor
namespace Go.Proofs.YtagcfgoofiibfaaGreatDoor
open Go Go.ChangeMaps Go.ChangeShapes Go.WideShapes Go.ChangeAt Go.RowKit

set_option maxRecDepth 100000 in
theorem lexPlaced_lifted (os : Os) (started : os.Started) (H : Type) (enc : TypeId × Value → H) :
    ReturnsInHanded {} Tryz.checked os 10 .any (fun w args => (Rows.lexPlacedSpec.pre enc Tryz.prog Tryz.f10 [] false w args ∧ laidMetH Tryz.prog laidL w) ∧ sizedMet enc Tryz.prog Tryz.f10 (OpenSpec.ofChange Rows.lexPlacedSpec) false w args)
      (Rows.lexPlacedSpec.post enc Tryz.prog Tryz.f10 false true false false) := by
  refine returnsInHanded_of_change_and (C := Tryz.checked) (X := fun w _ => laidMetH Tryz.prog laidL w) (fun _ _ _ hh h => h.of_heap hh) own started (by kernel_rfl) Tryz.func10
    (ChangeSpec.witness_shaped (enc := enc) (C := Tryz.checked) (os := os) (X := fun w _ => laidMetH Tryz.prog laidL w) false (World.laidAll Tryz.prog os laidL) #[.string ByteArray.empty] 8 (World.laidAll_os _ _ _)
      (start_shaped os) (by kernel_rfl) (by kernel_rfl) (by kernel_rfl) (start_met os _)) ?_
  intro W base args ds gs before hval0 hW _ _ hL _
  have hval : ∀ (j : Nat) t v, Tryz.f10.params[j]? = some t → args[j]? = some v → Value.okWide Tryz.prog W .any base t v := hval0
  have hW' := hW
  obtain ⟨p, q, hA0, hV, rfl, _, _⟩ := hW
  have hA : DataW.TrodAll enc Tryz.prog W 0 (fun _ => true) true Tryz.f10.params.toList args.toList ds p := hA0
  rw [Tryz.params10] at hA hval
  obtain ⟨v0, d0, rfl, rfl, h0⟩ := trodAll_one hA
  obtain ⟨rfl, rfl⟩ := trodVars_none hV
  obtain ⟨x0, rfl, rfl, rfl, wx0⟩ := open_string Tryz.underlying9 (hval 0 9 v0 rfl rfl) h0
  simp only [List.append_nil] at hW'
  refine (c10 x0 W (ti_of_laid hL) (tp_of_laid hL)).mono fun e W' ⟨he, hb⟩ => ?_
  subst he
  exact ⟨_, rfl, _, _, _, [], [], [], hW', trodAll_mk1 (shut_bool Tryz.underlying4 _), trodAll_mk1 (shut_string Tryz.underlying9 wx0), rfl, hb.frame _, fun h => by cases h⟩

theorem lexPlaced_bare : Rows.LexPlacedSaid :=
  OpenClaim.holds_of_wide 10 Tryz.f10 rfl rfl rfl rfl rfl rfl rfl ⟨rfl, rfl, rfl, rfl, rfl⟩ rfl rfl rfl rfl rfl lexPlaced_named Tryz.func10 lexPlaced_closed
    (of_decide_eq_true (by kernel_rfl)) lexPlaced_wrap (fun os started H enc _ => lexPlaced_lifted os started H enc)
theorem lexPlaced_holds : Rows.LexPlacedCardSaid :=
  Claim7.holds_tied_plain_at .later [] [.data, .data, .data, .data, .listed, .data, .pinned] true (true, "598e79093b2262133a9d99cdf3b0e1040e74e7a98986b3c01bfbd78ee9122216") true
    lexPlaced_bare (fun _ h => by cases h) (by kernel_rfl) (fun _ h => by cases h) lexPlaced_row_tie rfl ⟨rfl, rfl⟩ lexPlaced_main rfl
    (fun f fn hf hfn => by
      obtain rfl : f = 10 := Option.some.inj (lexPlaced_named.symm.trans hf) |>.symm
      obtain rfl : fn = Tryz.f10 := (Option.some.inj (Tryz.func10.symm.trans hfn)).symm
      exact ⟨lexPlaced_looks, fun j t ht => by
        rw [Tryz.params10] at ht
        have hm : t ∈ [9] := by simpa using Array.mem_of_getElem? ht
        have hall : ([9].all fun u => !Tryz.prog.wantsStandIn u) = true := by kernel_rfl
        exact (show Tryz.prog.wantsStandIn t = false by simpa using List.all_eq_true.1 hall t hm)⟩)
    lexPlaced_goes
#print axioms lexPlaced_holds
end Go.Proofs.YtagcfgoofiibfaaGreatDoor
