/- The law LexTokens: its walk and its statement: LA0, LA1, LC0, LD0, LD1, LD2, LD4, RD0, RD1, RD2, LZ12. -/
import Derived.Test.YtagcfgoofiibfaaGreatDoorG40
import Derived.Test.YtagcfgoofiibfaaGreatDoorLexTokensT
import Derived.Test.YtagcfgoofiibfaaGreatDoorLexTokensR
import Derived.Test.YtagcfgoofiibfaaGreatDoorLexTokensF
set_option linter.unusedVariables false
set_option linter.unusedSimpArgs false
namespace Go.Proofs.YtagcfgoofiibfaaGreatDoor
open Go Go.RowKit

theorem c60 (l c b : Int) (hl0 : 1 ≤ l) (hl : l ≤ 1099511627776) (hc0 : 1 ≤ c) (hc : c ≤ 1099511627776) (w : World) :
    Calls Tryz.prog 60 #[.int .i64 l, .int .i64 c, .int .u8 b] w fun e w' => e = .returned (.tuple #[.int .i64 (nxt l c b).1, .int .i64 (nxt l c b).2]) ∧ w' = w := by
  rcases h1 : (b == 10) with _ | _
  · rcases h2 : (b == 9) with _ | _
    · go_enter Tryz.func60, Tryz.ntmps60
      go_wp2
      refine bodyPost_ret (v := .tuple #[.int .i64 l, .int .i64 (c + 1)]) (by simp [results, Tryz.results60, go_sem]) rfl ⟨?_, rfl⟩
      simp at h1 h2; simp [nxt, h1, h2]
    · go_enter Tryz.func60, Tryz.ntmps60
      go_wp2
      refine bodyPost_ret (v := .tuple #[.int .i64 l, .int .i64 ((c - 1) / 8 * 8 + 8 + 1)]) (by simp [results, Tryz.results60, go_sem]) rfl ⟨?_, rfl⟩
      simp at h2; simp [nxt, h2]
  · go_enter Tryz.func60, Tryz.ntmps60
    go_wp2
    refine bodyPost_ret (v := .tuple #[.int .i64 (l + 1), .int .i64 1]) (by simp [results, Tryz.results60, go_sem]) rfl ⟨?_, rfl⟩
    simp at h1; simp [nxt, h1]

theorem c60pos (s : ByteArray) (k : Nat) (hk : k < s.size) (hsz : s.size ≤ 1073741824) (w : World) :
    Calls Tryz.prog 60 #[.int .i64 (pos s k).1, .int .i64 (pos s k).2, .int .u8 ((s[k]'hk).toNat : Int)] w fun e w' => e = .returned (.tuple #[.int .i64 (pos s (k + 1)).1, .int .i64 (pos s (k + 1)).2]) ∧ w' = w := by
  obtain ⟨h1, h2, h3, h4⟩ := pos_bd s k
  have h := c60 (pos s k).1 (pos s k).2 (bt s k) h1 (by omega) h3 (by omega) w
  rw [bt_get s k hk]
  exact h

set_option maxRecDepth 100000 in
set_option maxHeartbeats 1600000 in
theorem c19 (s : ByteArray) (at_ : Int) (w : World) (hsz : s.size ≤ 1073741824) : Calls Tryz.prog 19 #[.string s, .int .i64 at_] w fun e w' => (if 0 ≤ at_ ∧ at_ ≤ s.size then e = .returned (.tuple #[.int .i64 (pos s at_.toNat).1, .int .i64 (pos s at_.toNat).2, .int .i64 0]) else e = .returned (.tuple #[.int .i64 0, .int .i64 0, .int .i64 1])) ∧ w' = w := by
  by_cases h0 : at_ < 0
  · have hf : (0 ≤ at_ ∧ at_ ≤ s.size) = False := eq_false (by omega)
    simp only [hf, if_false]
    go_enter Tryz.func19, Tryz.ntmps19
    go_wp2
    exact bodyPost_ret (v := .tuple #[.int .i64 0, .int .i64 0, .int .i64 1]) (by simp [results, Tryz.results19, go_sem]) rfl ⟨rfl, rfl⟩
  · by_cases h1 : at_ > (s.size : Int)
    · have hf : (0 ≤ at_ ∧ at_ ≤ s.size) = False := eq_false (by omega)
      simp only [hf, if_false]
      go_enter Tryz.func19, Tryz.ntmps19
      go_wp2
      exact bodyPost_ret (v := .tuple #[.int .i64 0, .int .i64 0, .int .i64 1]) (by simp [results, Tryz.results19, go_sem]) rfl ⟨rfl, rfl⟩
    · have hf : (0 ≤ at_ ∧ at_ ≤ s.size) = True := eq_true (by omega)
      simp only [hf, if_true]
      clear hf
      obtain ⟨n, rfl⟩ : ∃ n : Nat, at_ = (n : Int) := ⟨at_.toNat, by omega⟩
      have hn : n ≤ s.size := by omega
      rw [show (n : Int).toNat = n from rfl]
      go_enter Tryz.func19, Tryz.ntmps19
      go_wp2
      go_loopw [7, 8, 9] (fun s7 s8 s9 wr => ∃ k : Nat, k ≤ n ∧ s7 = .int .i64 (pos s k).1 ∧ s8 = .int .i64 (pos s k).2 ∧ s9 = .int .i64 (k : Int) ∧ wr = w) (fun _ _ s9 _ => n - (intOf s9).toNat)
      case atStart => exact ⟨0, Nat.zero_le _, rfl, rfl, rfl, rfl⟩
      case round =>
        obtain ⟨k, hk, rfl, rfl, rfl, rfl⟩ := hrel
        by_cases hlt : k < n
        · have hltz : (k : Int) < (n : Int) := by omega
          have hks : k < s.size := by omega
          have hksz : (k : Int) < (s.size : Int) := by omega
          have hw : wrap64 ((k : Int) + 1) = ((k + 1 : Nat) : Int) := by unfold wrap64; omega
          have CC := Lib.hid (c60pos s k hks hsz wr)
          have HX := Lib.hid (And.intro hlt hw)
          clear hw hsz hk hn h0 h1
          go_wp2_with (go_at_call 60; ((with_reducible refine CC.out.mono ?_); rintro e w' ⟨rfl, rfl⟩))
          rw [HX.out.2]
          have hl := HX.out.1
          refine ⟨⟨k + 1, hl, rfl, rfl, rfl, by first | rfl | trivial⟩, ?_⟩
          show n - (((k + 1 : Nat) : Int)).toNat < n - ((k : Int)).toNat
          omega
        · have hltz : ¬ ((k : Int) < (n : Int)) := by omega
          obtain rfl : k = n := by omega
          go_wp2
          exact bodyPost_ret (v := .tuple #[.int .i64 (pos s k).1, .int .i64 (pos s k).2, .int .i64 0]) (by simp [results, Tryz.results19, go_sem]) rfl ⟨rfl, rfl⟩

/-- Byte's answer -/
def bytV (s : ByteArray) (l c : Int) : Value := match byteF s l c with | some i => .tuple #[.int .i64 (i : Int), .int .i64 0] | none => .tuple #[.int .i64 0, .int .i64 3]
theorem bytV_some {s : ByteArray} {l c : Int} {i : Nat} (h : byteF s l c = some i) : bytV s l c = .tuple #[.int .i64 (i : Int), .int .i64 0] := by unfold bytV; rw [h]
theorem bytV_none {s : ByteArray} {l c : Int} (h : byteF s l c = none) : bytV s l c = .tuple #[.int .i64 0, .int .i64 3] := by unfold bytV; rw [h]

set_option maxRecDepth 100000 in
set_option maxHeartbeats 1600000 in
theorem c21 (s : ByteArray) (l c : Int) (w : World) (hsz : s.size ≤ 1073741824) : Calls Tryz.prog 21 #[.string s, .int .i64 l, .int .i64 c] w fun e w' => e = .returned (bytV s l c) ∧ w' = w := by
  go_enter Tryz.func21, Tryz.ntmps21
  go_wp2
  go_loopw [8, 9, 10] (fun s8 s9 s10 wr => ∃ k : Nat, k ≤ s.size + 1 ∧ (∀ j, j < k → pos s j ≠ (l, c)) ∧ (k ≤ s.size → s8 = .int .i64 (pos s k).1 ∧ s9 = .int .i64 (pos s k).2) ∧ s10 = .int .i64 (k : Int) ∧ wr = w) (fun _ _ s10 _ => s.size + 1 - (intOf s10).toNat)
  case atStart => exact ⟨0, Nat.zero_le _, fun j hj => absurd hj (Nat.not_lt_zero _), fun _ => ⟨rfl, rfl⟩, rfl, rfl⟩
  case round =>
    obtain ⟨k, hk, hno, hp, rfl, rfl⟩ := hrel
    by_cases hle : k ≤ s.size
    · obtain ⟨rfl, rfl⟩ := hp hle
      have hlez : (k : Int) ≤ (s.size : Int) := by omega
      have hw : wrap64 ((k : Int) + 1) = ((k + 1 : Nat) : Int) := by unfold wrap64; omega
      by_cases he : pos s k = (l, c)
      · have e1 : ((pos s k).1 == l) = true := by rw [he]; simp
        have e2 : ((pos s k).2 == c) = true := by rw [he]; simp
        have hb := byteF_some s l c k hle he
        have HB := Lib.hid hb
        clear hb hno hp
        go_wp2
        rw [bytV_some HB.out]
        exact bodyPost_ret (v := .tuple #[.int .i64 (k : Int), .int .i64 0]) (by simp [results, Tryz.results21, go_sem]) rfl ⟨rfl, rfl⟩
      · have e12 : ((pos s k).1 == l) = false ∨ ((pos s k).1 == l) = true ∧ ((pos s k).2 == c) = false := by
          by_cases h : (pos s k).1 = l
          · refine .inr ⟨by simpa using h, ?_⟩
            have : (pos s k).2 ≠ c := fun h2 => he (Prod.ext h h2)
            simpa using this
          · exact .inl (by simpa using h)
        have HNO : Hid (∀ j, j < k + 1 → pos s j ≠ (l, c)) := Lib.hid fun j hj => by
          rcases Nat.lt_or_ge j k with h | h
          · exact hno j h
          · obtain rfl : j = k := by omega
            exact he
        clear hno he hp
        have HX := Lib.hid (And.intro hle hw)
        clear hw
        by_cases hlt : k < s.size
        · have hltz : (k : Int) < (s.size : Int) := by omega
          have CC := Lib.hid (c60pos s k hlt hsz wr)
          have HL := Lib.hid hlt
          clear hsz hk hle
          rcases e12 with e1 | ⟨e1, e2⟩
          · go_wp2_with (go_at_call 60; ((with_reducible refine CC.out.mono ?_); rintro e w' ⟨rfl, rfl⟩))
            rw [HX.out.2]
            have hl := HL.out
            refine ⟨⟨k + 1, by omega, HNO.out, fun _ => ⟨rfl, rfl⟩, rfl, by first | rfl | trivial⟩, ?_⟩
            show s.size + 1 - (((k + 1 : Nat) : Int)).toNat < s.size + 1 - ((k : Int)).toNat
            omega
          · go_wp2_with (go_at_call 60; ((with_reducible refine CC.out.mono ?_); rintro e w' ⟨rfl, rfl⟩))
            rw [HX.out.2]
            have hl := HL.out
            refine ⟨⟨k + 1, by omega, HNO.out, fun _ => ⟨rfl, rfl⟩, rfl, by first | rfl | trivial⟩, ?_⟩
            show s.size + 1 - (((k + 1 : Nat) : Int)).toNat < s.size + 1 - ((k : Int)).toNat
            omega
        · have hltz : ¬ ((k : Int) < (s.size : Int)) := by omega
          have HKS := Lib.hid (show k = s.size by omega)
          clear hsz hk hle
          rcases e12 with e1 | ⟨e1, e2⟩
          · go_wp2
            rw [HX.out.2]
            have hks := HKS.out
            refine ⟨⟨k + 1, by omega, HNO.out, fun h => absurd h (by omega), rfl, by first | rfl | trivial⟩, ?_⟩
            show s.size + 1 - (((k + 1 : Nat) : Int)).toNat < s.size + 1 - ((k : Int)).toNat
            omega
          · go_wp2
            rw [HX.out.2]
            have hks := HKS.out
            refine ⟨⟨k + 1, by omega, HNO.out, fun h => absurd h (by omega), rfl, by first | rfl | trivial⟩, ?_⟩
            show s.size + 1 - (((k + 1 : Nat) : Int)).toNat < s.size + 1 - ((k : Int)).toNat
            omega
    · have hlez : ¬ ((k : Int) ≤ (s.size : Int)) := by omega
      have hb := byteF_none s l c (fun i hi => hno i (by omega))
      clear hp hno
      go_wp2
      rw [bytV_none hb]
      exact bodyPost_ret (v := .tuple #[.int .i64 0, .int .i64 3]) (by simp [results, Tryz.results21, go_sem]) rfl ⟨rfl, rfl⟩
end Go.Proofs.YtagcfgoofiibfaaGreatDoor
namespace Go.Proofs.YtagcfgoofiibfaaGreatDoor
open Go Go.RowKit

theorem c17 (s : ByteArray) (w : World) : Calls Tryz.prog 17 #[.string s] w fun e w' => e = .returned (.bool (decide (s.size ≤ 3000))) ∧ w' = w := by
  by_cases h : s.size ≤ 3000
  · have hz : (s.size : Int) ≤ 3000 := by omega
    rw [decide_eq_true h]
    go_enter Tryz.func17, Tryz.ntmps17
    go_wp2
    go_ret
    exact ⟨rfl, rfl⟩
  · have hz : ¬ ((s.size : Int) ≤ 3000) := by omega
    rw [decide_eq_false h]
    go_enter Tryz.func17, Tryz.ntmps17
    go_wp2
    go_ret
    exact ⟨rfl, rfl⟩

/-- both Locates, one answer -/
theorem locate_both (s : ByteArray) (at_ : Int) (hsz : s.size ≤ 1073741824) : ∃ x y z : Int,
    (∀ w, Calls Tryz.prog 18 #[.string s, .int .i64 at_] w fun e w' => e = .returned (.tuple #[.int .i64 x, .int .i64 y, .int .i64 z]) ∧ Below w.heap.size w w') ∧
    (∀ w, Calls Tryz.prog 19 #[.string s, .int .i64 at_] w fun e w' => e = .returned (.tuple #[.int .i64 x, .int .i64 y, .int .i64 z]) ∧ w' = w) := by
  by_cases h : 0 ≤ at_ ∧ at_ ≤ s.size
  · refine ⟨(pos s at_.toNat).1, (pos s at_.toNat).2, 0, fun w => (c18 s at_ w hsz).mono ?_, fun w => (c19 s at_ w hsz).mono ?_⟩
    · rintro e w' ⟨h1, h2⟩
      rw [if_pos h] at h1
      exact ⟨h1, h2⟩
    · rintro e w' ⟨h1, h2⟩
      rw [if_pos h] at h1
      exact ⟨h1, h2⟩
  · refine ⟨0, 0, 1, fun w => (c18 s at_ w hsz).mono ?_, fun w => (c19 s at_ w hsz).mono ?_⟩
    · rintro e w' ⟨h1, h2⟩
      rw [if_neg h] at h1
      exact ⟨h1, h2⟩
    · rintro e w' ⟨h1, h2⟩
      rw [if_neg h] at h1
      exact ⟨h1, h2⟩
theorem byte_both (s : ByteArray) (l c : Int) (hsz : s.size ≤ 1073741824) : ∃ x y : Int,
    (∀ w, Calls Tryz.prog 20 #[.string s, .int .i64 l, .int .i64 c] w fun e w' => e = .returned (.tuple #[.int .i64 x, .int .i64 y]) ∧ Below w.heap.size w w') ∧
    (∀ w, Calls Tryz.prog 21 #[.string s, .int .i64 l, .int .i64 c] w fun e w' => e = .returned (.tuple #[.int .i64 x, .int .i64 y]) ∧ w' = w) := by
  rcases hb : byteF s l c with _ | i
  · refine ⟨0, 3, fun w => (c20 s l c w hsz).mono ?_, fun w => (c21 s l c w hsz).mono ?_⟩
    · rintro e w' h
      unfold bytTo at h
      rw [hb] at h
      exact h
    · rintro e w' h
      rw [bytV_none hb] at h
      exact h
  · refine ⟨i, 0, fun w => (c20 s l c w hsz).mono ?_, fun w => (c21 s l c w hsz).mono ?_⟩
    · rintro e w' h
      unfold bytTo at h
      rw [hb] at h
      exact h
    · rintro e w' h
      rw [bytV_some hb] at h
      exact h

set_option maxRecDepth 100000 in
set_option maxHeartbeats 1600000 in
theorem c3 (s : ByteArray) (at_ l c : Int) (w : World) (hT : TI w) : Calls Tryz.prog 3 #[.string s, .int .i64 at_, .int .i64 l, .int .i64 c] w fun e w' => e = .returned (.bool true) ∧ Below w.heap.size w w' := by
  have h17 := c17 s
  have HT := Lib.hid hT
  clear hT
  rcases hsh : decide (s.size ≤ 3000) with _ | _
  · rw [hsh] at h17
    have H17 := Lib.hid h17
    clear h17 hsh
    go_enter Tryz.func3, Tryz.ntmps3
    go_wp2_with (first | (go_at_call 16; ((with_reducible refine (c16 _ HT.out).mono ?_); rintro e w' ⟨rfl, hb⟩; have HB := Lib.hid hb; clear hb)) | (go_at_call 17; ((with_reducible refine (H17.out _).mono ?_); rintro e w' ⟨rfl, rfl⟩)))
    go_ret
    exact ⟨rfl, HB.out⟩
  · have hsz : s.size ≤ 1073741824 := by have := of_decide_eq_true hsh; omega
    rw [hsh] at h17
    have H17 := Lib.hid h17
    obtain ⟨x, y, z, h18, h19⟩ := locate_both s at_ hsz
    obtain ⟨p, q, h20, h21⟩ := byte_both s l c hsz
    have H18 := Lib.hid h18
    have H19 := Lib.hid h19
    have H20 := Lib.hid h20
    have H21 := Lib.hid h21
    clear h17 hsh hsz h18 h19 h20 h21
    go_enter Tryz.func3, Tryz.ntmps3
    go_wp2_with (first | (go_at_call 16; ((with_reducible refine (c16 _ HT.out).mono ?_); rintro e w' ⟨rfl, hb⟩; have HB := Lib.hid hb; clear hb)) | (go_at_call 17; ((with_reducible refine (H17.out _).mono ?_); rintro e w' ⟨rfl, rfl⟩)) | (go_at_call 18; ((with_reducible refine (H18.out _).mono ?_); rintro e w' ⟨rfl, hb⟩; have hB := HB.out.trans (hb.mono HB.out.size); clear HB hb; have HB := Lib.hid hB; clear hB)) | (go_at_call 19; ((with_reducible refine (H19.out _).mono ?_); rintro e w' ⟨rfl, rfl⟩)) | (go_at_call 20; ((with_reducible refine (H20.out _).mono ?_); rintro e w' ⟨rfl, hb⟩; have hB := HB.out.trans (hb.mono HB.out.size); clear HB hb; have HB := Lib.hid hB; clear hB)) | (go_at_call 21; ((with_reducible refine (H21.out _).mono ?_); rintro e w' ⟨rfl, rfl⟩)))
    go_ret
    exact ⟨rfl, HB.out⟩
end Go.Proofs.YtagcfgoofiibfaaGreatDoor
namespace Go.Proofs.YtagcfgoofiibfaaGreatDoor
open Go Go.RowKit

theorem item_err (s : ByteArray) (i : Nat) (e : Int) (h : item s i = .bad e) : 20 ≤ e := by
  unfold item at h
  split at h
  · cases h
  · split at h
    · split at h
      · injection h with h; omega
      · cases h
    · split at h
      · cases h
      · injection h with h
        subst h
        rename_i h
        exact (tokF_err s i _ h).1
/-- what LexErrors says, in plain words -/
theorem errors_plain (s m : ByteArray) (hs : s.size ≤ 3000) (hm : m.size ≤ 3000) (a : Nat) (e : Int) (h : tokens s = .error (a, e)) :
    20 ≤ e ∧ a < s.size ∧ (∃ ts, tokens (s.extract 0 a) = .ok ts) ∧ (e ≠ 22 → tokens (s ++ ⟨#[10]⟩ ++ m) = .error (a, e)) := by
  rw [tokens_err_iff s (by omega)] at h
  obtain ⟨_, h2, _, h4⟩ := h.pt
  have hx := size_ext s 0 a (by omega)
  refine ⟨item_err s a e h4, h2, ?_, fun he => ?_⟩
  · obtain ⟨ps, ys, h5⟩ := err_prefix h
    exact ⟨_, (tokens_ok_iff _ (by rw [hx]; omega) _).2 ⟨ps, ys, h5, rfl⟩⟩
  · rw [tokens_err_iff _ (by rw [ByteArray.size_append, ByteArray.size_append]; show s.size + 1 + m.size ≤ 20000; omega)]
    exact err_more h he m

theorem tok_err_call {r : Nat × Int} (s : ByteArray) (h : tokens s = .error r) (w : World) (hT : TI w) : Calls Tryz.prog 24 #[.string s] w fun e w' => e = .returned (.tuple #[.slice none 0 0, .int .i64 (r.1 : Int), .int .i64 r.2]) ∧ Below w.heap.size w w' := by
  have := H24 s w hT
  rw [h] at this
  exact this
theorem tok_ok_call {ts : List Tk} (s : ByteArray) (h : tokens s = .ok ts) (w : World) (hT : TI w) : Calls Tryz.prog 24 #[.string s] w fun e w' => (∃ a cp, e = .returned (.tuple #[.slice a ts.length cp, .int .i64 0, .int .i64 0]) ∧ TokRow w' (.slice a ts.length cp) ts) ∧ Below w.heap.size w w' := by
  refine (H24 s w hT).mono ?_
  rw [h]
  rintro e w' ⟨⟨v, rfl, hr⟩, hb⟩
  obtain ⟨a, cp, rfl, _⟩ := hr.shape
  exact ⟨⟨a, cp, rfl, hr⟩, hb⟩
/-- Tokens, whatever it answers -/
theorem tok_any_call (s : ByteArray) : ∃ (p q : Int), ∀ (w : World), TI w → Calls Tryz.prog 24 #[.string s] w fun e w' => (∃ a n cp, e = .returned (.tuple #[.slice a n cp, .int .i64 p, .int .i64 q])) ∧ Below w.heap.size w w' := by
  rcases h : tokens s with ⟨a, e⟩ | ts
  · exact ⟨a, e, fun w hT => (tok_err_call s h w hT).mono fun e w' hh => ⟨⟨_, _, _, hh.1⟩, hh.2⟩⟩
  · exact ⟨0, 0, fun w hT => (tok_ok_call s h w hT).mono fun e w' hh => ⟨by obtain ⟨a, cp, h1, _⟩ := hh.1; exact ⟨_, _, _, h1⟩, hh.2⟩⟩

set_option maxRecDepth 100000 in
set_option maxHeartbeats 1600000 in
theorem c7 (s m : ByteArray) (w : World) (hT : TI w) : Calls Tryz.prog 7 #[.string s, .string m] w fun e w' => e = .returned (.bool true) ∧ Below w.heap.size w w' := by
  have h17 := c17 s
  have k17 := c17 m
  have HT := Lib.hid hT
  clear hT
  rcases hsh : decide (s.size ≤ 3000) with _ | _
  · rw [hsh] at h17
    have H17 := Lib.hid h17
    clear h17 hsh k17
    go_enter Tryz.func7, Tryz.ntmps7
    go_wp2_with (first | (go_at_call 16; ((with_reducible refine (c16 _ HT.out).mono ?_); rintro e w' ⟨rfl, hb⟩; have HB := Lib.hid hb; clear hb)) | (go_at_call 17; ((with_reducible refine (H17.out _).mono ?_); rintro e w' ⟨rfl, rfl⟩)))
    go_ret
    exact ⟨rfl, HB.out⟩
  rcases hmh : decide (m.size ≤ 3000) with _ | _
  · rw [hsh] at h17
    rw [hmh] at k17
    have H17 := Lib.hid h17
    have K17 := Lib.hid k17
    clear h17 hsh k17 hmh
    go_enter Tryz.func7, Tryz.ntmps7
    go_wp2_with (first | (go_at_call 16; ((with_reducible refine (c16 _ HT.out).mono ?_); rintro e w' ⟨rfl, hb⟩; have HB := Lib.hid hb; clear hb)) | (go_at_call 17; ((with_reducible refine (H17.out _).mono ?_); rintro e w' ⟨rfl, rfl⟩)) | (go_at_call 17; ((with_reducible refine (K17.out _).mono ?_); rintro e w' ⟨rfl, rfl⟩)))
    go_ret
    exact ⟨rfl, HB.out⟩
  have hs := of_decide_eq_true hsh
  have hm := of_decide_eq_true hmh
  rw [hsh] at h17
  rw [hmh] at k17
  have H17 := Lib.hid h17
  have K17 := Lib.hid k17
  clear h17 hsh k17 hmh
  rcases htok : tokens s with ⟨a, er⟩ | ts
  · obtain ⟨he, ha, ⟨ts, hp⟩, hq⟩ := errors_plain s m hs hm a er htok
    have C1 := Lib.hid (tok_err_call s htok)
    have C2 := Lib.hid (tok_ok_call (s.extract 0 a) hp)
    have e0 : (er == 0) = false := by simp; omega
    have haz : ¬ ((a : Int) < 0) := by omega
    have haz2 : ¬ ((a : Int) ≥ (s.size : Int)) := by omega
    have w1 : s.size + 1 ≤ 9223372036854775807 := by omega
    have w2 : s.size + 1 + m.size ≤ 9223372036854775807 := by omega
    have haz3 : (a : Int) ≤ (s.size : Int) := by omega
    have HA := Lib.hid ha
    by_cases h22 : er = 22
    · obtain ⟨p, q, h3⟩ := tok_any_call (s ++ ⟨#[10]⟩ ++ m)
      have C3 := Lib.hid h3
      subst h22
      clear htok hp hq he ha hs hm h3
      go_enter Tryz.func7, Tryz.ntmps7
      go_wp2_with (first | (go_at_call 16; ((with_reducible refine (c16 _ HT.out).mono ?_); rintro e w' ⟨rfl, hb⟩; have HB := Lib.hid hb; clear hb)) | (go_at_call 17; ((with_reducible refine (H17.out _).mono ?_); rintro e w' ⟨rfl, rfl⟩)) | (go_at_call 17; ((with_reducible refine (K17.out _).mono ?_); rintro e w' ⟨rfl, rfl⟩)) | (go_at_call 24; ((with_reducible refine (C1.out _ (TI.below HT.out HB.out)).mono ?_); rintro e w' ⟨rfl, hb⟩; have hB := HB.out.trans (hb.mono HB.out.size); clear HB hb; have HB := Lib.hid hB; clear hB)) | (go_at_call 24; ((with_reducible refine (C2.out _ (TI.below HT.out HB.out)).mono ?_); rintro e w' ⟨⟨a2, cp2, rfl, _⟩, hb⟩; have hB := HB.out.trans (hb.mono HB.out.size); clear HB hb; have HB := Lib.hid hB; clear hB)) | (go_at_call 24; ((with_reducible refine (C3.out _ (TI.below HT.out HB.out)).mono ?_); rintro e w' ⟨⟨a3, n3, cp3, rfl⟩, hb⟩; have hB := HB.out.trans (hb.mono HB.out.size); clear HB hb; have HB := Lib.hid hB; clear hB)))
      go_ret
      exact ⟨rfl, HB.out⟩
    · have C3 := Lib.hid (tok_err_call _ (hq h22))
      have e22 : (er == 22) = false := by simpa using h22
      clear htok hp hq he ha hs hm h22
      go_enter Tryz.func7, Tryz.ntmps7
      go_wp2_with (first | (go_at_call 16; ((with_reducible refine (c16 _ HT.out).mono ?_); rintro e w' ⟨rfl, hb⟩; have HB := Lib.hid hb; clear hb)) | (go_at_call 17; ((with_reducible refine (H17.out _).mono ?_); rintro e w' ⟨rfl, rfl⟩)) | (go_at_call 17; ((with_reducible refine (K17.out _).mono ?_); rintro e w' ⟨rfl, rfl⟩)) | (go_at_call 24; ((with_reducible refine (C1.out _ (TI.below HT.out HB.out)).mono ?_); rintro e w' ⟨rfl, hb⟩; have hB := HB.out.trans (hb.mono HB.out.size); clear HB hb; have HB := Lib.hid hB; clear hB)) | (go_at_call 24; ((with_reducible refine (C2.out _ (TI.below HT.out HB.out)).mono ?_); rintro e w' ⟨⟨a2, cp2, rfl, _⟩, hb⟩; have hB := HB.out.trans (hb.mono HB.out.size); clear HB hb; have HB := Lib.hid hB; clear hB)) | (go_at_call 24; ((with_reducible refine (C3.out _ (TI.below HT.out HB.out)).mono ?_); rintro e w' ⟨rfl, hb⟩; have hB := HB.out.trans (hb.mono HB.out.size); clear HB hb; have HB := Lib.hid hB; clear hB)))
      go_ret
      exact ⟨rfl, HB.out⟩
  · have C1 := Lib.hid (tok_ok_call s htok)
    clear hs hm htok
    go_enter Tryz.func7, Tryz.ntmps7
    go_wp2_with (first | (go_at_call 16; ((with_reducible refine (c16 _ HT.out).mono ?_); rintro e w' ⟨rfl, hb⟩; have HB := Lib.hid hb; clear hb)) | (go_at_call 17; ((with_reducible refine (H17.out _).mono ?_); rintro e w' ⟨rfl, rfl⟩)) | (go_at_call 17; ((with_reducible refine (K17.out _).mono ?_); rintro e w' ⟨rfl, rfl⟩)) | (go_at_call 24; ((with_reducible refine (C1.out _ (TI.below HT.out HB.out)).mono ?_); rintro e w' ⟨⟨a2, cp2, rfl, _⟩, hb⟩; have hB := HB.out.trans (hb.mono HB.out.size); clear HB hb; have HB := Lib.hid hB; clear hB)))
    go_ret
    exact ⟨rfl, HB.out⟩
end Go.Proofs.YtagcfgoofiibfaaGreatDoor
namespace Go.Proofs.YtagcfgoofiibfaaGreatDoor
open Go Go.RowKit

theorem likeF_refl (x : Tk) : likeF x x = true := by unfold likeF; simp
theorem likeL_refl : ∀ a : List Tk, likeL a a = true
  | [] => rfl
  | x :: a => by rw [likeL, likeF_refl, likeL_refl a]; rfl

set_option maxRecDepth 100000 in
set_option maxHeartbeats 3200000 in
/-- SameAll at one and the same list -/
theorem c39 (va vb : Value) (a : List Tk) (w : World) (ha : TokSl w va a) (hb : TokSl w vb a) (hd : DLim a) : Calls Tryz.prog 39 #[va, vb] w fun e w' => e = .returned (.bool true) ∧ Below w.heap.size w w' := by
  have h25 := c25 va vb a a w ha hb hd
  rw [likeL_refl] at h25
  have H25 := Lib.hid h25
  clear h25 hd
  by_cases hz : a.length = 0
  · have e1 := List.eq_nil_of_length_eq_zero hz
    subst e1
    obtain ⟨a1, cp1, rfl, _⟩ := ha
    obtain ⟨a2, cp2, rfl, _⟩ := hb
    have h25 := H25.out
    simp only [List.length_nil] at h25 ⊢
    have H26 := Lib.hid h25
    clear hz h25
    go_enter Tryz.func39, Tryz.ntmps39
    go_wp2_with (go_at_call 25; ((with_reducible refine H26.out.mono ?_); rintro e w1 ⟨rfl, hb⟩; have HB1 := Lib.hid hb; clear hb))
    go_loopw [5] (fun s5 wr => s5 = .int .i64 0 ∧ wr = w1) (fun _ _ => 0)
    case atStart => exact ⟨rfl, rfl⟩
    case round =>
      obtain ⟨rfl, rfl⟩ := hrel
      go_wp2
      go_ret
      exact ⟨rfl, HB1.out⟩
  · have hpa : 0 < a.length := by omega
    obtain ⟨_, cp1, rfl, hc1, hm1, hA⟩ := ha
    obtain ⟨_, cp2, rfl, hc2, hm2, hB⟩ := hb
    obtain ⟨g1, o1, rfl, hg1, hA⟩ := hA hpa
    obtain ⟨g2, o2, rfl, hg2, hB⟩ := hB hpa
    have hmx : (maxLen : Nat) = 9223372036854775807 := rfl
    have hn : a.length ≤ 9223372036854775807 := by omega
    have HA := Lib.hid hA
    have HB := Lib.hid hB
    clear hpa hz hA hB hc1 hc2 hm1 hm2 hmx
    go_enter Tryz.func39, Tryz.ntmps39
    go_wp2_with (go_at_call 25; ((with_reducible refine H25.out.mono ?_); rintro e w1 ⟨rfl, hb⟩; have HB1 := Lib.hid hb; clear hb))
    go_loopw [5] (fun s5 wr => ∃ k : Nat, k ≤ a.length ∧ s5 = .int .i64 (k : Int) ∧ Below w.heap.size w wr) (fun s5 _ => a.length - (intOf s5).toNat)
    case atStart => exact ⟨0, Nat.zero_le _, rfl, HB1.out⟩
    case round =>
      obtain ⟨k, hk, rfl, hbl⟩ := hrel
      have HBL := Lib.hid hbl
      clear hbl
      by_cases hlt : k < a.length
      · obtain ⟨x, hx⟩ : ∃ x, a[k]? = some x := ⟨_, List.getElem?_eq_getElem hlt⟩
        obtain ⟨dx, ix, x0, x1, x2, x3, x4, x5, x6, x7⟩ := HA.out k x hx
        obtain ⟨dy, iy, y0, y1, y2, y3, y4, y5, y6, y7⟩ := HB.out k x hx
        have b0 : (0 : Int) ≤ (k : Int) := by omega
        have b1 : (k : Int) < (a.length : Int) := by omega
        have hb2 : k < a.length := hlt
        have KS : Hid (∀ X, Below w.heap.size w X → X.cell? ⟨g1, o1 + k * 8 + 4, none⟩ = some (.int .i64 (x.at_ : Int)) ∧ X.cell? ⟨g1, o1 + k * 8 + 5, none⟩ = some (.int .i64 (x.en : Int)) ∧ X.cell? ⟨g1, o1 + k * 8 + 6, none⟩ = some (.int .i64 x.line) ∧ X.cell? ⟨g1, o1 + k * 8 + 7, none⟩ = some (.int .i64 x.col) ∧ X.cell? ⟨g2, o2 + k * 8 + 4, none⟩ = some (.int .i64 (x.at_ : Int)) ∧ X.cell? ⟨g2, o2 + k * 8 + 5, none⟩ = some (.int .i64 (x.en : Int)) ∧ X.cell? ⟨g2, o2 + k * 8 + 6, none⟩ = some (.int .i64 x.line) ∧ X.cell? ⟨g2, o2 + k * 8 + 7, none⟩ = some (.int .i64 x.col)) := Lib.hid (fun X hX => by
          have hbc : ∀ (g o : Nat) (u : Value), g < w.heap.size → w.cell? ⟨g, o, none⟩ = some u → X.cell? ⟨g, o, none⟩ = some u := fun g o u hg h => (hX.cell (p := ⟨g, o, none⟩) hg).trans h
          exact ⟨hbc _ _ _ hg1 x4, hbc _ _ _ hg1 x5, hbc _ _ _ hg1 x6, hbc _ _ _ hg1 x7, hbc _ _ _ hg2 y4, hbc _ _ _ hg2 y5, hbc _ _ _ hg2 y6, hbc _ _ _ hg2 y7⟩)
        clear ix iy hx x0 x1 x2 x3 x4 x5 x6 x7 y0 y1 y2 y3 y4 y5 y6 y7
        go_wp2
        go_region_held3 (fun w' : World => w'.cell? ⟨g1, o1 + k * 8 + 4, none⟩ = some (.int .i64 (x.at_ : Int)) ∧ w'.cell? ⟨g1, o1 + k * 8 + 5, none⟩ = some (.int .i64 (x.en : Int)) ∧ w'.cell? ⟨g1, o1 + k * 8 + 6, none⟩ = some (.int .i64 x.line) ∧ w'.cell? ⟨g1, o1 + k * 8 + 7, none⟩ = some (.int .i64 x.col) ∧ w'.cell? ⟨g2, o2 + k * 8 + 4, none⟩ = some (.int .i64 (x.at_ : Int)) ∧ w'.cell? ⟨g2, o2 + k * 8 + 5, none⟩ = some (.int .i64 (x.en : Int)) ∧ w'.cell? ⟨g2, o2 + k * 8 + 6, none⟩ = some (.int .i64 x.line) ∧ w'.cell? ⟨g2, o2 + k * 8 + 7, none⟩ = some (.int .i64 x.col)) (first | exact KS.out _ HBL.out | exact KS.out _ HBL.out.drew) (fail)
        go_wp2
        go_roundw
        case rel => exact ⟨k + 1, by omega, by go_num, by first | exact HBL.out | exact HBL.out.drew⟩
        case measure => simp [intOf]; omega
      · have hd : decide (k < a.length) = false := by simpa using hlt
        go_wp2
        go_ret
        exact ⟨rfl, HBL.out⟩
end Go.Proofs.YtagcfgoofiibfaaGreatDoor
namespace Go.Proofs.YtagcfgoofiibfaaGreatDoor
open Go Go.RowKit

theorem line_count (s : ByteArray) : ∀ n, n ≤ s.size → (pos s n).1 = 1 + (((s.data.toList.take n).count 10 : Nat) : Int)
  | 0, _ => rfl
  | n + 1, h => by
    have ih := line_count s n (by omega)
    have hl : n < s.data.toList.length := by rw [Array.length_toList]; exact h
    have hb := bt_get s n h
    have hg : s[n]'h = s.data.toList[n] := rfl
    rw [hg] at hb
    rw [List.take_add_one, List.getElem?_eq_getElem hl, Option.toList_some, List.count_append, List.count_singleton]
    simp only [pos, nxt]
    rw [← hb]
    generalize s.data.toList[n] = x at *
    by_cases hx : x = 10
    · subst hx
      rw [if_pos (by decide), ih]
      simp
      omega
    · have h1 : ¬ ((x.toNat : Int) = 10) := by
        intro e
        apply hx
        apply UInt8.toNat.inj
        show x.toNat = 10
        omega
      have h2 : (x == 10) = false := by simpa using hx
      rw [if_neg h1]
      split
      · simp only [h2]; rw [ih]; simp
      · simp only [h2]; rw [ih]; simp
theorem line_end (s : ByteArray) : (pos s s.size).1 = 1 + ((Lib.countByte s.data.toList 10 : Nat) : Int) := by
  have h := line_count s s.size (Nat.le_refl _)
  rw [List.take_of_length_le (by rw [Array.length_toList]; exact Nat.le_refl _)] at h
  exact h
theorem TokSl.front {w : World} {a : Option Addr} {n cp : Nat} {l q : List Tk} (h : TokSl w (.slice a n cp) (l ++ q)) : TokSl w (.slice a l.length cp) l := by
  obtain ⟨a', cp', e, h1, h2, h3⟩ := h
  injection e with e1 e2 e3
  subst e1 e2 e3
  rw [List.length_append] at h1 h3
  refine ⟨a, cp, rfl, by omega, h2, fun hp => ?_⟩
  obtain ⟨b, o, e, hlt, hc⟩ := h3 (by omega)
  refine ⟨b, o, e, hlt, fun k t ht => hc k t ?_⟩
  rw [List.getElem?_append_left]
  · exact ht
  · rcases Nat.lt_or_ge k l.length with h | h
    · exact h
    · rw [List.getElem?_eq_none h] at ht; cases ht
/-- the cells of the k-th token of a row -/
theorem TokSl.at {w : World} {a : Option Addr} {n cp : Nat} {l : List Tk} (h : TokSl w (.slice a n cp) l) (k : Nat) (hk : k < l.length) : ∃ b o x dv, a = some ⟨b, o, none⟩ ∧ b < w.heap.size ∧ l[k]? = some x ∧ IntsAt w dv x.d ∧ n = l.length ∧ n ≤ cp ∧ cp ≤ maxLen ∧
    w.cell? ⟨b, o + k * 8, none⟩ = some (.int .i64 x.k) ∧ w.cell? ⟨b, o + k * 8 + 1, none⟩ = some (.string x.s) ∧ w.cell? ⟨b, o + k * 8 + 2, none⟩ = some (.bool false) ∧ w.cell? ⟨b, o + k * 8 + 3, none⟩ = some dv ∧
      w.cell? ⟨b, o + k * 8 + 4, none⟩ = some (.int .i64 (x.at_ : Int)) ∧ w.cell? ⟨b, o + k * 8 + 5, none⟩ = some (.int .i64 (x.en : Int)) ∧ w.cell? ⟨b, o + k * 8 + 6, none⟩ = some (.int .i64 x.line) ∧ w.cell? ⟨b, o + k * 8 + 7, none⟩ = some (.int .i64 x.col) := by
  obtain ⟨a', cp', e, h1, h2, h3⟩ := h
  injection e with e1 e2 e3
  subst e1 e2 e3
  obtain ⟨b, o, e, hlt, hc⟩ := h3 (by omega)
  obtain ⟨dv, i, x0, x1, x2, x3, x4, x5, x6, x7⟩ := hc k _ (List.getElem?_eq_getElem hk)
  exact ⟨b, o, _, dv, e, hlt, List.getElem?_eq_getElem hk, i, rfl, h1, h2, x0, x1, x2, x3, x4, x5, x6, x7⟩
end Go.Proofs.YtagcfgoofiibfaaGreatDoor
namespace Go.Proofs.YtagcfgoofiibfaaGreatDoor
open Go Go.RowKit

theorem tokens_pos {s : ByteArray} (hs : s.size ≤ 20000) {q : List Tk} (h : tokens s = .ok q) : ∀ x ∈ q, 1 ≤ x.line ∧ x.line ≤ s.size + 1 ∧ 1 ≤ x.col ∧ x.col ≤ 8 * s.size + 1 ∧ x.at_ < x.en ∧ x.en ≤ s.size := by
  rw [tokens_ok_iff s hs] at h
  obtain ⟨ps, ys, h1, rfl⟩ := h
  intro x hx
  obtain ⟨p, hp, rfl⟩ := List.mem_map.1 hx
  have h2 := h1.bd p hp
  obtain ⟨p1, p2, p3, p4⟩ := pos_bd s p.at_
  refine ⟨?_, ?_, ?_, ?_, ?_, ?_⟩ <;> simp only [placed, Tk.placedAt] <;> omega
theorem like_down (n : Nat) (l : Int) (x : Tk) : likeF (x.down n l) x = true := by
  unfold likeF Tk.down; simp
/-- what the second half of LexTogether reckons with -/
structure TogN (s : ByteArray) (L : Int) (n k : Nat) (x : Tk) : Prop where
  i1 : wrap64 ((n : Int) + (k : Int)) = ((n + k : Nat) : Int)
  l1 : wrap64 (x.line + L) = x.line + L
  a1 : wrap64 ((x.at_ : Int) + (s.size : Int)) = ((x.at_ + s.size : Nat) : Int)
  a2 : wrap64 (((x.at_ + s.size : Nat) : Int) + 1) = ((x.at_ + (s.size + 1) : Nat) : Int)
  e1 : wrap64 ((x.en : Int) + (s.size : Int)) = ((x.en + s.size : Nat) : Int)
  e2 : wrap64 (((x.en + s.size : Nat) : Int) + 1) = ((x.en + (s.size + 1) : Nat) : Int)
  k1 : wrap64 ((k : Int) + 1) = ((k + 1 : Nat) : Int)
theorem togN {s m : ByteArray} {L : Int} {n k : Nat} {x : Tk} (hs : s.size ≤ 3000) (hm : m.size ≤ 3000) (hL : 1 ≤ L ∧ L ≤ s.size + 1) (hx : 1 ≤ x.line ∧ x.line ≤ m.size + 1 ∧ 1 ≤ x.col ∧ x.col ≤ 8 * m.size + 1 ∧ x.at_ < x.en ∧ x.en ≤ m.size) (hn : n + k < 9223372036854775807) : TogN s L n k x := by
  refine ⟨?_, ?_, ?_, ?_, ?_, ?_, ?_⟩ <;> unfold wrap64 <;> omega
end Go.Proofs.YtagcfgoofiibfaaGreatDoor
namespace Go.Proofs.YtagcfgoofiibfaaGreatDoor
open Go Go.RowKit

theorem TokSl.caps {w : World} {a : Option Addr} {n cp : Nat} {ts : List Tk} (h : TokSl w (.slice a n cp) ts) : ts.length ≤ cp ∧ cp ≤ maxLen := by
  obtain ⟨_, _, e, h1, h2, _⟩ := h
  injection e with _ _ e
  subst e
  exact ⟨h1, h2⟩


set_option maxRecDepth 100000 in
set_option maxHeartbeats 3200000 in
/-- LexTogether where its guard lets nothing in -/
theorem c14no (s m : ByteArray) (w : World) (hT : TI w) (hbad : ¬ (s.size ≤ 3000 ∧ m.size ≤ 3000 ∧ (∃ l, tokens s = .ok l) ∧ ∃ q, tokens m = .ok q)) : Calls Tryz.prog 14 #[.string s, .string m] w fun e w' => e = .returned (.bool true) ∧ Below w.heap.size w w' := by
  have h17 := c17 s
  have k17 := c17 m
  have HT := Lib.hid hT
  clear hT
  obtain ⟨p1, q1, h1⟩ := tok_any_call s
  obtain ⟨p2, q2, h2⟩ := tok_any_call m
  have C1 := Lib.hid h1
  have C2 := Lib.hid h2
  clear h1 h2
  by_cases hs : s.size ≤ 3000
  case neg =>
    rw [decide_eq_false hs] at h17
    have H17 := Lib.hid h17
    clear h17 k17 hbad hs
    go_enter Tryz.func14, Tryz.ntmps14
    go_wp2_with (first | (go_at_call 16; ((with_reducible refine (c16 _ HT.out).mono ?_); rintro e w' ⟨rfl, hb⟩; have HB := Lib.hid hb; clear hb)) | (go_at_call 17; ((with_reducible refine (H17.out _).mono ?_); rintro e w' ⟨rfl, rfl⟩)) | (go_at_call 24; ((with_reducible refine (C1.out _ (TI.below HT.out HB.out)).mono ?_); rintro e w' ⟨⟨a, n, cp, rfl⟩, hb⟩; have hB := HB.out.trans (hb.mono HB.out.size); clear HB hb; have HB := Lib.hid hB; clear hB)) | (go_at_call 24; ((with_reducible refine (C2.out _ (TI.below HT.out HB.out)).mono ?_); rintro e w' ⟨⟨a, n, cp, rfl⟩, hb⟩; have hB := HB.out.trans (hb.mono HB.out.size); clear HB hb; have HB := Lib.hid hB; clear hB)))
    go_ret
    exact ⟨rfl, HB.out⟩
  by_cases hm : m.size ≤ 3000
  case neg =>
    rw [decide_eq_true hs] at h17
    rw [decide_eq_false hm] at k17
    have H17 := Lib.hid h17
    have K17 := Lib.hid k17
    clear h17 k17 hbad hs hm
    go_enter Tryz.func14, Tryz.ntmps14
    go_wp2_with (first | (go_at_call 16; ((with_reducible refine (c16 _ HT.out).mono ?_); rintro e w' ⟨rfl, hb⟩; have HB := Lib.hid hb; clear hb)) | (go_at_call 17; ((with_reducible refine (H17.out _).mono ?_); rintro e w' ⟨rfl, rfl⟩)) | (go_at_call 17; ((with_reducible refine (K17.out _).mono ?_); rintro e w' ⟨rfl, rfl⟩)) | (go_at_call 24; ((with_reducible refine (C1.out _ (TI.below HT.out HB.out)).mono ?_); rintro e w' ⟨⟨a, n, cp, rfl⟩, hb⟩; have hB := HB.out.trans (hb.mono HB.out.size); clear HB hb; have HB := Lib.hid hB; clear hB)) | (go_at_call 24; ((with_reducible refine (C2.out _ (TI.below HT.out HB.out)).mono ?_); rintro e w' ⟨⟨a, n, cp, rfl⟩, hb⟩; have hB := HB.out.trans (hb.mono HB.out.size); clear HB hb; have HB := Lib.hid hB; clear hB)))
    go_ret
    exact ⟨rfl, HB.out⟩
  rw [decide_eq_true hs] at h17
  rw [decide_eq_true hm] at k17
  have H17 := Lib.hid h17
  have K17 := Lib.hid k17
  clear h17 k17
  rcases htok : tokens s with ⟨a, er⟩ | l
  · have he := (errors_plain s m hs hm a er htok).1
    have C3 := Lib.hid (tok_err_call s htok)
    have e0 : (er != 0) = true := by simp; omega
    clear htok hbad hs hm he C1
    go_enter Tryz.func14, Tryz.ntmps14
    go_wp2_with (first | (go_at_call 16; ((with_reducible refine (c16 _ HT.out).mono ?_); rintro e w' ⟨rfl, hb⟩; have HB := Lib.hid hb; clear hb)) | (go_at_call 17; ((with_reducible refine (H17.out _).mono ?_); rintro e w' ⟨rfl, rfl⟩)) | (go_at_call 17; ((with_reducible refine (K17.out _).mono ?_); rintro e w' ⟨rfl, rfl⟩)) | (go_at_call 24; ((with_reducible refine (C3.out _ (TI.below HT.out HB.out)).mono ?_); rintro e w' ⟨rfl, hb⟩; have hB := HB.out.trans (hb.mono HB.out.size); clear HB hb; have HB := Lib.hid hB; clear hB)) | (go_at_call 24; ((with_reducible refine (C2.out _ (TI.below HT.out HB.out)).mono ?_); rintro e w' ⟨⟨a, n, cp, rfl⟩, hb⟩; have hB := HB.out.trans (hb.mono HB.out.size); clear HB hb; have HB := Lib.hid hB; clear hB)))
    go_ret
    exact ⟨rfl, HB.out⟩
  rcases hmok : tokens m with ⟨a, er⟩ | q
  · have he := (errors_plain m s hm hs a er hmok).1
    have C3 := Lib.hid (tok_ok_call s htok)
    have C4 := Lib.hid (tok_err_call m hmok)
    have e0 : (er != 0) = true := by simp; omega
    clear htok hmok hbad hs hm he C1 C2
    go_enter Tryz.func14, Tryz.ntmps14
    go_wp2_with (first | (go_at_call 16; ((with_reducible refine (c16 _ HT.out).mono ?_); rintro e w' ⟨rfl, hb⟩; have HB := Lib.hid hb; clear hb)) | (go_at_call 17; ((with_reducible refine (H17.out _).mono ?_); rintro e w' ⟨rfl, rfl⟩)) | (go_at_call 17; ((with_reducible refine (K17.out _).mono ?_); rintro e w' ⟨rfl, rfl⟩)) | (go_at_call 24; ((with_reducible refine (C3.out _ (TI.below HT.out HB.out)).mono ?_); rintro e w' ⟨⟨a, cp, rfl, _⟩, hb⟩; have hB := HB.out.trans (hb.mono HB.out.size); clear HB hb; have HB := Lib.hid hB; clear hB)) | (go_at_call 24; ((with_reducible refine (C4.out _ (TI.below HT.out HB.out)).mono ?_); rintro e w' ⟨rfl, hb⟩; have hB := HB.out.trans (hb.mono HB.out.size); clear HB hb; have HB := Lib.hid hB; clear hB)))
    go_ret
    exact ⟨rfl, HB.out⟩
  exact absurd ⟨hs, hm, ⟨l, htok⟩, q, hmok⟩ hbad
end Go.Proofs.YtagcfgoofiibfaaGreatDoor
set_option linter.unusedVariables false
namespace Go.Proofs.YtagcfgoofiibfaaGreatDoor
open Go Go.RowKit

theorem tokF_lc0 (s : ByteArray) (i : Nat) (p : Tk) (h : tokF s i = .ok p) : p.line = 0 ∧ p.col = 0 := by
  have hq : ∀ (f k : Nat) (o : List UInt8), quo s i f k o = .ok p → p.line = 0 ∧ p.col = 0 := by
    intro f
    induction f with
    | zero => intro k o h; simp only [quo] at h; cases h
    | succ f ih =>
      intro k o h
      simp only [quo] at h
      (repeat' split at h) <;> first | (cases h; done) | exact ih _ _ h | (injection h with h; subst h; exact ⟨rfl, rfl⟩)
  unfold tokF runF basedF signF at h
  (repeat' split at h) <;> first | (cases h; done) | (injection h with h; subst h; exact ⟨rfl, rfl⟩) | exact hq _ _ _ h | skip
  obtain ⟨L, c, _, _, rfl, _⟩ := sgn_ok s i p _ h
  exact ⟨rfl, rfl⟩
theorem Pt.len {s : ByteArray} {M i : Nat} {ps : List Tk} {ys : List (Nat × Nat)} (h : Pt s M i ps ys) : ps.length + i ≤ M := by
  induction h with
  | nil => simp
  | blank i ps ys hi hb _ ih => omega
  | com i j ps ys hi hb hc _ ih => have := item_com s i j hi hc; omega
  | tok i p ps ys hi hb hc _ ih => have := item_tok s i p hi hc; simp; omega
theorem IntsAt.grownT {w w' : World} {dv : Value} {l : List Int} {B n : Nat} {r : Value} {xs : List Value} (h : IntsAt w dv l) (hr : w.ownsRow B 41 8 r n xs) (hg : w.grownBy w' r.ownBlock) : IntsAt w' dv l := by
  refine World.ownsRow.kept h hg ?_
  rcases h.2 with ⟨rfl, _⟩ | ⟨g, cap, cur, rfl, _, hgg, _⟩
  · exact .inl rfl
  · refine .inr fun e => ?_
    rcases hr.2 with ⟨rfl, _⟩ | ⟨g', cp, cr, rfl, _, hg', _⟩
    · cases e
    · injection e with e
      have e' : g = g' := e
      subst e'
      rw [hgg] at hg'
      injection hg' with hg'
      injection hg' with _ hg' _
      exact absurd hg' (by decide)
theorem RowsAt.grownT {w w' : World} {B n : Nat} {r : Value} {xs : List Value} (hr : w.ownsRow B 41 8 r n xs) (hg : w.grownBy w' r.ownBlock) : ∀ {ts : List Tk} {zs : List Value}, RowsAt w ts zs → RowsAt w' ts zs
  | [], _, h => h
  | t :: ts, _, ⟨dv, ys, h1, h2, h3⟩ => ⟨dv, ys, h1.grownT hr hg, h2, RowsAt.grownT hr hg h3⟩
theorem RowsAt.below {w w' : World} {ts : List Tk} {xs : List Value} (h : RowsAt w ts xs) (hb : Below w.heap.size w w') : RowsAt w' ts xs := h.modd (Below.modd hb 0 (Nat.zero_le _))
theorem ownsTok.below {w w' : World} {B n : Nat} {v : Value} {xs : List Value} (h : w.ownsRow B 41 8 v n xs) (hb : Below w.heap.size w w') : w'.ownsRow B 41 8 v n xs := ownsRow_blocks h fun k hk => hb.block k (h.lt k hk).2
/-- what comment says where a token may stand -/
theorem com_item (s : ByteArray) (i : Nat) : (∃ j : Nat, item s i = .com j ∧ comF s i = (j : Int)) ∨ (∃ p, item s i = .tok p ∧ comF s i = -1 ∧ tokF s i = .ok p) ∨ (item s i = .bad 22 ∧ comF s i = -2) ∨ (∃ e, item s i = .bad e ∧ comF s i = -1 ∧ tokF s i = .error e) := by
  unfold item comF
  by_cases h1 : sees s i ⟨#[92, 42]⟩ = true
  · rw [if_pos h1, if_pos h1]; exact .inl ⟨_, rfl, rfl⟩
  rw [if_neg h1, if_neg h1]
  by_cases h2 : sees s i ⟨#[40, 42]⟩ = true
  · rw [if_pos h2, if_pos h2]
    rcases insA s i 0 with _ | j
    · exact .inr (.inr (.inl ⟨rfl, rfl⟩))
    · exact .inl ⟨_, rfl, rfl⟩
  rw [if_neg h2, if_neg h2]
  rcases tokF s i with e | p
  · exact .inr (.inr (.inr ⟨e, rfl, rfl, rfl⟩))
  · exact .inr (.inl ⟨p, rfl, rfl, rfl⟩)

set_option maxRecDepth 100000 in
set_option maxHeartbeats 6400000 in
/-- Tokens -/
theorem c38 (s : ByteArray) (w : World) (hs : s.size ≤ 20000) : Calls Tryz.prog 38 #[.string s] w (TokTo (tokens s) w) := by
  obtain ⟨ii, hi0, hz0, hz1, hz2⟩ := info_parts Tryz.info41
  have hbz : ¬ ((100000 : Int) < (s.size : Int)) := by omega
  have HSZ := Lib.hid hs
  clear hs
  go_enter Tryz.func38, Tryz.ntmps38
  go_wp2
  go_loopw [5, 6, 7, 8] (fun s5 s6 s7 s8 wr => ∃ (i : Nat) (qs : List Tk) (ys : List (Nat × Nat)) (xs : List Value), i ≤ s.size ∧ s6 = .int .i64 (pos s i).1 ∧ s7 = .int .i64 (pos s i).2 ∧ s8 = .int .i64 (i : Int) ∧ Pt s i 0 qs ys ∧ wr.ownsRow w.heap.size 41 8 s5 qs.length xs ∧ RowsAt wr (qs.map (placed s)) xs ∧ Below w.heap.size w wr) (fun _ _ _ s8 _ => s.size - (intOf s8).toNat)
  case atStart => exact ⟨0, [], [], [], Nat.zero_le _, rfl, rfl, rfl, .nil, World.ownsRow_nil _ _ _ _, rfl, Below.refl _ _⟩
  case round =>
    obtain ⟨i, qs, ys, xs, hi, rfl, rfl, rfl, hpt, hrow, hra, hB⟩ := hrel
    obtain ⟨sa, cap, rfl⟩ := row_form hrow
    have hql := hpt.len
    have HQ := Lib.hid hpt
    have HROW := Lib.hid hrow
    have HRA := Lib.hid hra
    have HB := Lib.hid hB
    have hSZ := HSZ.out
    clear hpt hrow hra hB
    by_cases hlt : i < s.size
    case neg =>
      have r1 : ¬ ((i : Int) < (s.size : Int)) := by omega
      have hie : i = s.size := by omega
      have hq20 : ¬ ((20000 : Int) < (qs.length : Int)) := by omega
      have hsc : Sc s 0 qs ys := by have h := HQ.out; rw [hie] at h; exact h.sc (Nat.le_refl _)
      have htk := tokens_of_sc (by omega) hsc (by omega)
      have HTK := Lib.hid htk
      clear hlt hie hsc htk
      go_wp2
      go_ret3
      rw [HTK.out]
      refine ⟨⟨_, rfl, xs, ?_, HRA.out⟩, HB.out⟩
      rw [List.length_map]
      exact Go.Joins.ownsRow_le HROW.out (Nat.zero_le _)
    have hjz : (i : Int) < (s.size : Int) := by omega
    have h0 : (0 : Int) ≤ (i : Int) := by omega
    have hb := bt_get s i hlt
    obtain ⟨y, hy⟩ : ∃ y, bt s i = y := ⟨_, rfl⟩
    rw [hy] at hb
    have C79 := Lib.hid (fun W => c79 y W)
    have C80 := Lib.hid (fun W => c80 s i W (by omega) hlt)
    have C81 := Lib.hid (fun W => c81 s i W hlt (by omega))
    have q1 : IntKind.i64.wrap ((i : Int) + 1) = (i : Int) + 1 := IntWalk.i64_in _ (by omega)
    have HLT := Lib.hid hlt
    have HQL := Lib.hid hql
    rcases hbl : blk y with _ | _
    · rw [hbl] at C79
      have hbs : blk (bt s i) = false := by rw [hy]; exact hbl
      rcases com_item s i with ⟨j, hit, hcf⟩ | ⟨p, hit, hcf, htf⟩ | ⟨hit, hcf⟩ | ⟨er, hit, hcf, htf⟩
      · -- a comment
        have hij := item_com s i j hlt hit
        rw [hcf] at C80
        have HPT : Hid (Pt s j 0 (qs ++ []) (ys ++ [(i, j)])) := Lib.hid (HQ.out.app (.com i j _ _ hlt hbs hit .nil))
        rw [List.append_nil] at HPT
        have HE : Hid (i < j ∧ j ≤ s.size) := Lib.hid hij
        have x1 : ((j : Int) == -2) = false := by first | (simp; done) | (simp; omega)
        have x2 : ((j : Int) == -1) = false := by first | (simp; done) | (simp; omega)
        have HROW5 := Lib.hid HROW.out
        have HRA5 := Lib.hid HRA.out
        have HB5 := Lib.hid HB.out
        clear hbl hbs hit hcf hij hy hql
        go_wp2_with (first | (go_at_call 79; ((with_reducible refine (C79.out _).mono ?_); rintro e w' ⟨rfl, rfl⟩)) | (go_at_call 80; ((with_reducible refine (C80.out _).mono ?_); rintro e w' ⟨rfl, rfl⟩)))
        go_loopw [6, 7, 8] (fun s6 s7 s8 wq => ∃ k : Nat, i ≤ k ∧ k ≤ j ∧ s6 = .int .i64 (pos s k).1 ∧ s7 = .int .i64 (pos s k).2 ∧ s8 = .int .i64 (k : Int) ∧ wq = wr) (fun _ _ s8 _ => j - (intOf s8).toNat)
        case atStart => exact ⟨i, Nat.le_refl _, by have := HE.out; omega, rfl, rfl, rfl, rfl⟩
        case round =>
          obtain ⟨k, hk0, hk1, rfl, rfl, rfl, rfl⟩ := hrel
          by_cases hke : k < j
          · have g1 : (k : Int) < (j : Int) := by omega
            have hks : k < s.size := by have := HE.out; omega
            have g2 : (k : Int) < (s.size : Int) := by omega
            have g0 : (0 : Int) ≤ (k : Int) := by omega
            have CC := Lib.hid (fun X => c60pos s k hks (by have := HSZ.out; omega) X)
            have HKE := Lib.hid hke
            have HKS := Lib.hid hks
            have HK0 := Lib.hid hk0
            clear hke hk0 hk1
            go_wp2_with (go_at_call 60; ((with_reducible refine (CC.out _).mono ?_); rintro e w' ⟨rfl, rfl⟩))
            go_roundw
            case rel => exact ⟨k + 1, by have := HK0.out; omega, by have := HKE.out; omega, rfl, rfl, by go_num, by first | rfl | trivial⟩
            case measure => have := HKE.out; simp [intOf]; omega
          · have g1 : ¬ ((k : Int) < (j : Int)) := by omega
            have hkE : k = j := by omega
            have HKE := Lib.hid hkE
            clear hke hk0 hk1 hkE
            go_wp2
            go_roundw
            case rel =>
              rw [HKE.out]
              exact ⟨j, qs, _, _, by have := HE.out; omega, rfl, rfl, rfl, HPT.out, HROW5.out, HRA5.out, HB5.out⟩
            case measure => have := HKE.out; have := HE.out; simp [intOf]; omega
      · -- a token
        have hpe := item_tok s i p hlt hit
        obtain ⟨pk, ps, pd, pa, pe, pl, pc⟩ := p
        simp only [] at hpe
        obtain ⟨_, hp1, hp2, rfl, _, _⟩ := hpe
        have hlc := tokF_lc0 s pa _ htf
        simp only [] at hlc
        obtain ⟨rfl, rfl⟩ := hlc
        rw [hcf] at C80
        rw [htf] at C81
        have HPT : Hid (Pt s pe 0 (qs ++ [(Tk.mk pk ps pd pa pe 0 0)]) (ys ++ [])) := Lib.hid (HQ.out.app (.tok pa (Tk.mk pk ps pd pa pe 0 0) _ _ hlt hbs hit .nil))
        rw [List.append_nil] at HPT
        have HE : Hid (pa < pe ∧ pe ≤ s.size) := Lib.hid ⟨hp1, hp2⟩
        clear hbl hbs hit hcf htf hy hql hp1 hp2
        go_wp2_with (first | (go_at_call 79; ((with_reducible refine (C79.out _).mono ?_); rintro e w' ⟨rfl, rfl⟩)) | (go_at_call 80; ((with_reducible refine (C80.out _).mono ?_); rintro e w' ⟨rfl, rfl⟩)) | (go_at_call 81; ((with_reducible refine (C81.out _).mono ?_); rintro e w3 ⟨⟨a3, k3, rfl, hi3⟩, hb3⟩; have HI3 := Lib.hid hi3; have HROW3 := Lib.hid (ownsTok.below HROW.out hb3); have HRA3 := Lib.hid (HRA.out.below hb3); have HB3 := Lib.hid (HB.out.trans (hb3.mono HB.out.size)); clear hi3 hb3)) | (at_builtin; refine wpList_append_lies _ rfl _ _ _ rfl w.heap.size 41 ii _ 8 88 Tryz.underlying30 hi0 hz0 hz1 hz2 rfl (by omega) _ qs.length xs rfl ((HROW3.out.alloc _).alloc _) ⟨w3.heap.size + 1, 0, none⟩ 1 1 [.int .i64 pk, .string ps, .bool false, .slice a3 pd.length k3, .int .i64 (pa : Int), .int .i64 (pe : Int), .int .i64 (pos s pa).1, .int .i64 (pos s pa).2] rfl rfl (World.news_of_block (cs := #[.int .i64 pk, .string ps, .bool false, .slice a3 pd.length k3, .int .i64 (pa : Int), .int .i64 (pe : Int), .int .i64 (pos s pa).1, .int .i64 (pos s pa).2]) (t := 41) (fr := (0, 0)) (by have h := heap_alloc_new (w3.alloc (.cells #[.int .i64 pk, .string ps, .bool false, .slice a3 pd.length k3, .int .i64 (pa : Int), .int .i64 (pe : Int), .int .i64 (pos s pa).1, .int .i64 (pos s pa).2] 41)) (.cells #[.int .i64 pk, .string ps, .bool false, .slice a3 pd.length k3, .int .i64 (pa : Int), .int .i64 (pe : Int), .int .i64 (pos s pa).1, .int .i64 (pos s pa).2] 41); simpa using h)) (by simp [Value.oneCell']) (by omega) (by have := HQL.out; unfold maxLen; omega) (by have := HQL.out; omega) (by have := HB3.out.size; simp; omega) _ rfl ?_; intro gg cap1 w5 hown1 hgrow hat hlt1; have HOWN := Lib.hid hown1; have HGROW := Lib.hid hgrow; clear hown1 hgrow hat hlt1))
        have hb2 : Below w3.heap.size w3 ((w3.alloc (.cells #[.int .i64 pk, .string ps, .bool false, .slice a3 pd.length k3, .int .i64 (pa : Int), .int .i64 (pe : Int), .int .i64 (pos s pa).1, .int .i64 (pos s pa).2] 41)).alloc (.cells #[.int .i64 pk, .string ps, .bool false, .slice a3 pd.length k3, .int .i64 (pa : Int), .int .i64 (pe : Int), .int .i64 (pos s pa).1, .int .i64 (pos s pa).2] 41)) := ((Below.refl _ _).alloc (Nat.le_refl _) _).alloc (by simp) _
        have hr2 := ownsTok.below HROW3.out hb2
        have HROW5 : Hid (w5.ownsRow w.heap.size 41 8 (.slice (some ⟨gg, 0, none⟩) (qs.length + 1) cap1) (qs ++ [(Tk.mk pk ps pd pa pe 0 0)]).length _) := Lib.hid (by rw [List.length_append]; exact HOWN.out)
        have HRA5 : Hid (RowsAt w5 ((qs ++ [(Tk.mk pk ps pd pa pe 0 0)]).map (placed s)) (xs ++ [.int .i64 pk, .string ps, .bool false, .slice a3 pd.length k3, .int .i64 (pa : Int), .int .i64 (pe : Int), .int .i64 (pos s pa).1, .int .i64 (pos s pa).2])) := Lib.hid (by
          rw [List.map_append]
          exact RowsAt.snoc (t := placed s (Tk.mk pk ps pd pa pe 0 0)) (dv := .slice a3 pd.length k3) ((HI3.out.ints.below hb2).grownT hr2 HGROW.out) (((HRA3.out.below hb2)).grownT hr2 HGROW.out))
        have hb5 : Below w.heap.size w _ := HB3.out.trans (hb2.mono HB3.out.size)
        have HB5 := Lib.hid (hb5.grown HGROW.out hb5.size (fun q hq => (HROW3.out.lt q hq).1))
        clear hb2 hr2 hb5
        go_loopw [6, 7, 8] (fun s6 s7 s8 wq => ∃ k : Nat, pa ≤ k ∧ k ≤ pe ∧ s6 = .int .i64 (pos s k).1 ∧ s7 = .int .i64 (pos s k).2 ∧ s8 = .int .i64 (k : Int) ∧ wq = w5) (fun _ _ s8 _ => pe - (intOf s8).toNat)
        case atStart => exact ⟨pa, Nat.le_refl _, by have := HE.out; omega, rfl, rfl, rfl, rfl⟩
        case round =>
          obtain ⟨k, hk0, hk1, rfl, rfl, rfl, rfl⟩ := hrel
          by_cases hke : k < pe
          · have g1 : (k : Int) < (pe : Int) := by omega
            have hks : k < s.size := by have := HE.out; omega
            have g2 : (k : Int) < (s.size : Int) := by omega
            have g0 : (0 : Int) ≤ (k : Int) := by omega
            have CC := Lib.hid (fun X => c60pos s k hks (by have := HSZ.out; omega) X)
            have HKE := Lib.hid hke
            have HKS := Lib.hid hks
            have HK0 := Lib.hid hk0
            clear hke hk0 hk1
            go_wp2_with (go_at_call 60; ((with_reducible refine (CC.out _).mono ?_); rintro e w' ⟨rfl, rfl⟩))
            go_roundw
            case rel => exact ⟨k + 1, by have := HK0.out; omega, by have := HKE.out; omega, rfl, rfl, by go_num, by first | rfl | trivial⟩
            case measure => have := HKE.out; simp [intOf]; omega
          · have g1 : ¬ ((k : Int) < (pe : Int)) := by omega
            have hkE : k = pe := by omega
            have HKE := Lib.hid hkE
            clear hke hk0 hk1 hkE
            go_wp2
            go_roundw
            case rel =>
              rw [HKE.out]
              exact ⟨pe, (qs ++ [(Tk.mk pk ps pd pa pe 0 0)]), _, _, by have := HE.out; omega, rfl, rfl, rfl, HPT.out, HROW5.out, HRA5.out, HB5.out⟩
            case measure => have := HKE.out; have := HE.out; simp [intOf]; omega
      · -- a comment with no end
        rw [hcf] at C80
        have htk := (tokens_err_iff s (by omega) i 22).2 (HQ.out.sce hlt hbs hit)
        have HTK := Lib.hid htk
        clear hbl hbs hit hcf htk hy hql
        go_wp2_with (first | (go_at_call 79; ((with_reducible refine (C79.out _).mono ?_); rintro e w' ⟨rfl, rfl⟩)) | (go_at_call 80; ((with_reducible refine (C80.out _).mono ?_); rintro e w' ⟨rfl, rfl⟩)))
        go_ret3
        rw [HTK.out]
        exact ⟨rfl, HB.out⟩
      · -- no token
        rw [hcf] at C80
        rw [htf] at C81
        have htk := (tokens_err_iff s (by omega) i er).2 (HQ.out.sce hlt hbs hit)
        have hte := tokF_err s i er htf
        have x3 : (er != 0) = true := by simp; omega
        have HTK := Lib.hid htk
        clear hbl hbs hit hcf htf htk hte hy hql
        go_wp2_with (first | (go_at_call 79; ((with_reducible refine (C79.out _).mono ?_); rintro e w' ⟨rfl, rfl⟩)) | (go_at_call 80; ((with_reducible refine (C80.out _).mono ?_); rintro e w' ⟨rfl, rfl⟩)) | (go_at_call 81; ((with_reducible refine (C81.out _).mono ?_); rintro e w3 ⟨⟨kz, sz, z, rfl⟩, hb3⟩; have HB3 := Lib.hid (HB.out.trans (hb3.mono HB.out.size)); clear hb3)))
        go_ret3
        rw [HTK.out]
        exact ⟨rfl, HB3.out.alloc HB3.out.size _⟩
    · rw [hbl] at C79
      have hbs : blk (bt s i) = true := by rw [hy]; exact hbl
      have HPT : Hid (Pt s (i + 1) 0 (qs ++ []) (ys ++ [])) := Lib.hid (HQ.out.app (.blank i _ _ hlt hbs .nil))
      rw [List.append_nil, List.append_nil] at HPT
      have HE : Hid (i < i + 1 ∧ i + 1 ≤ s.size) := Lib.hid (by omega)
      obtain ⟨E1, hE1⟩ : ∃ E1, i + 1 = E1 := ⟨_, rfl⟩
      have ec : (i : Int) + 1 = (E1 : Int) := by omega
      rw [hE1] at HPT HE
      rw [ec] at q1
      have HROW5 := Lib.hid HROW.out
      have HRA5 := Lib.hid HRA.out
      have HB5 := Lib.hid HB.out
      clear hbl hbs hy hql hE1
      go_wp2_with (first | (go_at_call 79; ((with_reducible refine (C79.out _).mono ?_); rintro e w' ⟨rfl, rfl⟩)))
      go_loopw [6, 7, 8] (fun s6 s7 s8 wq => ∃ k : Nat, i ≤ k ∧ k ≤ E1 ∧ s6 = .int .i64 (pos s k).1 ∧ s7 = .int .i64 (pos s k).2 ∧ s8 = .int .i64 (k : Int) ∧ wq = wr) (fun _ _ s8 _ => E1 - (intOf s8).toNat)
      case atStart => exact ⟨i, Nat.le_refl _, by have := HE.out; omega, rfl, rfl, rfl, rfl⟩
      case round =>
        obtain ⟨k, hk0, hk1, rfl, rfl, rfl, rfl⟩ := hrel
        by_cases hke : k < E1
        · have g1 : (k : Int) < (E1 : Int) := by omega
          have hks : k < s.size := by have := HE.out; omega
          have g2 : (k : Int) < (s.size : Int) := by omega
          have g0 : (0 : Int) ≤ (k : Int) := by omega
          have CC := Lib.hid (fun X => c60pos s k hks (by have := HSZ.out; omega) X)
          have HKE := Lib.hid hke
          have HKS := Lib.hid hks
          have HK0 := Lib.hid hk0
          clear hke hk0 hk1
          go_wp2_with (go_at_call 60; ((with_reducible refine (CC.out _).mono ?_); rintro e w' ⟨rfl, rfl⟩))
          go_roundw
          case rel => exact ⟨k + 1, by have := HK0.out; omega, by have := HKE.out; omega, rfl, rfl, by go_num, by first | rfl | trivial⟩
          case measure => have := HKE.out; simp [intOf]; omega
        · have g1 : ¬ ((k : Int) < (E1 : Int)) := by omega
          have hkE : k = E1 := by omega
          have HKE := Lib.hid hkE
          clear hke hk0 hk1 hkE
          go_wp2
          go_roundw
          case rel =>
            rw [HKE.out]
            exact ⟨E1, qs, _, _, by have := HE.out; omega, rfl, rfl, rfl, HPT.out, HROW5.out, HRA5.out, HB5.out⟩
          case measure => have := HKE.out; have := HE.out; simp [intOf]; omega
end Go.Proofs.YtagcfgoofiibfaaGreatDoor
namespace Go.Proofs.YtagcfgoofiibfaaGreatDoor
open Go Go.RowKit

set_option maxRecDepth 100000 in
set_option maxHeartbeats 1600000 in
/-- Kind of the reference -/
theorem c40 (s : ByteArray) (w : World) (hs : s.size ≤ 20000) : Calls Tryz.prog 40 #[.string s] w fun e w' => e = .returned (.int .i64 (kindF s)) ∧ Below w.heap.size w w' := by
  have hc := c38 s w hs
  obtain ⟨kd, hkd⟩ : ∃ kd, kd = kindF s := ⟨_, rfl⟩
  rw [← hkd]
  unfold kindF at hkd
  generalize tokens s = r at hc hkd
  have HK := Lib.hid hkd.symm
  clear hkd
  have HC := Lib.hid hc
  clear hc hs
  rcases r with ⟨a, er⟩ | ts
  · by_cases he : er = 0
    · subst he
      go_enter Tryz.func40, Tryz.ntmps40
      go_wp2_with (go_at_call 38; ((with_reducible refine HC.out.mono ?_); rintro e w' ⟨rfl, hb⟩; have HB := Lib.hid hb; clear hb))
      go_ret
      exact ⟨ret_int HK.out, HB.out⟩
    · have he2 : (er != 0) = true := by simpa using he
      go_enter Tryz.func40, Tryz.ntmps40
      go_wp2_with (go_at_call 38; ((with_reducible refine HC.out.mono ?_); rintro e w' ⟨rfl, hb⟩; have HB := Lib.hid hb; clear hb))
      go_ret
      exact ⟨ret_int HK.out, HB.out⟩
  · by_cases hl : ts.length = 1
    · obtain ⟨t, rfl⟩ : ∃ t, ts = [t] := by
        rcases ts with _ | ⟨t, _ | ⟨u, ts⟩⟩
        · cases hl
        · exact ⟨t, rfl⟩
        · simp at hl
      clear hl
      by_cases h1 : t.at_ = 0
      · by_cases h2 : t.en = s.size
        · have e1 : ((t.at_ : Int) != 0) = false := by simp [h1]
          have e2 : ((t.en : Int) != (s.size : Int)) = false := by simp [h2]
          have hk : kd = t.k := by rw [← HK.out]; simp only [kindR]; rw [if_pos ⟨h1, h2⟩]
          have HK2 := Lib.hid hk
          clear h1 h2 hk
          go_enter Tryz.func40, Tryz.ntmps40
          go_wp2_with (go_at_call 38; ((with_reducible refine HC.out.mono ?_); rintro e w' ⟨⟨v, rfl, hv⟩, hb⟩; have HB := Lib.hid hb; clear hb; obtain ⟨b, cap, rfl, hcap, k0, k4, k5⟩ := hv.one; clear hv))
          go_ret
          exact ⟨ret_int HK2.out.symm, HB.out⟩
        · have e1 : ((t.at_ : Int) != 0) = false := by simp [h1]
          have e2 : ((t.en : Int) != (s.size : Int)) = true := by simp; omega
          have hk : kd = 0 := by rw [← HK.out]; simp only [kindR]; rw [if_neg (by omega)]
          have HK2 := Lib.hid hk
          clear h1 h2 hk
          go_enter Tryz.func40, Tryz.ntmps40
          go_wp2_with (go_at_call 38; ((with_reducible refine HC.out.mono ?_); rintro e w' ⟨⟨v, rfl, hv⟩, hb⟩; have HB := Lib.hid hb; clear hb; obtain ⟨b, cap, rfl, hcap, k0, k4, k5⟩ := hv.one; clear hv))
          go_ret
          exact ⟨ret_int HK2.out.symm, HB.out⟩
      · have e1 : ((t.at_ : Int) != 0) = true := by simp; omega
        have hk : kd = 0 := by rw [← HK.out]; simp only [kindR]; rw [if_neg (by omega)]
        have HK2 := Lib.hid hk
        clear h1 hk
        go_enter Tryz.func40, Tryz.ntmps40
        go_wp2_with (go_at_call 38; ((with_reducible refine HC.out.mono ?_); rintro e w' ⟨⟨v, rfl, hv⟩, hb⟩; have HB := Lib.hid hb; clear hb; obtain ⟨b, cap, rfl, hcap, k0, k4, k5⟩ := hv.one; clear hv))
        go_ret
        exact ⟨ret_int HK2.out.symm, HB.out⟩
    · have hk : kd = 0 := by
        rw [← HK.out]
        rcases ts with _ | ⟨t, _ | ⟨u, ts⟩⟩
        · rfl
        · exact absurd rfl hl
        · rfl
      have HK2 := Lib.hid hk
      clear hk
      have HL := Lib.hid hl
      clear hl
      go_enter Tryz.func40, Tryz.ntmps40
      go_wp2_with (go_at_call 38; ((with_reducible refine HC.out.mono ?_); rintro e w' ⟨⟨v, rfl, hv⟩, hb⟩; have HB := Lib.hid hb; clear hb; obtain ⟨b, n, cap, rfl, hnl, hn⟩ := hv.many HL.out; have HNL := Lib.hid hnl; clear hv hnl))
      go_ret
      exact ⟨ret_int HK2.out.symm, HB.out⟩
end Go.Proofs.YtagcfgoofiibfaaGreatDoor
set_option linter.unusedVariables false
namespace Go.Proofs.YtagcfgoofiibfaaGreatDoor
open Go Go.RowKit

theorem signs_pos : 0 < signsS.length := by
  unfold signsS; rw [List.length_mergeSort]; decide
/-- what both readers of tokens answer -/
abbrev Both (f : Nat) (s : ByteArray) (l : List Tk) (p q : Int) (w : World) : Prop :=
  Calls Tryz.prog f #[.string s] w fun e w' => (∃ a cp, e = .returned (.tuple #[.slice a l.length cp, .int .i64 p, .int .i64 q]) ∧ TokSl w' (.slice a l.length cp) l) ∧ Below w.heap.size w w'
theorem TokSl.empty (w : World) : TokSl w (.slice none ([] : List Tk).length 0) [] :=
  ⟨none, 0, rfl, Nat.le_refl _, by decide, fun h => absurd h (by decide)⟩
theorem both_of (s : ByteArray) : ∃ (l : List Tk) (p q : Int), DLim l ∧ ∀ f w, Calls Tryz.prog f #[.string s] w (TokTo (tokens s) w) → Both f s l p q w := by
  rcases h : tokens s with ⟨a, e⟩ | ts
  · exact ⟨[], a, e, fun t ht => (by cases ht), fun f w hc => hc.mono fun e w' hh => ⟨⟨none, 0, hh.1, TokSl.empty w'⟩, hh.2⟩⟩
  · refine ⟨ts, 0, 0, tokens_d h, fun f w hc => hc.mono ?_⟩
    rintro e w' ⟨⟨v, rfl, hr⟩, hb⟩
    obtain ⟨a, cp, rfl, _⟩ := hr.shape
    exact ⟨⟨a, cp, rfl, hr.sl⟩, hb⟩

set_option maxRecDepth 100000 in
set_option maxHeartbeats 6400000 in
theorem c12 (s : ByteArray) (w : World) (hT : TI w) : Calls Tryz.prog 12 #[.string s] w fun e w' => e = .returned (.bool true) ∧ Below w.heap.size w w' := by
  have h17 := c17 s
  have HT := Lib.hid hT
  clear hT
  by_cases hs : s.size ≤ 3000
  case neg =>
    rw [decide_eq_false hs] at h17
    have H17 := Lib.hid h17
    clear h17 hs
    go_enter Tryz.func12, Tryz.ntmps12
    go_wp2_with (first | (go_at_call 16; ((with_reducible refine (c16 _ HT.out).mono ?_); rintro e w' ⟨rfl, hb⟩; have HB := Lib.hid hb; clear hb)) | (go_at_call 17; ((with_reducible refine (H17.out _).mono ?_); rintro e w' ⟨rfl, rfl⟩)))
    go_ret
    exact ⟨rfl, HB.out⟩
  rw [decide_eq_true hs] at h17
  have H17 := Lib.hid h17
  obtain ⟨l, p, q, hdl, hbo⟩ := both_of s
  have C1 : Hid (∀ X, TI X → Both 24 s l p q X) := Lib.hid fun X hX => hbo 24 X (H24 s X hX)
  have C2 : Hid (∀ X, Both 38 s l p q X) := Lib.hid fun X => hbo 38 X (c38 s X (by omega))
  have K1 : Hid (∀ X, TI X → Calls Tryz.prog 27 #[.string s] X fun e w' => e = .returned (.int .i64 (kindF s)) ∧ Below X.heap.size X w') := Lib.hid fun X hX => c27 H24 s X hX
  have K2 : Hid (∀ X, Calls Tryz.prog 40 #[.string s] X fun e w' => e = .returned (.int .i64 (kindF s)) ∧ Below X.heap.size X w') := Lib.hid fun X => c40 s X (by omega)
  have F1 : Hid (∀ X, TI X → Calls Tryz.prog 29 #[.string s] X fun e w' => e = .returned (.string ((canonOf s).getD ByteArray.empty)) ∧ Below X.heap.size X w') := Lib.hid fun X hX => c29 s X (by show s.size ≤ 9223372036854775807; omega) hX
  have F2 : Hid (∀ X, Calls Tryz.prog 41 #[.string s] X fun e w' => e = .returned (.string ((canonOf s).getD ByteArray.empty)) ∧ Below X.heap.size X w') := Lib.hid fun X => c41 s X
  have W1 : Hid (∀ X, TI X → Calls Tryz.prog 43 #[] X fun e w' => (∃ v, e = .returned v ∧ StrAt w' v wordsL) ∧ Below X.heap.size X w') := Lib.hid fun X hX => (c43 X hX).mono fun e w' ⟨v, h1, h2, h3⟩ => ⟨⟨v, h1, words_same ▸ h2.toAt (by rw [words_same]; decide)⟩, h3⟩
  have W2 : Hid (∀ X, Calls Tryz.prog 44 #[] X fun e w' => (∃ v, e = .returned v ∧ StrAt w' v wordsL) ∧ Below X.heap.size X w') := Lib.hid fun X => (c44 X).mono fun e w' ⟨h1, h2, h3⟩ => ⟨⟨_, h1, h2⟩, h3⟩
  have S1 : Hid (∀ X, TI X → Calls Tryz.prog 28 #[] X fun e w' => (∃ v, e = .returned v ∧ StrAt w' v signsS) ∧ Below X.heap.size X w') := Lib.hid fun X hX => (c28 X hX).mono fun e w' ⟨v, h1, h2, h3⟩ => ⟨⟨v, h1, h2.toAt signs_pos⟩, h3⟩
  have S2 : Hid (∀ X, Calls Tryz.prog 45 #[] X fun e w' => (∃ v, e = .returned v ∧ StrAt w' v signsS) ∧ Below X.heap.size X w') := Lib.hid fun X => (c45 X).mono fun e w' ⟨v, h1, h2, h3⟩ => ⟨⟨v, h1, h2⟩, h3⟩
  have DL := Lib.hid hdl
  obtain ⟨kd, hkd⟩ : ∃ kd, kd = kindF s := ⟨_, rfl⟩
  obtain ⟨V, hV⟩ : ∃ V, V = (canonOf s).getD ByteArray.empty := ⟨_, rfl⟩
  rw [← hkd] at K1 K2
  rw [← hV] at F1 F2
  clear h17 hdl hbo hs hkd hV
  go_enter Tryz.func12, Tryz.ntmps12
  go_wp2_with (first | (go_at_call 16; ((with_reducible refine (c16 _ HT.out).mono ?_); rintro e w' ⟨rfl, hb⟩; have HB := Lib.hid hb; clear hb)) | (go_at_call 17; ((with_reducible refine (H17.out _).mono ?_); rintro e w' ⟨rfl, rfl⟩)) | (go_at_call 24; ((with_reducible refine (C1.out _ (TI.below HT.out HB.out)).mono ?_); rintro e w' ⟨⟨a1, cp1, rfl, hr⟩, hb⟩; have hB := HB.out.trans (hb.mono HB.out.size); have HR1 := Lib.hid hr; clear HB hb hr; have HB := Lib.hid hB; clear hB)) | (go_at_call 38; ((with_reducible refine (C2.out _).mono ?_); rintro e w' ⟨⟨a2, cp2, rfl, hr⟩, hb⟩; have hB := HB.out.trans (hb.mono HB.out.size); have hR := HR1.out.below hb; have HR2 := Lib.hid hr; clear HB hb hr HR1; have HB := Lib.hid hB; have HR1 := Lib.hid hR; clear hB hR)) | (go_at_call 39; ((with_reducible refine (c39 _ _ l _ HR1.out HR2.out DL.out).mono ?_); rintro e w' ⟨rfl, hb⟩; have hB := HB.out.trans (hb.mono HB.out.size); clear HB hb HR1 HR2; have HB := Lib.hid hB; clear hB)) | (go_at_call 27; ((with_reducible refine (K1.out _ (TI.below HT.out HB.out)).mono ?_); rintro e w' ⟨rfl, hb⟩; have hB := HB.out.trans (hb.mono HB.out.size); clear HB hb; have HB := Lib.hid hB; clear hB)) | (go_at_call 40; ((with_reducible refine (K2.out _).mono ?_); rintro e w' ⟨rfl, hb⟩; have hB := HB.out.trans (hb.mono HB.out.size); clear HB hb; have HB := Lib.hid hB; clear hB)) | (go_at_call 29; ((with_reducible refine (F1.out _ (TI.below HT.out HB.out)).mono ?_); rintro e w' ⟨rfl, hb⟩; have hB := HB.out.trans (hb.mono HB.out.size); clear HB hb; have HB := Lib.hid hB; clear hB)) | (go_at_call 41; ((with_reducible refine (F2.out _).mono ?_); rintro e w' ⟨rfl, hb⟩; have hB := HB.out.trans (hb.mono HB.out.size); clear HB hb; have HB := Lib.hid hB; clear hB)) | (go_at_call 43; ((with_reducible refine (W1.out _ (TI.below HT.out HB.out)).mono ?_); rintro e w' ⟨⟨v1, rfl, hr⟩, hb⟩; have hB := HB.out.trans (hb.mono HB.out.size); have HV1 := Lib.hid hr; clear HB hb hr; have HB := Lib.hid hB; clear hB)) | (go_at_call 44; ((with_reducible refine (W2.out _).mono ?_); rintro e w' ⟨⟨v2, rfl, hr⟩, hb⟩; have hB := HB.out.trans (hb.mono HB.out.size); have hR := HV1.out.below hb; have HV2 := Lib.hid hr; clear HB hb hr HV1; have HB := Lib.hid hB; have HV1 := Lib.hid hR; clear hB hR)) | (go_at_call 42; ((with_reducible refine (c42 _ _ wordsL _ HV1.out HV2.out).mono ?_); rintro e w' ⟨rfl, hb⟩; have hB := HB.out.trans (hb.mono HB.out.size); clear HB hb HV1 HV2; have HB := Lib.hid hB; clear hB)) | (go_at_call 28; ((with_reducible refine (S1.out _ (TI.below HT.out HB.out)).mono ?_); rintro e w' ⟨⟨u1, rfl, hr⟩, hb⟩; have hB := HB.out.trans (hb.mono HB.out.size); have HU1 := Lib.hid hr; clear HB hb hr; have HB := Lib.hid hB; clear hB)) | (go_at_call 45; ((with_reducible refine (S2.out _).mono ?_); rintro e w' ⟨⟨u2, rfl, hr⟩, hb⟩; have hB := HB.out.trans (hb.mono HB.out.size); have hR := HU1.out.below hb; have HU2 := Lib.hid hr; clear HB hb hr HU1; have HB := Lib.hid hB; have HU1 := Lib.hid hR; clear hB hR)) | (go_at_call 42; ((with_reducible refine (c42 _ _ signsS _ HU1.out HU2.out).mono ?_); rintro e w' ⟨rfl, hb⟩; have hB := HB.out.trans (hb.mono HB.out.size); clear HB hb HU1 HU2; have HB := Lib.hid hB; clear hB)))
  go_ret
  exact ⟨rfl, HB.out⟩
end Go.Proofs.YtagcfgoofiibfaaGreatDoor
namespace Go.Proofs.YtagcfgoofiibfaaGreatDoor
open Go Go.ChangeMaps Go.ChangeShapes Go.WideShapes Go.ChangeAt Go.RowKit

set_option maxRecDepth 100000 in
theorem lexTokens_lifted (os : Os) (started : os.Started) (H : Type) (enc : TypeId × Value → H) :
    ReturnsInHanded {} Tryz.checked os 12 .any (fun w args => (Rows.lexTokensSpec.pre enc Tryz.prog Tryz.f12 [] false w args ∧ laidMetH Tryz.prog laidL w) ∧ sizedMet enc Tryz.prog Tryz.f12 (OpenSpec.ofChange Rows.lexTokensSpec) false w args)
      (Rows.lexTokensSpec.post enc Tryz.prog Tryz.f12 false true false false) := by
  refine returnsInHanded_of_change_and (C := Tryz.checked) (X := fun w _ => laidMetH Tryz.prog laidL w) (fun _ _ _ hh h => h.of_heap hh) own started (by kernel_rfl) Tryz.func12
    (ChangeSpec.witness_shaped (enc := enc) (C := Tryz.checked) (os := os) (X := fun w _ => laidMetH Tryz.prog laidL w) false (World.laidAll Tryz.prog os laidL) #[.string ByteArray.empty] 8 (World.laidAll_os _ _ _)
      (start_shaped os) (by kernel_rfl) (by kernel_rfl) (by kernel_rfl) (start_met os _)) ?_
  intro W base args ds gs before hval0 hW _ _ hL _
  have hval : ∀ (j : Nat) t v, Tryz.f12.params[j]? = some t → args[j]? = some v → Value.okWide Tryz.prog W .any base t v := hval0
  have hW' := hW
  obtain ⟨p, q, hA0, hV, rfl, _, _⟩ := hW
  have hA : DataW.TrodAll enc Tryz.prog W 0 (fun _ => true) true Tryz.f12.params.toList args.toList ds p := hA0
  rw [Tryz.params12] at hA hval
  obtain ⟨v0, d0, rfl, rfl, h0⟩ := trodAll_one hA
  obtain ⟨rfl, rfl⟩ := trodVars_none hV
  obtain ⟨x0, rfl, rfl, rfl, wx0⟩ := open_string Tryz.underlying9 (hval 0 9 v0 rfl rfl) h0
  simp only [List.append_nil] at hW'
  refine (c12 x0 W (ti_of_laid hL)).mono fun e W' ⟨he, hb⟩ => ?_
  subst he
  exact ⟨_, rfl, _, _, _, [], [], [], hW', trodAll_mk1 (shut_bool Tryz.underlying4 _), trodAll_mk1 (shut_string Tryz.underlying9 wx0), rfl, hb.frame _, fun h => by cases h⟩

theorem lexTokens_bare : Rows.LexTokensSaid :=
  OpenClaim.holds_of_wide 12 Tryz.f12 rfl rfl rfl rfl rfl rfl rfl ⟨rfl, rfl, rfl, rfl, rfl⟩ rfl rfl rfl rfl rfl lexTokens_named Tryz.func12 lexTokens_closed
    (of_decide_eq_true (by kernel_rfl)) lexTokens_wrap (fun os started H enc _ => lexTokens_lifted os started H enc)
theorem lexTokens_holds : Rows.LexTokensCardSaid :=
  Claim7.holds_tied_plain_at .later [] [.data, .data, .data, .data, .listed, .data, .pinned] true (true, "598e79093b2262133a9d99cdf3b0e1040e74e7a98986b3c01bfbd78ee9122216") true
    lexTokens_bare (fun _ h => by cases h) (by kernel_rfl) (fun _ h => by cases h) lexTokens_row_tie rfl ⟨rfl, rfl⟩ lexTokens_main rfl
    (fun f fn hf hfn => by
      obtain rfl : f = 12 := Option.some.inj (lexTokens_named.symm.trans hf) |>.symm
      obtain rfl : fn = Tryz.f12 := (Option.some.inj (Tryz.func12.symm.trans hfn)).symm
      exact ⟨lexTokens_looks, fun j t ht => by
        rw [Tryz.params12] at ht
        have hm : t ∈ [9] := by simpa using Array.mem_of_getElem? ht
        have hall : ([9].all fun u => !Tryz.prog.wantsStandIn u) = true := by kernel_rfl
        exact (show Tryz.prog.wantsStandIn t = false by simpa using List.all_eq_true.1 hall t hm)⟩)
    lexTokens_goes
#print axioms lexTokens_holds
end Go.Proofs.YtagcfgoofiibfaaGreatDoor
