/- The law LexErrors: its walk and its statement: LA0, LA1, LC0, LZ7. -/
import Derived.Test.YtagcfgoofiibfaaGreatDoorG40
import Derived.Test.YtagcfgoofiibfaaGreatDoorLexErrorsF
set_option linter.unusedVariables false
set_option linter.unusedSimpArgs false
namespace Go.Proofs.YtagcfgoofiibfaaGreatDoor
open Go Go.RowKit

theorem c60 (l c b : Int) (hl0 : 1 ≤ l) (hl : l ≤ 1099511627776) (hc0 : 1 ≤ c) (hc : c ≤ 1099511627776) (w : World) :
    Calls Tryz.prog 60 #[.int .i64 l, .int .i64 c, .int .u8 b] w fun e w' => e = .returned (.tuple #[.int .i64 (nxt l c b).1, .int .i64 (nxt l c b).2]) ∧ w' = w := by
  rcases h1 : (b == 10) with _ | _
  · rcases h2 : (b == 9) with _ | _
    · go_enter Tryz.func60, Tryz.ntmps60
      go_wp2
      refine bodyPost_ret (v := .tuple #[.int .i64 l, .int .i64 (c + 1)]) (by simp [results, Tryz.results60, go_sem]) rfl ⟨?_, rfl⟩
      simp at h1 h2; simp [nxt, h1, h2]
    · go_enter Tryz.func60, Tryz.ntmps60
      go_wp2
      refine bodyPost_ret (v := .tuple #[.int .i64 l, .int .i64 ((c - 1) / 8 * 8 + 8 + 1)]) (by simp [results, Tryz.results60, go_sem]) rfl ⟨?_, rfl⟩
      simp at h2; simp [nxt, h2]
  · go_enter Tryz.func60, Tryz.ntmps60
    go_wp2
    refine bodyPost_ret (v := .tuple #[.int .i64 (l + 1), .int .i64 1]) (by simp [results, Tryz.results60, go_sem]) rfl ⟨?_, rfl⟩
    simp at h1; simp [nxt, h1]

theorem c60pos (s : ByteArray) (k : Nat) (hk : k < s.size) (hsz : s.size ≤ 1073741824) (w : World) :
    Calls Tryz.prog 60 #[.int .i64 (pos s k).1, .int .i64 (pos s k).2, .int .u8 ((s[k]'hk).toNat : Int)] w fun e w' => e = .returned (.tuple #[.int .i64 (pos s (k + 1)).1, .int .i64 (pos s (k + 1)).2]) ∧ w' = w := by
  obtain ⟨h1, h2, h3, h4⟩ := pos_bd s k
  have h := c60 (pos s k).1 (pos s k).2 (bt s k) h1 (by omega) h3 (by omega) w
  rw [bt_get s k hk]
  exact h

set_option maxRecDepth 100000 in
set_option maxHeartbeats 1600000 in
theorem c19 (s : ByteArray) (at_ : Int) (w : World) (hsz : s.size ≤ 1073741824) : Calls Tryz.prog 19 #[.string s, .int .i64 at_] w fun e w' => (if 0 ≤ at_ ∧ at_ ≤ s.size then e = .returned (.tuple #[.int .i64 (pos s at_.toNat).1, .int .i64 (pos s at_.toNat).2, .int .i64 0]) else e = .returned (.tuple #[.int .i64 0, .int .i64 0, .int .i64 1])) ∧ w' = w := by
  by_cases h0 : at_ < 0
  · have hf : (0 ≤ at_ ∧ at_ ≤ s.size) = False := eq_false (by omega)
    simp only [hf, if_false]
    go_enter Tryz.func19, Tryz.ntmps19
    go_wp2
    exact bodyPost_ret (v := .tuple #[.int .i64 0, .int .i64 0, .int .i64 1]) (by simp [results, Tryz.results19, go_sem]) rfl ⟨rfl, rfl⟩
  · by_cases h1 : at_ > (s.size : Int)
    · have hf : (0 ≤ at_ ∧ at_ ≤ s.size) = False := eq_false (by omega)
      simp only [hf, if_false]
      go_enter Tryz.func19, Tryz.ntmps19
      go_wp2
      exact bodyPost_ret (v := .tuple #[.int .i64 0, .int .i64 0, .int .i64 1]) (by simp [results, Tryz.results19, go_sem]) rfl ⟨rfl, rfl⟩
    · have hf : (0 ≤ at_ ∧ at_ ≤ s.size) = True := eq_true (by omega)
      simp only [hf, if_true]
      clear hf
      obtain ⟨n, rfl⟩ : ∃ n : Nat, at_ = (n : Int) := ⟨at_.toNat, by omega⟩
      have hn : n ≤ s.size := by omega
      rw [show (n : Int).toNat = n from rfl]
      go_enter Tryz.func19, Tryz.ntmps19
      go_wp2
      go_loopw [7, 8, 9] (fun s7 s8 s9 wr => ∃ k : Nat, k ≤ n ∧ s7 = .int .i64 (pos s k).1 ∧ s8 = .int .i64 (pos s k).2 ∧ s9 = .int .i64 (k : Int) ∧ wr = w) (fun _ _ s9 _ => n - (intOf s9).toNat)
      case atStart => exact ⟨0, Nat.zero_le _, rfl, rfl, rfl, rfl⟩
      case round =>
        obtain ⟨k, hk, rfl, rfl, rfl, rfl⟩ := hrel
        by_cases hlt : k < n
        · have hltz : (k : Int) < (n : Int) := by omega
          have hks : k < s.size := by omega
          have hksz : (k : Int) < (s.size : Int) := by omega
          have hw : wrap64 ((k : Int) + 1) = ((k + 1 : Nat) : Int) := by unfold wrap64; omega
          have CC := Lib.hid (c60pos s k hks hsz wr)
          have HX := Lib.hid (And.intro hlt hw)
          clear hw hsz hk hn h0 h1
          go_wp2_with (go_at_call 60; ((with_reducible refine CC.out.mono ?_); rintro e w' ⟨rfl, rfl⟩))
          rw [HX.out.2]
          have hl := HX.out.1
          refine ⟨⟨k + 1, hl, rfl, rfl, rfl, by first | rfl | trivial⟩, ?_⟩
          show n - (((k + 1 : Nat) : Int)).toNat < n - ((k : Int)).toNat
          omega
        · have hltz : ¬ ((k : Int) < (n : Int)) := by omega
          obtain rfl : k = n := by omega
          go_wp2
          exact bodyPost_ret (v := .tuple #[.int .i64 (pos s k).1, .int .i64 (pos s k).2, .int .i64 0]) (by simp [results, Tryz.results19, go_sem]) rfl ⟨rfl, rfl⟩

/-- Byte's answer -/
def bytV (s : ByteArray) (l c : Int) : Value := match byteF s l c with | some i => .tuple #[.int .i64 (i : Int), .int .i64 0] | none => .tuple #[.int .i64 0, .int .i64 3]
theorem bytV_some {s : ByteArray} {l c : Int} {i : Nat} (h : byteF s l c = some i) : bytV s l c = .tuple #[.int .i64 (i : Int), .int .i64 0] := by unfold bytV; rw [h]
theorem bytV_none {s : ByteArray} {l c : Int} (h : byteF s l c = none) : bytV s l c = .tuple #[.int .i64 0, .int .i64 3] := by unfold bytV; rw [h]

set_option maxRecDepth 100000 in
set_option maxHeartbeats 1600000 in
theorem c21 (s : ByteArray) (l c : Int) (w : World) (hsz : s.size ≤ 1073741824) : Calls Tryz.prog 21 #[.string s, .int .i64 l, .int .i64 c] w fun e w' => e = .returned (bytV s l c) ∧ w' = w := by
  go_enter Tryz.func21, Tryz.ntmps21
  go_wp2
  go_loopw [8, 9, 10] (fun s8 s9 s10 wr => ∃ k : Nat, k ≤ s.size + 1 ∧ (∀ j, j < k → pos s j ≠ (l, c)) ∧ (k ≤ s.size → s8 = .int .i64 (pos s k).1 ∧ s9 = .int .i64 (pos s k).2) ∧ s10 = .int .i64 (k : Int) ∧ wr = w) (fun _ _ s10 _ => s.size + 1 - (intOf s10).toNat)
  case atStart => exact ⟨0, Nat.zero_le _, fun j hj => absurd hj (Nat.not_lt_zero _), fun _ => ⟨rfl, rfl⟩, rfl, rfl⟩
  case round =>
    obtain ⟨k, hk, hno, hp, rfl, rfl⟩ := hrel
    by_cases hle : k ≤ s.size
    · obtain ⟨rfl, rfl⟩ := hp hle
      have hlez : (k : Int) ≤ (s.size : Int) := by omega
      have hw : wrap64 ((k : Int) + 1) = ((k + 1 : Nat) : Int) := by unfold wrap64; omega
      by_cases he : pos s k = (l, c)
      · have e1 : ((pos s k).1 == l) = true := by rw [he]; simp
        have e2 : ((pos s k).2 == c) = true := by rw [he]; simp
        have hb := byteF_some s l c k hle he
        have HB := Lib.hid hb
        clear hb hno hp
        go_wp2
        rw [bytV_some HB.out]
        exact bodyPost_ret (v := .tuple #[.int .i64 (k : Int), .int .i64 0]) (by simp [results, Tryz.results21, go_sem]) rfl ⟨rfl, rfl⟩
      · have e12 : ((pos s k).1 == l) = false ∨ ((pos s k).1 == l) = true ∧ ((pos s k).2 == c) = false := by
          by_cases h : (pos s k).1 = l
          · refine .inr ⟨by simpa using h, ?_⟩
            have : (pos s k).2 ≠ c := fun h2 => he (Prod.ext h h2)
            simpa using this
          · exact .inl (by simpa using h)
        have HNO : Hid (∀ j, j < k + 1 → pos s j ≠ (l, c)) := Lib.hid fun j hj => by
          rcases Nat.lt_or_ge j k with h | h
          · exact hno j h
          · obtain rfl : j = k := by omega
            exact he
        clear hno he hp
        have HX := Lib.hid (And.intro hle hw)
        clear hw
        by_cases hlt : k < s.size
        · have hltz : (k : Int) < (s.size : Int) := by omega
          have CC := Lib.hid (c60pos s k hlt hsz wr)
          have HL := Lib.hid hlt
          clear hsz hk hle
          rcases e12 with e1 | ⟨e1, e2⟩
          · go_wp2_with (go_at_call 60; ((with_reducible refine CC.out.mono ?_); rintro e w' ⟨rfl, rfl⟩))
            rw [HX.out.2]
            have hl := HL.out
            refine ⟨⟨k + 1, by omega, HNO.out, fun _ => ⟨rfl, rfl⟩, rfl, by first | rfl | trivial⟩, ?_⟩
            show s.size + 1 - (((k + 1 : Nat) : Int)).toNat < s.size + 1 - ((k : Int)).toNat
            omega
          · go_wp2_with (go_at_call 60; ((with_reducible refine CC.out.mono ?_); rintro e w' ⟨rfl, rfl⟩))
            rw [HX.out.2]
            have hl := HL.out
            refine ⟨⟨k + 1, by omega, HNO.out, fun _ => ⟨rfl, rfl⟩, rfl, by first | rfl | trivial⟩, ?_⟩
            show s.size + 1 - (((k + 1 : Nat) : Int)).toNat < s.size + 1 - ((k : Int)).toNat
            omega
        · have hltz : ¬ ((k : Int) < (s.size : Int)) := by omega
          have HKS := Lib.hid (show k = s.size by omega)
          clear hsz hk hle
          rcases e12 with e1 | ⟨e1, e2⟩
          · go_wp2
            rw [HX.out.2]
            have hks := HKS.out
            refine ⟨⟨k + 1, by omega, HNO.out, fun h => absurd h (by omega), rfl, by first | rfl | trivial⟩, ?_⟩
            show s.size + 1 - (((k + 1 : Nat) : Int)).toNat < s.size + 1 - ((k : Int)).toNat
            omega
          · go_wp2
            rw [HX.out.2]
            have hks := HKS.out
            refine ⟨⟨k + 1, by omega, HNO.out, fun h => absurd h (by omega), rfl, by first | rfl | trivial⟩, ?_⟩
            show s.size + 1 - (((k + 1 : Nat) : Int)).toNat < s.size + 1 - ((k : Int)).toNat
            omega
    · have hlez : ¬ ((k : Int) ≤ (s.size : Int)) := by omega
      have hb := byteF_none s l c (fun i hi => hno i (by omega))
      clear hp hno
      go_wp2
      rw [bytV_none hb]
      exact bodyPost_ret (v := .tuple #[.int .i64 0, .int .i64 3]) (by simp [results, Tryz.results21, go_sem]) rfl ⟨rfl, rfl⟩
end Go.Proofs.YtagcfgoofiibfaaGreatDoor
namespace Go.Proofs.YtagcfgoofiibfaaGreatDoor
open Go Go.RowKit

theorem c17 (s : ByteArray) (w : World) : Calls Tryz.prog 17 #[.string s] w fun e w' => e = .returned (.bool (decide (s.size ≤ 3000))) ∧ w' = w := by
  by_cases h : s.size ≤ 3000
  · have hz : (s.size : Int) ≤ 3000 := by omega
    rw [decide_eq_true h]
    go_enter Tryz.func17, Tryz.ntmps17
    go_wp2
    go_ret
    exact ⟨rfl, rfl⟩
  · have hz : ¬ ((s.size : Int) ≤ 3000) := by omega
    rw [decide_eq_false h]
    go_enter Tryz.func17, Tryz.ntmps17
    go_wp2
    go_ret
    exact ⟨rfl, rfl⟩

/-- both Locates, one answer -/
theorem locate_both (s : ByteArray) (at_ : Int) (hsz : s.size ≤ 1073741824) : ∃ x y z : Int,
    (∀ w, Calls Tryz.prog 18 #[.string s, .int .i64 at_] w fun e w' => e = .returned (.tuple #[.int .i64 x, .int .i64 y, .int .i64 z]) ∧ Below w.heap.size w w') ∧
    (∀ w, Calls Tryz.prog 19 #[.string s, .int .i64 at_] w fun e w' => e = .returned (.tuple #[.int .i64 x, .int .i64 y, .int .i64 z]) ∧ w' = w) := by
  by_cases h : 0 ≤ at_ ∧ at_ ≤ s.size
  · refine ⟨(pos s at_.toNat).1, (pos s at_.toNat).2, 0, fun w => (c18 s at_ w hsz).mono ?_, fun w => (c19 s at_ w hsz).mono ?_⟩
    · rintro e w' ⟨h1, h2⟩
      rw [if_pos h] at h1
      exact ⟨h1, h2⟩
    · rintro e w' ⟨h1, h2⟩
      rw [if_pos h] at h1
      exact ⟨h1, h2⟩
  · refine ⟨0, 0, 1, fun w => (c18 s at_ w hsz).mono ?_, fun w => (c19 s at_ w hsz).mono ?_⟩
    · rintro e w' ⟨h1, h2⟩
      rw [if_neg h] at h1
      exact ⟨h1, h2⟩
    · rintro e w' ⟨h1, h2⟩
      rw [if_neg h] at h1
      exact ⟨h1, h2⟩
theorem byte_both (s : ByteArray) (l c : Int) (hsz : s.size ≤ 1073741824) : ∃ x y : Int,
    (∀ w, Calls Tryz.prog 20 #[.string s, .int .i64 l, .int .i64 c] w fun e w' => e = .returned (.tuple #[.int .i64 x, .int .i64 y]) ∧ Below w.heap.size w w') ∧
    (∀ w, Calls Tryz.prog 21 #[.string s, .int .i64 l, .int .i64 c] w fun e w' => e = .returned (.tuple #[.int .i64 x, .int .i64 y]) ∧ w' = w) := by
  rcases hb : byteF s l c with _ | i
  · refine ⟨0, 3, fun w => (c20 s l c w hsz).mono ?_, fun w => (c21 s l c w hsz).mono ?_⟩
    · rintro e w' h
      unfold bytTo at h
      rw [hb] at h
      exact h
    · rintro e w' h
      rw [bytV_none hb] at h
      exact h
  · refine ⟨i, 0, fun w => (c20 s l c w hsz).mono ?_, fun w => (c21 s l c w hsz).mono ?_⟩
    · rintro e w' h
      unfold bytTo at h
      rw [hb] at h
      exact h
    · rintro e w' h
      rw [bytV_some hb] at h
      exact h

set_option maxRecDepth 100000 in
set_option maxHeartbeats 1600000 in
theorem c3 (s : ByteArray) (at_ l c : Int) (w : World) (hT : TI w) : Calls Tryz.prog 3 #[.string s, .int .i64 at_, .int .i64 l, .int .i64 c] w fun e w' => e = .returned (.bool true) ∧ Below w.heap.size w w' := by
  have h17 := c17 s
  have HT := Lib.hid hT
  clear hT
  rcases hsh : decide (s.size ≤ 3000) with _ | _
  · rw [hsh] at h17
    have H17 := Lib.hid h17
    clear h17 hsh
    go_enter Tryz.func3, Tryz.ntmps3
    go_wp2_with (first | (go_at_call 16; ((with_reducible refine (c16 _ HT.out).mono ?_); rintro e w' ⟨rfl, hb⟩; have HB := Lib.hid hb; clear hb)) | (go_at_call 17; ((with_reducible refine (H17.out _).mono ?_); rintro e w' ⟨rfl, rfl⟩)))
    go_ret
    exact ⟨rfl, HB.out⟩
  · have hsz : s.size ≤ 1073741824 := by have := of_decide_eq_true hsh; omega
    rw [hsh] at h17
    have H17 := Lib.hid h17
    obtain ⟨x, y, z, h18, h19⟩ := locate_both s at_ hsz
    obtain ⟨p, q, h20, h21⟩ := byte_both s l c hsz
    have H18 := Lib.hid h18
    have H19 := Lib.hid h19
    have H20 := Lib.hid h20
    have H21 := Lib.hid h21
    clear h17 hsh hsz h18 h19 h20 h21
    go_enter Tryz.func3, Tryz.ntmps3
    go_wp2_with (first | (go_at_call 16; ((with_reducible refine (c16 _ HT.out).mono ?_); rintro e w' ⟨rfl, hb⟩; have HB := Lib.hid hb; clear hb)) | (go_at_call 17; ((with_reducible refine (H17.out _).mono ?_); rintro e w' ⟨rfl, rfl⟩)) | (go_at_call 18; ((with_reducible refine (H18.out _).mono ?_); rintro e w' ⟨rfl, hb⟩; have hB := HB.out.trans (hb.mono HB.out.size); clear HB hb; have HB := Lib.hid hB; clear hB)) | (go_at_call 19; ((with_reducible refine (H19.out _).mono ?_); rintro e w' ⟨rfl, rfl⟩)) | (go_at_call 20; ((with_reducible refine (H20.out _).mono ?_); rintro e w' ⟨rfl, hb⟩; have hB := HB.out.trans (hb.mono HB.out.size); clear HB hb; have HB := Lib.hid hB; clear hB)) | (go_at_call 21; ((with_reducible refine (H21.out _).mono ?_); rintro e w' ⟨rfl, rfl⟩)))
    go_ret
    exact ⟨rfl, HB.out⟩
end Go.Proofs.YtagcfgoofiibfaaGreatDoor
namespace Go.Proofs.YtagcfgoofiibfaaGreatDoor
open Go Go.RowKit

theorem item_err (s : ByteArray) (i : Nat) (e : Int) (h : item s i = .bad e) : 20 ≤ e := by
  unfold item at h
  split at h
  · cases h
  · split at h
    · split at h
      · injection h with h; omega
      · cases h
    · split at h
      · cases h
      · injection h with h
        subst h
        rename_i h
        exact (tokF_err s i _ h).1
/-- what LexErrors says, in plain words -/
theorem errors_plain (s m : ByteArray) (hs : s.size ≤ 3000) (hm : m.size ≤ 3000) (a : Nat) (e : Int) (h : tokens s = .error (a, e)) :
    20 ≤ e ∧ a < s.size ∧ (∃ ts, tokens (s.extract 0 a) = .ok ts) ∧ (e ≠ 22 → tokens (s ++ ⟨#[10]⟩ ++ m) = .error (a, e)) := by
  rw [tokens_err_iff s (by omega)] at h
  obtain ⟨_, h2, _, h4⟩ := h.pt
  have hx := size_ext s 0 a (by omega)
  refine ⟨item_err s a e h4, h2, ?_, fun he => ?_⟩
  · obtain ⟨ps, ys, h5⟩ := err_prefix h
    exact ⟨_, (tokens_ok_iff _ (by rw [hx]; omega) _).2 ⟨ps, ys, h5, rfl⟩⟩
  · rw [tokens_err_iff _ (by rw [ByteArray.size_append, ByteArray.size_append]; show s.size + 1 + m.size ≤ 20000; omega)]
    exact err_more h he m

theorem tok_err_call {r : Nat × Int} (s : ByteArray) (h : tokens s = .error r) (w : World) (hT : TI w) : Calls Tryz.prog 24 #[.string s] w fun e w' => e = .returned (.tuple #[.slice none 0 0, .int .i64 (r.1 : Int), .int .i64 r.2]) ∧ Below w.heap.size w w' := by
  have := H24 s w hT
  rw [h] at this
  exact this
theorem tok_ok_call {ts : List Tk} (s : ByteArray) (h : tokens s = .ok ts) (w : World) (hT : TI w) : Calls Tryz.prog 24 #[.string s] w fun e w' => (∃ a cp, e = .returned (.tuple #[.slice a ts.length cp, .int .i64 0, .int .i64 0]) ∧ TokRow w' (.slice a ts.length cp) ts) ∧ Below w.heap.size w w' := by
  refine (H24 s w hT).mono ?_
  rw [h]
  rintro e w' ⟨⟨v, rfl, hr⟩, hb⟩
  obtain ⟨a, cp, rfl, _⟩ := hr.shape
  exact ⟨⟨a, cp, rfl, hr⟩, hb⟩
/-- Tokens, whatever it answers -/
theorem tok_any_call (s : ByteArray) : ∃ (p q : Int), ∀ (w : World), TI w → Calls Tryz.prog 24 #[.string s] w fun e w' => (∃ a n cp, e = .returned (.tuple #[.slice a n cp, .int .i64 p, .int .i64 q])) ∧ Below w.heap.size w w' := by
  rcases h : tokens s with ⟨a, e⟩ | ts
  · exact ⟨a, e, fun w hT => (tok_err_call s h w hT).mono fun e w' hh => ⟨⟨_, _, _, hh.1⟩, hh.2⟩⟩
  · exact ⟨0, 0, fun w hT => (tok_ok_call s h w hT).mono fun e w' hh => ⟨by obtain ⟨a, cp, h1, _⟩ := hh.1; exact ⟨_, _, _, h1⟩, hh.2⟩⟩

set_option maxRecDepth 100000 in
set_option maxHeartbeats 1600000 in
theorem c7 (s m : ByteArray) (w : World) (hT : TI w) : Calls Tryz.prog 7 #[.string s, .string m] w fun e w' => e = .returned (.bool true) ∧ Below w.heap.size w w' := by
  have h17 := c17 s
  have k17 := c17 m
  have HT := Lib.hid hT
  clear hT
  rcases hsh : decide (s.size ≤ 3000) with _ | _
  · rw [hsh] at h17
    have H17 := Lib.hid h17
    clear h17 hsh k17
    go_enter Tryz.func7, Tryz.ntmps7
    go_wp2_with (first | (go_at_call 16; ((with_reducible refine (c16 _ HT.out).mono ?_); rintro e w' ⟨rfl, hb⟩; have HB := Lib.hid hb; clear hb)) | (go_at_call 17; ((with_reducible refine (H17.out _).mono ?_); rintro e w' ⟨rfl, rfl⟩)))
    go_ret
    exact ⟨rfl, HB.out⟩
  rcases hmh : decide (m.size ≤ 3000) with _ | _
  · rw [hsh] at h17
    rw [hmh] at k17
    have H17 := Lib.hid h17
    have K17 := Lib.hid k17
    clear h17 hsh k17 hmh
    go_enter Tryz.func7, Tryz.ntmps7
    go_wp2_with (first | (go_at_call 16; ((with_reducible refine (c16 _ HT.out).mono ?_); rintro e w' ⟨rfl, hb⟩; have HB := Lib.hid hb; clear hb)) | (go_at_call 17; ((with_reducible refine (H17.out _).mono ?_); rintro e w' ⟨rfl, rfl⟩)) | (go_at_call 17; ((with_reducible refine (K17.out _).mono ?_); rintro e w' ⟨rfl, rfl⟩)))
    go_ret
    exact ⟨rfl, HB.out⟩
  have hs := of_decide_eq_true hsh
  have hm := of_decide_eq_true hmh
  rw [hsh] at h17
  rw [hmh] at k17
  have H17 := Lib.hid h17
  have K17 := Lib.hid k17
  clear h17 hsh k17 hmh
  rcases htok : tokens s with ⟨a, er⟩ | ts
  · obtain ⟨he, ha, ⟨ts, hp⟩, hq⟩ := errors_plain s m hs hm a er htok
    have C1 := Lib.hid (tok_err_call s htok)
    have C2 := Lib.hid (tok_ok_call (s.extract 0 a) hp)
    have e0 : (er == 0) = false := by simp; omega
    have haz : ¬ ((a : Int) < 0) := by omega
    have haz2 : ¬ ((a : Int) ≥ (s.size : Int)) := by omega
    have w1 : s.size + 1 ≤ 9223372036854775807 := by omega
    have w2 : s.size + 1 + m.size ≤ 9223372036854775807 := by omega
    have haz3 : (a : Int) ≤ (s.size : Int) := by omega
    have HA := Lib.hid ha
    by_cases h22 : er = 22
    · obtain ⟨p, q, h3⟩ := tok_any_call (s ++ ⟨#[10]⟩ ++ m)
      have C3 := Lib.hid h3
      subst h22
      clear htok hp hq he ha hs hm h3
      go_enter Tryz.func7, Tryz.ntmps7
      go_wp2_with (first | (go_at_call 16; ((with_reducible refine (c16 _ HT.out).mono ?_); rintro e w' ⟨rfl, hb⟩; have HB := Lib.hid hb; clear hb)) | (go_at_call 17; ((with_reducible refine (H17.out _).mono ?_); rintro e w' ⟨rfl, rfl⟩)) | (go_at_call 17; ((with_reducible refine (K17.out _).mono ?_); rintro e w' ⟨rfl, rfl⟩)) | (go_at_call 24; ((with_reducible refine (C1.out _ (TI.below HT.out HB.out)).mono ?_); rintro e w' ⟨rfl, hb⟩; have hB := HB.out.trans (hb.mono HB.out.size); clear HB hb; have HB := Lib.hid hB; clear hB)) | (go_at_call 24; ((with_reducible refine (C2.out _ (TI.below HT.out HB.out)).mono ?_); rintro e w' ⟨⟨a2, cp2, rfl, _⟩, hb⟩; have hB := HB.out.trans (hb.mono HB.out.size); clear HB hb; have HB := Lib.hid hB; clear hB)) | (go_at_call 24; ((with_reducible refine (C3.out _ (TI.below HT.out HB.out)).mono ?_); rintro e w' ⟨⟨a3, n3, cp3, rfl⟩, hb⟩; have hB := HB.out.trans (hb.mono HB.out.size); clear HB hb; have HB := Lib.hid hB; clear hB)))
      go_ret
      exact ⟨rfl, HB.out⟩
    · have C3 := Lib.hid (tok_err_call _ (hq h22))
      have e22 : (er == 22) = false := by simpa using h22
      clear htok hp hq he ha hs hm h22
      go_enter Tryz.func7, Tryz.ntmps7
      go_wp2_with (first | (go_at_call 16; ((with_reducible refine (c16 _ HT.out).mono ?_); rintro e w' ⟨rfl, hb⟩; have HB := Lib.hid hb; clear hb)) | (go_at_call 17; ((with_reducible refine (H17.out _).mono ?_); rintro e w' ⟨rfl, rfl⟩)) | (go_at_call 17; ((with_reducible refine (K17.out _).mono ?_); rintro e w' ⟨rfl, rfl⟩)) | (go_at_call 24; ((with_reducible refine (C1.out _ (TI.below HT.out HB.out)).mono ?_); rintro e w' ⟨rfl, hb⟩; have hB := HB.out.trans (hb.mono HB.out.size); clear HB hb; have HB := Lib.hid hB; clear hB)) | (go_at_call 24; ((with_reducible refine (C2.out _ (TI.below HT.out HB.out)).mono ?_); rintro e w' ⟨⟨a2, cp2, rfl, _⟩, hb⟩; have hB := HB.out.trans (hb.mono HB.out.size); clear HB hb; have HB := Lib.hid hB; clear hB)) | (go_at_call 24; ((with_reducible refine (C3.out _ (TI.below HT.out HB.out)).mono ?_); rintro e w' ⟨rfl, hb⟩; have hB := HB.out.trans (hb.mono HB.out.size); clear HB hb; have HB := Lib.hid hB; clear hB)))
      go_ret
      exact ⟨rfl, HB.out⟩
  · have C1 := Lib.hid (tok_ok_call s htok)
    clear hs hm htok
    go_enter Tryz.func7, Tryz.ntmps7
    go_wp2_with (first | (go_at_call 16; ((with_reducible refine (c16 _ HT.out).mono ?_); rintro e w' ⟨rfl, hb⟩; have HB := Lib.hid hb; clear hb)) | (go_at_call 17; ((with_reducible refine (H17.out _).mono ?_); rintro e w' ⟨rfl, rfl⟩)) | (go_at_call 17; ((with_reducible refine (K17.out _).mono ?_); rintro e w' ⟨rfl, rfl⟩)) | (go_at_call 24; ((with_reducible refine (C1.out _ (TI.below HT.out HB.out)).mono ?_); rintro e w' ⟨⟨a2, cp2, rfl, _⟩, hb⟩; have hB := HB.out.trans (hb.mono HB.out.size); clear HB hb; have HB := Lib.hid hB; clear hB)))
    go_ret
    exact ⟨rfl, HB.out⟩
end Go.Proofs.YtagcfgoofiibfaaGreatDoor
namespace Go.Proofs.YtagcfgoofiibfaaGreatDoor
open Go Go.ChangeMaps Go.ChangeShapes Go.WideShapes Go.ChangeAt Go.RowKit

set_option maxRecDepth 100000 in
theorem lexErrors_lifted (os : Os) (started : os.Started) (H : Type) (enc : TypeId × Value → H) :
    ReturnsInHanded {} Tryz.checked os 7 .any (fun w args => (Rows.lexErrorsSpec.pre enc Tryz.prog Tryz.f7 [] false w args ∧ laidMetH Tryz.prog laidL w) ∧ sizedMet enc Tryz.prog Tryz.f7 (OpenSpec.ofChange Rows.lexErrorsSpec) false w args)
      (Rows.lexErrorsSpec.post enc Tryz.prog Tryz.f7 false true false false) := by
  refine returnsInHanded_of_change_and (C := Tryz.checked) (X := fun w _ => laidMetH Tryz.prog laidL w) (fun _ _ _ hh h => h.of_heap hh) own started (by kernel_rfl) Tryz.func7
    (ChangeSpec.witness_shaped (enc := enc) (C := Tryz.checked) (os := os) (X := fun w _ => laidMetH Tryz.prog laidL w) false (World.laidAll Tryz.prog os laidL) #[.string ByteArray.empty, .string ByteArray.empty] 8 (World.laidAll_os _ _ _)
      (start_shaped os) (by kernel_rfl) (by kernel_rfl) (by kernel_rfl) (start_met os _)) ?_
  intro W base args ds gs before hval0 hW _ _ hL _
  have hval : ∀ (j : Nat) t v, Tryz.f7.params[j]? = some t → args[j]? = some v → Value.okWide Tryz.prog W .any base t v := hval0
  have hW' := hW
  obtain ⟨p, q, hA0, hV, rfl, _, _⟩ := hW
  have hA : DataW.TrodAll enc Tryz.prog W 0 (fun _ => true) true Tryz.f7.params.toList args.toList ds p := hA0
  rw [Tryz.params7] at hA hval
  obtain ⟨v0, v1, d0, d1, p0, p1, rfl, rfl, rfl, h0, h1⟩ := trodAll_two hA
  obtain ⟨rfl, rfl⟩ := trodVars_none hV
  obtain ⟨x0, rfl, rfl, rfl, wx0⟩ := open_string Tryz.underlying9 (hval 0 9 v0 rfl rfl) h0
  obtain ⟨x1, rfl, rfl, rfl, wx1⟩ := open_string Tryz.underlying9 (hval 1 9 v1 rfl rfl) h1
  simp only [List.append_nil] at hW'
  refine (c7 x0 x1 W (ti_of_laid hL)).mono fun e W' ⟨he, hb⟩ => ?_
  subst he
  exact ⟨_, rfl, _, _, _, [], [], [], hW', trodAll_mk1 (shut_bool Tryz.underlying4 _), trodAll_mk2 (shut_string Tryz.underlying9 wx0) (shut_string Tryz.underlying9 wx1), rfl, hb.frame _, fun h => by cases h⟩

theorem lexErrors_bare : Rows.LexErrorsSaid :=
  OpenClaim.holds_of_wide 7 Tryz.f7 rfl rfl rfl rfl rfl rfl rfl ⟨rfl, rfl, rfl, rfl, rfl⟩ rfl rfl rfl rfl rfl lexErrors_named Tryz.func7 lexErrors_closed
    (of_decide_eq_true (by kernel_rfl)) lexErrors_wrap (fun os started H enc _ => lexErrors_lifted os started H enc)
theorem lexErrors_holds : Rows.LexErrorsCardSaid :=
  Claim7.holds_tied_plain_at .later [] [.data, .data, .data, .data, .listed, .data, .pinned] true (true, "598e79093b2262133a9d99cdf3b0e1040e74e7a98986b3c01bfbd78ee9122216") true
    lexErrors_bare (fun _ h => by cases h) (by kernel_rfl) (fun _ h => by cases h) lexErrors_row_tie rfl ⟨rfl, rfl⟩ lexErrors_main rfl
    (fun f fn hf hfn => by
      obtain rfl : f = 7 := Option.some.inj (lexErrors_named.symm.trans hf) |>.symm
      obtain rfl : fn = Tryz.f7 := (Option.some.inj (Tryz.func7.symm.trans hfn)).symm
      exact ⟨lexErrors_looks, fun j t ht => by
        rw [Tryz.params7] at ht
        have hm : t ∈ [9, 9] := by simpa using Array.mem_of_getElem? ht
        have hall : ([9, 9].all fun u => !Tryz.prog.wantsStandIn u) = true := by kernel_rfl
        exact (show Tryz.prog.wantsStandIn t = false by simpa using List.all_eq_true.1 hall t hm)⟩)
    lexErrors_goes
#print axioms lexErrors_holds
end Go.Proofs.YtagcfgoofiibfaaGreatDoor
