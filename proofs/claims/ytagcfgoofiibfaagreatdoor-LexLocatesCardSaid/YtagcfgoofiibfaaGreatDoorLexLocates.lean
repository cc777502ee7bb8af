/- The law LexLocates: its walk and its statement: LA0, LA1, LB0, LZ8. -/
import Derived.Test.YtagcfgoofiibfaaGreatDoorG40
import Derived.Test.YtagcfgoofiibfaaGreatDoorLexLocatesF
set_option linter.unusedVariables false
set_option linter.unusedSimpArgs false
namespace Go.Proofs.YtagcfgoofiibfaaGreatDoor
open Go Go.RowKit

theorem c60 (l c b : Int) (hl0 : 1 ≤ l) (hl : l ≤ 1099511627776) (hc0 : 1 ≤ c) (hc : c ≤ 1099511627776) (w : World) :
    Calls Tryz.prog 60 #[.int .i64 l, .int .i64 c, .int .u8 b] w fun e w' => e = .returned (.tuple #[.int .i64 (nxt l c b).1, .int .i64 (nxt l c b).2]) ∧ w' = w := by
  rcases h1 : (b == 10) with _ | _
  · rcases h2 : (b == 9) with _ | _
    · go_enter Tryz.func60, Tryz.ntmps60
      go_wp2
      refine bodyPost_ret (v := .tuple #[.int .i64 l, .int .i64 (c + 1)]) (by simp [results, Tryz.results60, go_sem]) rfl ⟨?_, rfl⟩
      simp at h1 h2; simp [nxt, h1, h2]
    · go_enter Tryz.func60, Tryz.ntmps60
      go_wp2
      refine bodyPost_ret (v := .tuple #[.int .i64 l, .int .i64 ((c - 1) / 8 * 8 + 8 + 1)]) (by simp [results, Tryz.results60, go_sem]) rfl ⟨?_, rfl⟩
      simp at h2; simp [nxt, h2]
  · go_enter Tryz.func60, Tryz.ntmps60
    go_wp2
    refine bodyPost_ret (v := .tuple #[.int .i64 (l + 1), .int .i64 1]) (by simp [results, Tryz.results60, go_sem]) rfl ⟨?_, rfl⟩
    simp at h1; simp [nxt, h1]

theorem c60pos (s : ByteArray) (k : Nat) (hk : k < s.size) (hsz : s.size ≤ 1073741824) (w : World) :
    Calls Tryz.prog 60 #[.int .i64 (pos s k).1, .int .i64 (pos s k).2, .int .u8 ((s[k]'hk).toNat : Int)] w fun e w' => e = .returned (.tuple #[.int .i64 (pos s (k + 1)).1, .int .i64 (pos s (k + 1)).2]) ∧ w' = w := by
  obtain ⟨h1, h2, h3, h4⟩ := pos_bd s k
  have h := c60 (pos s k).1 (pos s k).2 (bt s k) h1 (by omega) h3 (by omega) w
  rw [bt_get s k hk]
  exact h

set_option maxRecDepth 100000 in
set_option maxHeartbeats 1600000 in
theorem c19 (s : ByteArray) (at_ : Int) (w : World) (hsz : s.size ≤ 1073741824) : Calls Tryz.prog 19 #[.string s, .int .i64 at_] w fun e w' => (if 0 ≤ at_ ∧ at_ ≤ s.size then e = .returned (.tuple #[.int .i64 (pos s at_.toNat).1, .int .i64 (pos s at_.toNat).2, .int .i64 0]) else e = .returned (.tuple #[.int .i64 0, .int .i64 0, .int .i64 1])) ∧ w' = w := by
  by_cases h0 : at_ < 0
  · have hf : (0 ≤ at_ ∧ at_ ≤ s.size) = False := eq_false (by omega)
    simp only [hf, if_false]
    go_enter Tryz.func19, Tryz.ntmps19
    go_wp2
    exact bodyPost_ret (v := .tuple #[.int .i64 0, .int .i64 0, .int .i64 1]) (by simp [results, Tryz.results19, go_sem]) rfl ⟨rfl, rfl⟩
  · by_cases h1 : at_ > (s.size : Int)
    · have hf : (0 ≤ at_ ∧ at_ ≤ s.size) = False := eq_false (by omega)
      simp only [hf, if_false]
      go_enter Tryz.func19, Tryz.ntmps19
      go_wp2
      exact bodyPost_ret (v := .tuple #[.int .i64 0, .int .i64 0, .int .i64 1]) (by simp [results, Tryz.results19, go_sem]) rfl ⟨rfl, rfl⟩
    · have hf : (0 ≤ at_ ∧ at_ ≤ s.size) = True := eq_true (by omega)
      simp only [hf, if_true]
      clear hf
      obtain ⟨n, rfl⟩ : ∃ n : Nat, at_ = (n : Int) := ⟨at_.toNat, by omega⟩
      have hn : n ≤ s.size := by omega
      rw [show (n : Int).toNat = n from rfl]
      go_enter Tryz.func19, Tryz.ntmps19
      go_wp2
      go_loopw [7, 8, 9] (fun s7 s8 s9 wr => ∃ k : Nat, k ≤ n ∧ s7 = .int .i64 (pos s k).1 ∧ s8 = .int .i64 (pos s k).2 ∧ s9 = .int .i64 (k : Int) ∧ wr = w) (fun _ _ s9 _ => n - (intOf s9).toNat)
      case atStart => exact ⟨0, Nat.zero_le _, rfl, rfl, rfl, rfl⟩
      case round =>
        obtain ⟨k, hk, rfl, rfl, rfl, rfl⟩ := hrel
        by_cases hlt : k < n
        · have hltz : (k : Int) < (n : Int) := by omega
          have hks : k < s.size := by omega
          have hksz : (k : Int) < (s.size : Int) := by omega
          have hw : wrap64 ((k : Int) + 1) = ((k + 1 : Nat) : Int) := by unfold wrap64; omega
          have CC := Lib.hid (c60pos s k hks hsz wr)
          have HX := Lib.hid (And.intro hlt hw)
          clear hw hsz hk hn h0 h1
          go_wp2_with (go_at_call 60; ((with_reducible refine CC.out.mono ?_); rintro e w' ⟨rfl, rfl⟩))
          rw [HX.out.2]
          have hl := HX.out.1
          refine ⟨⟨k + 1, hl, rfl, rfl, rfl, by first | rfl | trivial⟩, ?_⟩
          show n - (((k + 1 : Nat) : Int)).toNat < n - ((k : Int)).toNat
          omega
        · have hltz : ¬ ((k : Int) < (n : Int)) := by omega
          obtain rfl : k = n := by omega
          go_wp2
          exact bodyPost_ret (v := .tuple #[.int .i64 (pos s k).1, .int .i64 (pos s k).2, .int .i64 0]) (by simp [results, Tryz.results19, go_sem]) rfl ⟨rfl, rfl⟩

/-- Byte's answer -/
def bytV (s : ByteArray) (l c : Int) : Value := match byteF s l c with | some i => .tuple #[.int .i64 (i : Int), .int .i64 0] | none => .tuple #[.int .i64 0, .int .i64 3]
theorem bytV_some {s : ByteArray} {l c : Int} {i : Nat} (h : byteF s l c = some i) : bytV s l c = .tuple #[.int .i64 (i : Int), .int .i64 0] := by unfold bytV; rw [h]
theorem bytV_none {s : ByteArray} {l c : Int} (h : byteF s l c = none) : bytV s l c = .tuple #[.int .i64 0, .int .i64 3] := by unfold bytV; rw [h]

set_option maxRecDepth 100000 in
set_option maxHeartbeats 1600000 in
theorem c21 (s : ByteArray) (l c : Int) (w : World) (hsz : s.size ≤ 1073741824) : Calls Tryz.prog 21 #[.string s, .int .i64 l, .int .i64 c] w fun e w' => e = .returned (bytV s l c) ∧ w' = w := by
  go_enter Tryz.func21, Tryz.ntmps21
  go_wp2
  go_loopw [8, 9, 10] (fun s8 s9 s10 wr => ∃ k : Nat, k ≤ s.size + 1 ∧ (∀ j, j < k → pos s j ≠ (l, c)) ∧ (k ≤ s.size → s8 = .int .i64 (pos s k).1 ∧ s9 = .int .i64 (pos s k).2) ∧ s10 = .int .i64 (k : Int) ∧ wr = w) (fun _ _ s10 _ => s.size + 1 - (intOf s10).toNat)
  case atStart => exact ⟨0, Nat.zero_le _, fun j hj => absurd hj (Nat.not_lt_zero _), fun _ => ⟨rfl, rfl⟩, rfl, rfl⟩
  case round =>
    obtain ⟨k, hk, hno, hp, rfl, rfl⟩ := hrel
    by_cases hle : k ≤ s.size
    · obtain ⟨rfl, rfl⟩ := hp hle
      have hlez : (k : Int) ≤ (s.size : Int) := by omega
      have hw : wrap64 ((k : Int) + 1) = ((k + 1 : Nat) : Int) := by unfold wrap64; omega
      by_cases he : pos s k = (l, c)
      · have e1 : ((pos s k).1 == l) = true := by rw [he]; simp
        have e2 : ((pos s k).2 == c) = true := by rw [he]; simp
        have hb := byteF_some s l c k hle he
        have HB := Lib.hid hb
        clear hb hno hp
        go_wp2
        rw [bytV_some HB.out]
        exact bodyPost_ret (v := .tuple #[.int .i64 (k : Int), .int .i64 0]) (by simp [results, Tryz.results21, go_sem]) rfl ⟨rfl, rfl⟩
      · have e12 : ((pos s k).1 == l) = false ∨ ((pos s k).1 == l) = true ∧ ((pos s k).2 == c) = false := by
          by_cases h : (pos s k).1 = l
          · refine .inr ⟨by simpa using h, ?_⟩
            have : (pos s k).2 ≠ c := fun h2 => he (Prod.ext h h2)
            simpa using this
          · exact .inl (by simpa using h)
        have HNO : Hid (∀ j, j < k + 1 → pos s j ≠ (l, c)) := Lib.hid fun j hj => by
          rcases Nat.lt_or_ge j k with h | h
          · exact hno j h
          · obtain rfl : j = k := by omega
            exact he
        clear hno he hp
        have HX := Lib.hid (And.intro hle hw)
        clear hw
        by_cases hlt : k < s.size
        · have hltz : (k : Int) < (s.size : Int) := by omega
          have CC := Lib.hid (c60pos s k hlt hsz wr)
          have HL := Lib.hid hlt
          clear hsz hk hle
          rcases e12 with e1 | ⟨e1, e2⟩
          · go_wp2_with (go_at_call 60; ((with_reducible refine CC.out.mono ?_); rintro e w' ⟨rfl, rfl⟩))
            rw [HX.out.2]
            have hl := HL.out
            refine ⟨⟨k + 1, by omega, HNO.out, fun _ => ⟨rfl, rfl⟩, rfl, by first | rfl | trivial⟩, ?_⟩
            show s.size + 1 - (((k + 1 : Nat) : Int)).toNat < s.size + 1 - ((k : Int)).toNat
            omega
          · go_wp2_with (go_at_call 60; ((with_reducible refine CC.out.mono ?_); rintro e w' ⟨rfl, rfl⟩))
            rw [HX.out.2]
            have hl := HL.out
            refine ⟨⟨k + 1, by omega, HNO.out, fun _ => ⟨rfl, rfl⟩, rfl, by first | rfl | trivial⟩, ?_⟩
            show s.size + 1 - (((k + 1 : Nat) : Int)).toNat < s.size + 1 - ((k : Int)).toNat
            omega
        · have hltz : ¬ ((k : Int) < (s.size : Int)) := by omega
          have HKS := Lib.hid (show k = s.size by omega)
          clear hsz hk hle
          rcases e12 with e1 | ⟨e1, e2⟩
          · go_wp2
            rw [HX.out.2]
            have hks := HKS.out
            refine ⟨⟨k + 1, by omega, HNO.out, fun h => absurd h (by omega), rfl, by first | rfl | trivial⟩, ?_⟩
            show s.size + 1 - (((k + 1 : Nat) : Int)).toNat < s.size + 1 - ((k : Int)).toNat
            omega
          · go_wp2
            rw [HX.out.2]
            have hks := HKS.out
            refine ⟨⟨k + 1, by omega, HNO.out, fun h => absurd h (by omega), rfl, by first | rfl | trivial⟩, ?_⟩
            show s.size + 1 - (((k + 1 : Nat) : Int)).toNat < s.size + 1 - ((k : Int)).toNat
            omega
    · have hlez : ¬ ((k : Int) ≤ (s.size : Int)) := by omega
      have hb := byteF_none s l c (fun i hi => hno i (by omega))
      clear hp hno
      go_wp2
      rw [bytV_none hb]
      exact bodyPost_ret (v := .tuple #[.int .i64 0, .int .i64 3]) (by simp [results, Tryz.results21, go_sem]) rfl ⟨rfl, rfl⟩
end Go.Proofs.YtagcfgoofiibfaaGreatDoor
namespace Go.Proofs.YtagcfgoofiibfaaGreatDoor
open Go Go.RowKit

theorem c17 (s : ByteArray) (w : World) : Calls Tryz.prog 17 #[.string s] w fun e w' => e = .returned (.bool (decide (s.size ≤ 3000))) ∧ w' = w := by
  by_cases h : s.size ≤ 3000
  · have hz : (s.size : Int) ≤ 3000 := by omega
    rw [decide_eq_true h]
    go_enter Tryz.func17, Tryz.ntmps17
    go_wp2
    go_ret
    exact ⟨rfl, rfl⟩
  · have hz : ¬ ((s.size : Int) ≤ 3000) := by omega
    rw [decide_eq_false h]
    go_enter Tryz.func17, Tryz.ntmps17
    go_wp2
    go_ret
    exact ⟨rfl, rfl⟩

/-- both Locates, one answer -/
theorem locate_both (s : ByteArray) (at_ : Int) (hsz : s.size ≤ 1073741824) : ∃ x y z : Int,
    (∀ w, Calls Tryz.prog 18 #[.string s, .int .i64 at_] w fun e w' => e = .returned (.tuple #[.int .i64 x, .int .i64 y, .int .i64 z]) ∧ Below w.heap.size w w') ∧
    (∀ w, Calls Tryz.prog 19 #[.string s, .int .i64 at_] w fun e w' => e = .returned (.tuple #[.int .i64 x, .int .i64 y, .int .i64 z]) ∧ w' = w) := by
  by_cases h : 0 ≤ at_ ∧ at_ ≤ s.size
  · refine ⟨(pos s at_.toNat).1, (pos s at_.toNat).2, 0, fun w => (c18 s at_ w hsz).mono ?_, fun w => (c19 s at_ w hsz).mono ?_⟩
    · rintro e w' ⟨h1, h2⟩
      rw [if_pos h] at h1
      exact ⟨h1, h2⟩
    · rintro e w' ⟨h1, h2⟩
      rw [if_pos h] at h1
      exact ⟨h1, h2⟩
  · refine ⟨0, 0, 1, fun w => (c18 s at_ w hsz).mono ?_, fun w => (c19 s at_ w hsz).mono ?_⟩
    · rintro e w' ⟨h1, h2⟩
      rw [if_neg h] at h1
      exact ⟨h1, h2⟩
    · rintro e w' ⟨h1, h2⟩
      rw [if_neg h] at h1
      exact ⟨h1, h2⟩
theorem byte_both (s : ByteArray) (l c : Int) (hsz : s.size ≤ 1073741824) : ∃ x y : Int,
    (∀ w, Calls Tryz.prog 20 #[.string s, .int .i64 l, .int .i64 c] w fun e w' => e = .returned (.tuple #[.int .i64 x, .int .i64 y]) ∧ Below w.heap.size w w') ∧
    (∀ w, Calls Tryz.prog 21 #[.string s, .int .i64 l, .int .i64 c] w fun e w' => e = .returned (.tuple #[.int .i64 x, .int .i64 y]) ∧ w' = w) := by
  rcases hb : byteF s l c with _ | i
  · refine ⟨0, 3, fun w => (c20 s l c w hsz).mono ?_, fun w => (c21 s l c w hsz).mono ?_⟩
    · rintro e w' h
      unfold bytTo at h
      rw [hb] at h
      exact h
    · rintro e w' h
      rw [bytV_none hb] at h
      exact h
  · refine ⟨i, 0, fun w => (c20 s l c w hsz).mono ?_, fun w => (c21 s l c w hsz).mono ?_⟩
    · rintro e w' h
      unfold bytTo at h
      rw [hb] at h
      exact h
    · rintro e w' h
      rw [bytV_some hb] at h
      exact h

set_option maxRecDepth 100000 in
set_option maxHeartbeats 1600000 in
theorem c3 (s : ByteArray) (at_ l c : Int) (w : World) (hT : TI w) : Calls Tryz.prog 3 #[.string s, .int .i64 at_, .int .i64 l, .int .i64 c] w fun e w' => e = .returned (.bool true) ∧ Below w.heap.size w w' := by
  have h17 := c17 s
  have HT := Lib.hid hT
  clear hT
  rcases hsh : decide (s.size ≤ 3000) with _ | _
  · rw [hsh] at h17
    have H17 := Lib.hid h17
    clear h17 hsh
    go_enter Tryz.func3, Tryz.ntmps3
    go_wp2_with (first | (go_at_call 16; ((with_reducible refine (c16 _ HT.out).mono ?_); rintro e w' ⟨rfl, hb⟩; have HB := Lib.hid hb; clear hb)) | (go_at_call 17; ((with_reducible refine (H17.out _).mono ?_); rintro e w' ⟨rfl, rfl⟩)))
    go_ret
    exact ⟨rfl, HB.out⟩
  · have hsz : s.size ≤ 1073741824 := by have := of_decide_eq_true hsh; omega
    rw [hsh] at h17
    have H17 := Lib.hid h17
    obtain ⟨x, y, z, h18, h19⟩ := locate_both s at_ hsz
    obtain ⟨p, q, h20, h21⟩ := byte_both s l c hsz
    have H18 := Lib.hid h18
    have H19 := Lib.hid h19
    have H20 := Lib.hid h20
    have H21 := Lib.hid h21
    clear h17 hsh hsz h18 h19 h20 h21
    go_enter Tryz.func3, Tryz.ntmps3
    go_wp2_with (first | (go_at_call 16; ((with_reducible refine (c16 _ HT.out).mono ?_); rintro e w' ⟨rfl, hb⟩; have HB := Lib.hid hb; clear hb)) | (go_at_call 17; ((with_reducible refine (H17.out _).mono ?_); rintro e w' ⟨rfl, rfl⟩)) | (go_at_call 18; ((with_reducible refine (H18.out _).mono ?_); rintro e w' ⟨rfl, hb⟩; have hB := HB.out.trans (hb.mono HB.out.size); clear HB hb; have HB := Lib.hid hB; clear hB)) | (go_at_call 19; ((with_reducible refine (H19.out _).mono ?_); rintro e w' ⟨rfl, rfl⟩)) | (go_at_call 20; ((with_reducible refine (H20.out _).mono ?_); rintro e w' ⟨rfl, hb⟩; have hB := HB.out.trans (hb.mono HB.out.size); clear HB hb; have HB := Lib.hid hB; clear hB)) | (go_at_call 21; ((with_reducible refine (H21.out _).mono ?_); rintro e w' ⟨rfl, rfl⟩)))
    go_ret
    exact ⟨rfl, HB.out⟩
end Go.Proofs.YtagcfgoofiibfaaGreatDoor
namespace Go.Proofs.YtagcfgoofiibfaaGreatDoor
open Go Go.RowKit

theorem loc_at (s : ByteArray) (hsz : s.size ≤ 1073741824) (k : Nat) (hk : k ≤ s.size) (w : World) : Calls Tryz.prog 18 #[.string s, .int .i64 (k : Int)] w fun e w' => e = .returned (.tuple #[.int .i64 (pos s k).1, .int .i64 (pos s k).2, .int .i64 0]) ∧ Below w.heap.size w w' := by
  refine (c18 s k w hsz).mono ?_
  rintro e w' ⟨h1, h2⟩
  rw [if_pos (by omega)] at h1
  exact ⟨h1, h2⟩
theorem byte_at (s : ByteArray) (hsz : s.size ≤ 1073741824) (l c : Int) (k : Nat) (hb : byteF s l c = some k) (w : World) : Calls Tryz.prog 20 #[.string s, .int .i64 l, .int .i64 c] w fun e w' => e = .returned (.tuple #[.int .i64 (k : Int), .int .i64 0]) ∧ Below w.heap.size w w' := by
  refine (c20 s l c w hsz).mono ?_
  rintro e w' h
  unfold bytTo at h
  rw [hb] at h
  exact h
theorem byte_no (s : ByteArray) (hsz : s.size ≤ 1073741824) (l c : Int) (hb : byteF s l c = none) (w : World) : Calls Tryz.prog 20 #[.string s, .int .i64 l, .int .i64 c] w fun e w' => e = .returned (.tuple #[.int .i64 0, .int .i64 3]) ∧ Below w.heap.size w w' := by
  refine (c20 s l c w hsz).mono ?_
  rintro e w' h
  unfold bytTo at h
  rw [hb] at h
  exact h
/-- the place of the byte ahead -/
def prevP (s : ByteArray) : Nat → Int × Int
  | 0 => (0, 0)
  | j + 1 => pos s j
theorem prevP_ahead (s : ByteArray) : ∀ k, ahead (prevP s k) (pos s k)
  | 0 => .inl (by show (0 : Int) < 1; omega)
  | j + 1 => pos_lt s (Nat.lt_succ_self j)

set_option maxRecDepth 100000 in
set_option maxHeartbeats 1600000 in
theorem c8 (s : ByteArray) (l c : Int) (w : World) (hT : TI w) : Calls Tryz.prog 8 #[.string s, .int .i64 l, .int .i64 c] w fun e w' => e = .returned (.bool true) ∧ Below w.heap.size w w' := by
  have HT := Lib.hid hT
  clear hT
  by_cases hsh : s.size ≤ 300
  · have hsz : s.size ≤ 1073741824 := by omega
    have hz : ¬ ((s.size : Int) > 300) := by omega
    have hw1 : wrap64 ((s.size : Int) + 1) = ((s.size + 1 : Nat) : Int) := by unfold wrap64; omega
    have HL := Lib.hid (loc_at s hsz)
    have HY := Lib.hid (byte_at s hsz)
    have HN := Lib.hid (byte_no s hsz)
    have HSH := Lib.hid hsh
    clear hsh hsz
    go_enter Tryz.func8, Tryz.ntmps8
    go_wp2_with (go_at_call 16; ((with_reducible refine (c16 _ HT.out).mono ?_); rintro e w0 ⟨rfl, hb⟩; have HB := Lib.hid hb; clear hb))
    go_loopw [7, 8, 28] (fun s7 s8 s28 wr => ∃ k : Nat, k ≤ s.size + 1 ∧ s7 = .int .i64 (prevP s k).1 ∧ s8 = .int .i64 (prevP s k).2 ∧ s28 = .int .i64 (k : Int) ∧ Below w.heap.size w wr) (fun _ _ s28 _ => s.size + 1 - (intOf s28).toNat)
    case atStart => exact ⟨0, Nat.zero_le _, rfl, rfl, rfl, HB.out⟩
    case round =>
      obtain ⟨k, hk, rfl, rfl, rfl, hB⟩ := hrel
      have HBr := Lib.hid hB
      clear hB
      by_cases hlt : k < s.size + 1
      · have hltz : (k : Int) < ((s.size + 1 : Nat) : Int) := by omega
        have hw : wrap64 ((k : Int) + 1) = ((k + 1 : Nat) : Int) := by have := HSH.out; unfold wrap64; omega
        have CL := Lib.hid (HL.out k (by omega))
        have CB := Lib.hid (HY.out (pos s k).1 (pos s k).2 k (byteF_pos s k (by omega)))
        have HX := Lib.hid (And.intro hlt hw)
        have ha := prevP_ahead s k
        have hnx : prevP s (k + 1) = pos s k := rfl
        have HNX := Lib.hid hnx
        clear hw hk hlt hnx
        unfold ahead at ha
        generalize prevP s k = pr at ha ⊢
        generalize pos s k = po at ha CL CB HNX ⊢
        obtain ⟨a, b⟩ := pr
        obtain ⟨x, y⟩ := po
        simp only at ha CL CB
        rcases ha with h1 | ⟨h1, h2⟩
        · have e1 : ¬ x < a := by omega
          have e2 : (x == a) = false := by simp; omega
          clear h1
          go_wp2_with (first | (go_at_call 18; ((with_reducible refine (CL.out _).mono ?_); rintro e w1 ⟨rfl, hb⟩; have hB := HBr.out.trans (hb.mono HBr.out.size); clear HBr hb; have HBr := Lib.hid hB; clear hB)) | (go_at_call 20; ((with_reducible refine (CB.out _).mono ?_); rintro e w1 ⟨rfl, hb⟩; have hB := HBr.out.trans (hb.mono HBr.out.size); clear HBr hb; have HBr := Lib.hid hB; clear hB)))
          have hl := HX.out.1
          refine ⟨⟨k + 1, by omega, by rw [HNX.out], by rw [HNX.out], rfl, HBr.out⟩, ?_⟩
          show s.size + 1 - ((k : Int) + 1).toNat < s.size + 1 - ((k : Int)).toNat
          omega
        · subst h1
          have e3 : ¬ y ≤ b := by omega
          clear h2
          go_wp2_with (first | (go_at_call 18; ((with_reducible refine (CL.out _).mono ?_); rintro e w1 ⟨rfl, hb⟩; have hB := HBr.out.trans (hb.mono HBr.out.size); clear HBr hb; have HBr := Lib.hid hB; clear hB)) | (go_at_call 20; ((with_reducible refine (CB.out _).mono ?_); rintro e w1 ⟨rfl, hb⟩; have hB := HBr.out.trans (hb.mono HBr.out.size); clear HBr hb; have HBr := Lib.hid hB; clear hB)))
          have hl := HX.out.1
          refine ⟨⟨k + 1, by omega, by rw [HNX.out], by rw [HNX.out], rfl, HBr.out⟩, ?_⟩
          show s.size + 1 - ((k : Int) + 1).toNat < s.size + 1 - ((k : Int)).toNat
          omega
      · have hltz : ¬ ((k : Int) < ((s.size + 1 : Nat) : Int)) := by omega
        clear hlt hk
        rcases hb : byteF s l c with _ | i
        · have CB := Lib.hid (HN.out l c hb)
          clear hb
          go_wp2_with (go_at_call 20; ((with_reducible refine (CB.out _).mono ?_); rintro e w1 ⟨rfl, hb⟩; have hB := HBr.out.trans (hb.mono HBr.out.size); clear HBr hb; have HBr := Lib.hid hB; clear hB))
          go_ret
          exact ⟨rfl, HBr.out⟩
        · obtain ⟨hi, hp⟩ := byteF_inv s l c i hb
          have CB := Lib.hid (HY.out l c i hb)
          have cl := HL.out i hi
          rw [hp] at cl
          have CL := Lib.hid cl
          clear hb hi hp cl
          go_wp2_with (first | (go_at_call 18; ((with_reducible refine (CL.out _).mono ?_); rintro e w1 ⟨rfl, hb⟩; have hB := HBr.out.trans (hb.mono HBr.out.size); clear HBr hb; have HBr := Lib.hid hB; clear hB)) | (go_at_call 20; ((with_reducible refine (CB.out _).mono ?_); rintro e w1 ⟨rfl, hb⟩; have hB := HBr.out.trans (hb.mono HBr.out.size); clear HBr hb; have HBr := Lib.hid hB; clear hB)))
          go_ret
          exact ⟨rfl, HBr.out⟩
  · have hz : (s.size : Int) > 300 := by omega
    go_enter Tryz.func8, Tryz.ntmps8
    go_wp2_with (go_at_call 16; ((with_reducible refine (c16 _ HT.out).mono ?_); rintro e w0 ⟨rfl, hb⟩; have HB := Lib.hid hb; clear hb))
    go_ret
    exact ⟨rfl, HB.out⟩
end Go.Proofs.YtagcfgoofiibfaaGreatDoor
namespace Go.Proofs.YtagcfgoofiibfaaGreatDoor
open Go Go.ChangeMaps Go.ChangeShapes Go.WideShapes Go.ChangeAt Go.RowKit

set_option maxRecDepth 100000 in
theorem lexLocates_lifted (os : Os) (started : os.Started) (H : Type) (enc : TypeId × Value → H) :
    ReturnsInHanded {} Tryz.checked os 8 .any (fun w args => (Rows.lexLocatesSpec.pre enc Tryz.prog Tryz.f8 [] false w args ∧ laidMetH Tryz.prog laidL w) ∧ sizedMet enc Tryz.prog Tryz.f8 (OpenSpec.ofChange Rows.lexLocatesSpec) false w args)
      (Rows.lexLocatesSpec.post enc Tryz.prog Tryz.f8 false true false false) := by
  refine returnsInHanded_of_change_and (C := Tryz.checked) (X := fun w _ => laidMetH Tryz.prog laidL w) (fun _ _ _ hh h => h.of_heap hh) own started (by kernel_rfl) Tryz.func8
    (ChangeSpec.witness_shaped (enc := enc) (C := Tryz.checked) (os := os) (X := fun w _ => laidMetH Tryz.prog laidL w) false (World.laidAll Tryz.prog os laidL) #[.string ByteArray.empty, .int .i64 0, .int .i64 0] 8 (World.laidAll_os _ _ _)
      (start_shaped os) (by kernel_rfl) (by kernel_rfl) (by kernel_rfl) (start_met os _)) ?_
  intro W base args ds gs before hval0 hW _ _ hL _
  have hval : ∀ (j : Nat) t v, Tryz.f8.params[j]? = some t → args[j]? = some v → Value.okWide Tryz.prog W .any base t v := hval0
  have hW' := hW
  obtain ⟨p, q, hA0, hV, rfl, _, _⟩ := hW
  have hA : DataW.TrodAll enc Tryz.prog W 0 (fun _ => true) true Tryz.f8.params.toList args.toList ds p := hA0
  rw [Tryz.params8] at hA hval
  obtain ⟨v0, v1, v2, d0, d1, d2, p0, p1, p2, rfl, rfl, rfl, h0, h1, h2⟩ := trodAll_three hA
  obtain ⟨rfl, rfl⟩ := trodVars_none hV
  obtain ⟨x0, rfl, rfl, rfl, wx0⟩ := open_string Tryz.underlying9 (hval 0 9 v0 rfl rfl) h0
  obtain ⟨x1, rfl, rfl, rfl, wx1⟩ := open_int Tryz.underlying3 (hval 1 3 v1 rfl rfl) h1
  obtain ⟨x2, rfl, rfl, rfl, wx2⟩ := open_int Tryz.underlying3 (hval 2 3 v2 rfl rfl) h2
  simp only [List.append_nil] at hW'
  refine (c8 x0 x1 x2 W (ti_of_laid hL)).mono fun e W' ⟨he, hb⟩ => ?_
  subst he
  exact ⟨_, rfl, _, _, _, [], [], [], hW', trodAll_mk1 (shut_bool Tryz.underlying4 _), trodAll_mk3 (shut_string Tryz.underlying9 wx0) (shut_int Tryz.underlying3 wx1) (shut_int Tryz.underlying3 wx2), rfl, hb.frame _, fun h => by cases h⟩

theorem lexLocates_bare : Rows.LexLocatesSaid :=
  OpenClaim.holds_of_wide 8 Tryz.f8 rfl rfl rfl rfl rfl rfl rfl ⟨rfl, rfl, rfl, rfl, rfl⟩ rfl rfl rfl rfl rfl lexLocates_named Tryz.func8 lexLocates_closed
    (of_decide_eq_true (by kernel_rfl)) lexLocates_wrap (fun os started H enc _ => lexLocates_lifted os started H enc)
theorem lexLocates_holds : Rows.LexLocatesCardSaid :=
  Claim7.holds_tied_plain_at .later [] [.data, .data, .data, .data, .listed, .data, .pinned] true (true, "598e79093b2262133a9d99cdf3b0e1040e74e7a98986b3c01bfbd78ee9122216") true
    lexLocates_bare (fun _ h => by cases h) (by kernel_rfl) (fun _ h => by cases h) lexLocates_row_tie rfl ⟨rfl, rfl⟩ lexLocates_main rfl
    (fun f fn hf hfn => by
      obtain rfl : f = 8 := Option.some.inj (lexLocates_named.symm.trans hf) |>.symm
      obtain rfl : fn = Tryz.f8 := (Option.some.inj (Tryz.func8.symm.trans hfn)).symm
      exact ⟨lexLocates_looks, fun j t ht => by
        rw [Tryz.params8] at ht
        have hm : t ∈ [9, 3, 3] := by simpa using Array.mem_of_getElem? ht
        have hall : ([9, 3, 3].all fun u => !Tryz.prog.wantsStandIn u) = true := by kernel_rfl
        exact (show Tryz.prog.wantsStandIn t = false by simpa using List.all_eq_true.1 hall t hm)⟩)
    lexLocates_goes
#print axioms lexLocates_holds
end Go.Proofs.YtagcfgoofiibfaaGreatDoor
