/- The law LexTokensR: its walk and its statement: RA0, RA1, RA2, RA3, RA4, RA5, RA6. -/
import Derived.Test.YtagcfgoofiibfaaGreatDoorG14
import Derived.Test.YtagcfgoofiibfaaGreatDoorG09
import Derived.OwnWalk
import Derived.Test.YtagcfgoofiibfaaGreatDoorG30
import Derived.Test.YtagcfgoofiibfaaGreatDoorG24
set_option linter.unusedVariables false
set_option linter.unusedSimpArgs false
set_option linter.unusedVariables false
namespace Go.Proofs.YtagcfgoofiibfaaGreatDoor
open Go Go.RowKit

/-! The reference's reader: what it asks of a byte. -/
theorem c118 (b : Int) (w : World) : Calls Tryz.prog 118 #[.int .u8 b] w fun e w' => e = .returned (.bool (ltr b)) ∧ w = w' := by
  by_cases h1 : 65 ≤ b <;> by_cases h2 : b ≤ 90 <;> by_cases h3 : 97 ≤ b <;> by_cases h4 : b ≤ 122 <;> first | (exfalso; omega) | skip
  all_goals
    go_enter Tryz.func118, Tryz.ntmps118
    go_wp2
    go_ret
    exact ⟨by simp [ltr, *], rfl⟩
theorem c119 (b : Int) (w : World) : Calls Tryz.prog 119 #[.int .u8 b] w fun e w' => e = .returned (.bool (dgt b)) ∧ w = w' := by
  by_cases h1 : 48 ≤ b <;> by_cases h2 : b ≤ 57 <;> first | (exfalso; omega) | skip
  all_goals
    go_enter Tryz.func119, Tryz.ntmps119
    go_wp2
    go_ret
    exact ⟨by simp [dgt, *], rfl⟩
theorem c79 (b : Int) (w : World) : Calls Tryz.prog 79 #[.int .u8 b] w fun e w' => e = .returned (.bool (blk b)) ∧ w = w' := by
  by_cases h1 : b = 9
  · subst h1; go_enter Tryz.func79, Tryz.ntmps79; go_wp2; go_ret; exact ⟨rfl, rfl⟩
  by_cases h2 : b = 10
  · subst h2; go_enter Tryz.func79, Tryz.ntmps79; go_wp2; go_ret; exact ⟨rfl, rfl⟩
  by_cases h3 : b = 13
  · subst h3; go_enter Tryz.func79, Tryz.ntmps79; go_wp2; go_ret; exact ⟨rfl, rfl⟩
  by_cases h4 : b = 32
  · subst h4; go_enter Tryz.func79, Tryz.ntmps79; go_wp2; go_ret; exact ⟨rfl, rfl⟩
  have e1 : (b == 9) = false := by simpa using h1
  have e2 : (b == 10) = false := by simpa using h2
  have e3 : (b == 13) = false := by simpa using h3
  have e4 : (b == 32) = false := by simpa using h4
  go_enter Tryz.func79, Tryz.ntmps79
  go_wp2
  go_ret
  exact ⟨by simp [blk, *], rfl⟩
theorem c117 (s : ByteArray) (i : Nat) (w : World) : Calls Tryz.prog 117 #[.string s, .int .i64 (i : Int)] w fun e w' => e = .returned (.int .u8 (bt s i)) ∧ w = w' := by
  by_cases h : i < s.size
  · have h1 : (i : Int) < (s.size : Int) := by omega
    have h2 : ¬ ((s.size : Int) ≤ (i : Int)) := by omega
    have h0 : (0 : Int) ≤ (i : Int) := by omega
    have hb := bt_get s i h
    go_enter Tryz.func117, Tryz.ntmps117
    go_wp2
    go_ret
    exact ⟨rfl, rfl⟩
  · have h2 : (s.size : Int) ≤ (i : Int) := by omega
    have hb := bt_out s i (by omega)
    go_enter Tryz.func117, Tryz.ntmps117
    go_wp2
    go_ret
    first | exact ⟨rfl, rfl⟩ | exact ⟨ret_int hb.symm, rfl⟩
/-- what a digit is worth, 99 for none -/
def wor (b : Int) : Int := if wrth b < 0 then 99 else wrth b
theorem wor_a {b : Int} (hd : dgt b = false) (h1 : 97 ≤ b) (h2 : b ≤ 102) : wor b = b - 97 + 10 := by
  have hw : wrth b = b - 97 + 10 := by unfold wrth; rw [if_neg (by rw [hd]; decide), if_pos ⟨h1, h2⟩]
  unfold wor; rw [hw, if_neg (by omega)]
theorem wor_b {b : Int} (hd : dgt b = false) (h1 : 65 ≤ b) (h2 : b ≤ 70) : wor b = b - 65 + 10 := by
  have hw : wrth b = b - 65 + 10 := by unfold wrth; rw [if_neg (by rw [hd]; decide), if_neg (by omega), if_pos ⟨h1, h2⟩]
  unfold wor; rw [hw, if_neg (by omega)]
theorem wor_c {b : Int} (hd : dgt b = false) (h1 : ¬ (97 ≤ b ∧ b ≤ 102)) (h2 : ¬ (65 ≤ b ∧ b ≤ 70)) : wor b = 99 := by
  have hw : wrth b = -1 := by unfold wrth; rw [if_neg (by rw [hd]; decide), if_neg h1, if_neg h2]
  unfold wor; rw [hw]; rfl
theorem wor_d {b : Int} (hd : dgt b = true) (h1 : 48 ≤ b) : wor b = b - 48 := by
  have hw : wrth b = b - 48 := by unfold wrth; rw [if_pos hd]
  unfold wor; rw [hw, if_neg (by omega)]
theorem c175 (b : Int) (h0 : 0 ≤ b) (h9 : b ≤ 255) (w : World) : Calls Tryz.prog 175 #[.int .u8 b] w fun e w' => e = .returned (.int .i64 (wor b)) ∧ w = w' := by
  rcases hd : dgt b with _ | _
  · by_cases h1 : 97 ≤ b ∧ b ≤ 102
    · obtain ⟨h1, h2⟩ := h1
      have m1 : IntKind.u8.wrap (b - 97) = b - 97 := IntWalk.u8_in _ (by omega)
      go_enter Tryz.func175, Tryz.ntmps175
      go_wp2_with (go_at_call 119; refine (c119 _ _).mono ?_; rintro e w' ⟨rfl, rfl⟩)
      go_ret
      exact ⟨ret_int (wor_a hd h1 h2).symm, rfl⟩
    · by_cases h3 : 65 ≤ b ∧ b ≤ 70
      · obtain ⟨h3, h4⟩ := h3
        have h5 : ¬ (97 ≤ b) := by omega
        have m1 : IntKind.u8.wrap (b - 65) = b - 65 := IntWalk.u8_in _ (by omega)
        go_enter Tryz.func175, Tryz.ntmps175
        go_wp2_with (go_at_call 119; refine (c119 _ _).mono ?_; rintro e w' ⟨rfl, rfl⟩)
        go_ret
        exact ⟨ret_int (wor_b hd h3 h4).symm, rfl⟩
      · have hw : wor b = 99 := wor_c hd h1 h3
        have HW := Lib.hid hw
        clear hw
        by_cases h5 : 97 ≤ b <;> by_cases h6 : b ≤ 102 <;> by_cases h7 : 65 ≤ b <;> by_cases h8 : b ≤ 70 <;> first | (exfalso; omega) | skip
        all_goals
          go_enter Tryz.func175, Tryz.ntmps175
          go_wp2_with (go_at_call 119; refine (c119 _ _).mono ?_; rintro e w' ⟨rfl, rfl⟩)
          go_ret
          exact ⟨ret_int HW.out.symm, rfl⟩
  · have h1 : 48 ≤ b ∧ b ≤ 57 := by unfold dgt at hd; simpa using hd
    obtain ⟨h1, h2⟩ := h1
    have m1 : IntKind.u8.wrap (b - 48) = b - 48 := IntWalk.u8_in _ (by omega)
    go_enter Tryz.func175, Tryz.ntmps175
    go_wp2_with (go_at_call 119; refine (c119 _ _).mono ?_; rintro e w' ⟨rfl, rfl⟩)
    go_ret
    exact ⟨ret_int (wor_d hd h1).symm, rfl⟩
theorem c131 (b : Int) (w : World) : Calls Tryz.prog 131 #[.int .u8 b] w fun e w' => e = .returned (.int .u8 ((escF b).getD 0)) ∧ w = w' := by
  by_cases h1 : b = 34
  · subst h1; go_enter Tryz.func131, Tryz.ntmps131; go_wp2; go_ret; exact ⟨rfl, rfl⟩
  by_cases h2 : b = 92
  · subst h2; go_enter Tryz.func131, Tryz.ntmps131; go_wp2; go_ret; exact ⟨rfl, rfl⟩
  by_cases h3 : b = 116
  · subst h3; go_enter Tryz.func131, Tryz.ntmps131; go_wp2; go_ret; exact ⟨rfl, rfl⟩
  by_cases h4 : b = 110
  · subst h4; go_enter Tryz.func131, Tryz.ntmps131; go_wp2; go_ret; exact ⟨rfl, rfl⟩
  by_cases h5 : b = 102
  · subst h5; go_enter Tryz.func131, Tryz.ntmps131; go_wp2; go_ret; exact ⟨rfl, rfl⟩
  by_cases h6 : b = 114
  · subst h6; go_enter Tryz.func131, Tryz.ntmps131; go_wp2; go_ret; exact ⟨rfl, rfl⟩
  have e1 : (b == 34) = false := by simpa using h1
  have e2 : (b == 92) = false := by simpa using h2
  have e3 : (b == 116) = false := by simpa using h3
  have e4 : (b == 110) = false := by simpa using h4
  have e5 : (b == 102) = false := by simpa using h5
  have e6 : (b == 114) = false := by simpa using h6
  go_enter Tryz.func131, Tryz.ntmps131
  go_wp2
  go_ret
  exact ⟨by simp [escF, *], rfl⟩
/-- same -/
theorem c125 (s : ByteArray) (i : Nat) (b : Int) (w : World) (hs : s.size ≤ 1073741824) (hi : i ≤ s.size) : Calls Tryz.prog 125 #[.string s, .int .i64 (i : Int), .int .u8 b] w fun e w' => e = .returned (.int .i64 ((i + cnt (fun x => x == b) s i : Nat) : Int)) ∧ w = w' := by
  have HC := Lib.hid (cnt_lt (fun x => x == b) s _ i rfl)
  have HS := Lib.hid (cnt_stop (fun x => x == b) s _ i rfl)
  have HL := Lib.hid (cnt_le (fun x => x == b) s i)
  obtain ⟨N, hN⟩ : ∃ N, cnt (fun x => x == b) s i = N := ⟨_, rfl⟩
  rw [hN] at HC HS HL ⊢
  clear hN
  have HI := Lib.hid hi
  have HSZ := Lib.hid hs
  clear hi hs
  go_enter Tryz.func125, Tryz.ntmps125
  go_wp2
  go_loopw [1] (fun s1 wr => ∃ j : Nat, i ≤ j ∧ j ≤ i + N ∧ s1 = .int .i64 (j : Int) ∧ wr = w) (fun s1 _ => i + N - (intOf s1).toNat)
  case atStart => exact ⟨i, Nat.le_refl _, by omega, rfl, rfl⟩
  case round =>
    obtain ⟨j, hj, hjn, rfl, rfl⟩ := hrel
    have hI := HI.out
    have hSZ := HSZ.out
    have hL := HL.out
    by_cases hlt : j < i + N
    · obtain ⟨h1, h2⟩ := HC.out (j - i) (by omega)
      rw [show i + (j - i) = j by omega] at h1 h2
      have hjz : (j : Int) < (s.size : Int) := by omega
      have h0 : (0 : Int) ≤ (j : Int) := by omega
      have hb := bt_get s j h1
      rw [← hb] at h2
      have hw : wrap64 ((j : Int) + 1) = ((j + 1 : Nat) : Int) := by unfold wrap64; omega
      have HX := Lib.hid (And.intro hlt hw)
      clear hb hw
      go_wp2
      go_roundw
      case rel => exact ⟨j + 1, by omega, by have := HX.out.1; omega, by go_num, by first | rfl | trivial⟩
      case measure => have := HX.out.1; simp [intOf]; omega
    · have hje : j = i + N := by omega
      by_cases hsz : j < s.size
      · have h2 := HS.out (by omega)
        rw [← hje] at h2
        have hjz : (j : Int) < (s.size : Int) := by omega
        have h0 : (0 : Int) ≤ (j : Int) := by omega
        have hb := bt_get s j hsz
        rw [← hb] at h2
        have HJE := Lib.hid hje
        clear hb hje
        go_wp2
        go_ret
        exact ⟨ret_int (a := (j : Int)) (by have := HJE.out; omega), rfl⟩
      · have hjz : ¬ ((j : Int) < (s.size : Int)) := by omega
        have HJE := Lib.hid hje
        clear hje
        go_wp2
        go_ret
        exact ⟨ret_int (a := (j : Int)) (by have := HJE.out; omega), rfl⟩
/-- run -/
theorem c121 (s : ByteArray) (i : Nat) (w : World) (hs : s.size ≤ 1073741824) (hi : i ≤ 1073741824) : Calls Tryz.prog 121 #[.string s, .int .i64 (i : Int)] w fun e w' => e = .returned (.int .i64 ((i + cnt rnb s i : Nat) : Int)) ∧ w = w' := by
  have HC := Lib.hid (cnt_lt rnb s _ i rfl)
  have HS := Lib.hid (cnt_stop rnb s _ i rfl)
  have HL := Lib.hid (cnt_le rnb s i)
  obtain ⟨N, hN⟩ : ∃ N, cnt rnb s i = N := ⟨_, rfl⟩
  rw [hN] at HC HS HL ⊢
  clear hN
  have HI := Lib.hid hi
  have HSZ := Lib.hid hs
  clear hi hs
  go_enter Tryz.func121, Tryz.ntmps121
  go_wp2
  go_loopw [1] (fun s1 wr => ∃ j : Nat, i ≤ j ∧ j ≤ i + N ∧ s1 = .int .i64 (j : Int) ∧ wr = w) (fun s1 _ => i + N - (intOf s1).toNat)
  case atStart => exact ⟨i, Nat.le_refl _, by omega, rfl, rfl⟩
  case round =>
    obtain ⟨j, hj, hjn, rfl, rfl⟩ := hrel
    have hI := HI.out
    have hSZ := HSZ.out
    have hL := HL.out
    by_cases hlt : j < i + N
    · obtain ⟨h1, h2⟩ := HC.out (j - i) (by omega)
      rw [show i + (j - i) = j by omega] at h1 h2
      have hjz : (j : Int) < (s.size : Int) := by omega
      have h0 : (0 : Int) ≤ (j : Int) := by omega
      have hb := bt_get s j h1
      have hw : wrap64 ((j : Int) + 1) = ((j + 1 : Nat) : Int) := by unfold wrap64; omega
      have HX := Lib.hid (And.intro hlt hw)
      obtain ⟨y, hy⟩ : ∃ y, bt s j = y := ⟨_, rfl⟩
      rw [hy] at h2 hb
      have C8 := Lib.hid (fun W => c118 y W)
      have C9 := Lib.hid (fun W => c119 y W)
      clear hw hy
      rcases hl : ltr y with _ | _
      · rcases hd : dgt y with _ | _
        · have h95 : (y == 95) = true := by unfold rnb at h2; rw [hl, hd] at h2; simpa using h2
          rw [hl] at C8; rw [hd] at C9
          clear h2 hl hd
          go_wp2_with (first | (go_at_call 118; refine (C8.out _).mono ?_; rintro e w' ⟨rfl, rfl⟩) | (go_at_call 119; refine (C9.out _).mono ?_; rintro e w' ⟨rfl, rfl⟩))
          go_roundw
          case rel => exact ⟨j + 1, by omega, by have := HX.out.1; omega, by go_num, by first | rfl | trivial⟩
          case measure => have := HX.out.1; simp [intOf]; omega
        · rw [hl] at C8; rw [hd] at C9
          clear h2 hl hd
          go_wp2_with (first | (go_at_call 118; refine (C8.out _).mono ?_; rintro e w' ⟨rfl, rfl⟩) | (go_at_call 119; refine (C9.out _).mono ?_; rintro e w' ⟨rfl, rfl⟩))
          go_roundw
          case rel => exact ⟨j + 1, by omega, by have := HX.out.1; omega, by go_num, by first | rfl | trivial⟩
          case measure => have := HX.out.1; simp [intOf]; omega
      · rw [hl] at C8
        clear h2 hl
        go_wp2_with (first | (go_at_call 118; refine (C8.out _).mono ?_; rintro e w' ⟨rfl, rfl⟩) | (go_at_call 119; refine (C9.out _).mono ?_; rintro e w' ⟨rfl, rfl⟩))
        go_roundw
        case rel => exact ⟨j + 1, by omega, by have := HX.out.1; omega, by go_num, by first | rfl | trivial⟩
        case measure => have := HX.out.1; simp [intOf]; omega
    · have hje : j = i + N := by omega
      by_cases hsz : j < s.size
      · have h2 := HS.out (by omega)
        rw [← hje] at h2
        have hjz : (j : Int) < (s.size : Int) := by omega
        have h0 : (0 : Int) ≤ (j : Int) := by omega
        have hb := bt_get s j hsz
        obtain ⟨y, hy⟩ : ∃ y, bt s j = y := ⟨_, rfl⟩
        rw [hy] at h2 hb
        have h3 : ltr y = false ∧ dgt y = false ∧ (y == 95) = false := by unfold rnb at h2; simpa [and_assoc] using h2
        have C8 := Lib.hid (fun W => c118 y W)
        have C9 := Lib.hid (fun W => c119 y W)
        rw [h3.1] at C8
        rw [h3.2.1] at C9
        have h95 := h3.2.2
        have HJE := Lib.hid hje
        clear hy h2 h3 hje
        go_wp2_with (first | (go_at_call 118; refine (C8.out _).mono ?_; rintro e w' ⟨rfl, rfl⟩) | (go_at_call 119; refine (C9.out _).mono ?_; rintro e w' ⟨rfl, rfl⟩))
        go_ret
        exact ⟨ret_int (a := (j : Int)) (by have := HJE.out; omega), rfl⟩
      · have hjz : ¬ ((j : Int) < (s.size : Int)) := by omega
        have HJE := Lib.hid hje
        clear hje
        go_wp2
        go_ret
        exact ⟨ret_int (a := (j : Int)) (by have := HJE.out; omega), rfl⟩
end Go.Proofs.YtagcfgoofiibfaaGreatDoor
set_option linter.unusedVariables false
namespace Go.Proofs.YtagcfgoofiibfaaGreatDoor
open Go Go.RowKit

theorem wrth_16 (b : Int) : wrth b < 16 := by
  unfold wrth
  split
  · rename_i h; unfold dgt at h; simp at h; omega
  · split
    · omega
    · split <;> omega
theorem dgt_wrth {b : Int} (h : dgt b = true) : 0 ≤ wrth b := by
  have h' := h
  unfold wrth
  rw [if_pos h]
  unfold dgt at h'; simp at h'; omega
/-- at, some places on -/
theorem c117p (s : ByteArray) (i k : Nat) (z y : Int) (w : World) (hz : z = ((i + k : Nat) : Int)) (hy : bt s (i + k) = y) : Calls Tryz.prog 117 #[.string s, .int .i64 z] w fun e w' => e = .returned (.int .u8 y) ∧ w = w' := by
  subst hz hy; exact c117 s (i + k) w

set_option maxRecDepth 100000 in
set_option maxHeartbeats 1600000 in
/-- based -/
theorem c122 (s : ByteArray) (i : Nat) (w : World) (hi : i ≤ 1073741824) : Calls Tryz.prog 122 #[.string s, .int .i64 (i : Int)] w fun e w' => e = .returned (.int .i64 (baseF s i)) ∧ w = w' := by
  obtain ⟨y0, h0⟩ : ∃ y, bt s i = y := ⟨_, rfl⟩
  obtain ⟨y1, h1⟩ : ∃ y, bt s (i + 1) = y := ⟨_, rfl⟩
  obtain ⟨y2, h2⟩ : ∃ y, bt s (i + 2) = y := ⟨_, rfl⟩
  have hlo := bt_lo s (i + 2)
  have hhi := bt_hi s (i + 2)
  rw [h2] at hlo hhi
  have hB : baseF s i = if y0 ≠ 92 then 0 else if y1 = 98 ∨ y1 = 66 then (if dgt y2 then 2 else 0) else if y1 = 111 ∨ y1 = 79 then (if dgt y2 then 8 else 0) else if y1 = 104 ∨ y1 = 72 then (if dgt y2 ∨ 0 ≤ wrth y2 then 16 else 0) else 0 := by
    unfold baseF; rw [h0, h1, h2]
  rw [hB]
  have C0 := Lib.hid (fun W => c117p s i 0 (i : Int) y0 W (by omega) h0)
  have C1 := Lib.hid (fun W => c117p s i 1 ((i : Int) + 1) y1 W (by omega) h1)
  have C2 := Lib.hid (fun W => c117p s i 2 ((i : Int) + 2) y2 W (by omega) h2)
  have C9 := Lib.hid (fun W => c119 y2 W)
  have CW := Lib.hid (fun W => c175 y2 hlo hhi W)
  have m1 : IntKind.i64.wrap ((i : Int) + 1) = (i : Int) + 1 := IntWalk.i64_in _ (by omega)
  have m2 : IntKind.i64.wrap ((i : Int) + 2) = (i : Int) + 2 := IntWalk.i64_in _ (by omega)
  clear hB h0 h1 h2
  by_cases e0 : y0 = 92
  case neg =>
    have e1 : (y0 != 92) = true := by simpa using e0
    go_enter Tryz.func122, Tryz.ntmps122
    go_wp2_with (go_at_call 117; (with_reducible refine (C0.out _).mono ?_); rintro e w' ⟨rfl, rfl⟩)
    go_ret
    exact ⟨rfl, rfl⟩
  subst e0
  have hw : wor y2 = if wrth y2 < 0 then 99 else wrth y2 := rfl
  have hw2 := wrth_16 y2
  have hw3 : dgt y2 = true → 0 ≤ wrth y2 := dgt_wrth
  obtain ⟨u, hu⟩ : ∃ u, wor y2 = u := ⟨_, rfl⟩
  obtain ⟨d, hd⟩ : ∃ d, dgt y2 = d := ⟨_, rfl⟩
  rw [hu] at CW hw
  rw [hd] at C9 hw3 ⊢
  rw [if_neg (by decide)]
  have hq : (d = true ∨ 0 ≤ wrth y2) ↔ u < 16 := by
    constructor
    · intro h
      have : 0 ≤ wrth y2 := by rcases h with h | h; exact hw3 h; exact h
      rw [hw, if_neg (by omega)]; exact hw2
    · intro h
      right
      apply Classical.byContradiction
      intro hn
      rw [if_pos (by omega)] at hw
      omega
  clear hw hw2 hw3 hu hlo hhi hd
  by_cases a1 : y1 = 98
  · subst a1
    rw [if_pos (.inl rfl)]
    rcases d with _ | _
    all_goals
      go_enter Tryz.func122, Tryz.ntmps122
      go_wp2_with (first | (go_at_call 117; (with_reducible refine (C0.out _).mono ?_); rintro e w' ⟨rfl, rfl⟩) | (go_at_call 117; (with_reducible refine (C1.out _).mono ?_); rintro e w' ⟨rfl, rfl⟩) | (go_at_call 117; (with_reducible refine (C2.out _).mono ?_); rintro e w' ⟨rfl, rfl⟩) | (go_at_call 119; (with_reducible refine (C9.out _).mono ?_); rintro e w' ⟨rfl, rfl⟩))
      go_ret
      exact ⟨rfl, rfl⟩
  by_cases a2 : y1 = 66
  · subst a2
    rw [if_pos (.inr rfl)]
    rcases d with _ | _
    all_goals
      go_enter Tryz.func122, Tryz.ntmps122
      go_wp2_with (first | (go_at_call 117; (with_reducible refine (C0.out _).mono ?_); rintro e w' ⟨rfl, rfl⟩) | (go_at_call 117; (with_reducible refine (C1.out _).mono ?_); rintro e w' ⟨rfl, rfl⟩) | (go_at_call 117; (with_reducible refine (C2.out _).mono ?_); rintro e w' ⟨rfl, rfl⟩) | (go_at_call 119; (with_reducible refine (C9.out _).mono ?_); rintro e w' ⟨rfl, rfl⟩))
      go_ret
      exact ⟨rfl, rfl⟩
  rw [if_neg (by omega)]
  by_cases a3 : y1 = 111
  · subst a3
    rw [if_pos (.inl rfl)]
    rcases d with _ | _
    all_goals
      go_enter Tryz.func122, Tryz.ntmps122
      go_wp2_with (first | (go_at_call 117; (with_reducible refine (C0.out _).mono ?_); rintro e w' ⟨rfl, rfl⟩) | (go_at_call 117; (with_reducible refine (C1.out _).mono ?_); rintro e w' ⟨rfl, rfl⟩) | (go_at_call 117; (with_reducible refine (C2.out _).mono ?_); rintro e w' ⟨rfl, rfl⟩) | (go_at_call 119; (with_reducible refine (C9.out _).mono ?_); rintro e w' ⟨rfl, rfl⟩))
      go_ret
      exact ⟨rfl, rfl⟩
  by_cases a4 : y1 = 79
  · subst a4
    rw [if_pos (.inr rfl)]
    rcases d with _ | _
    all_goals
      go_enter Tryz.func122, Tryz.ntmps122
      go_wp2_with (first | (go_at_call 117; (with_reducible refine (C0.out _).mono ?_); rintro e w' ⟨rfl, rfl⟩) | (go_at_call 117; (with_reducible refine (C1.out _).mono ?_); rintro e w' ⟨rfl, rfl⟩) | (go_at_call 117; (with_reducible refine (C2.out _).mono ?_); rintro e w' ⟨rfl, rfl⟩) | (go_at_call 119; (with_reducible refine (C9.out _).mono ?_); rintro e w' ⟨rfl, rfl⟩))
      go_ret
      exact ⟨rfl, rfl⟩
  rw [if_neg (by omega)]
  by_cases a5 : y1 = 104
  · subst a5
    rw [if_pos (.inl rfl)]
    by_cases hv : u < 16
    · rw [if_pos (hq.2 hv)]
      clear hq
      go_enter Tryz.func122, Tryz.ntmps122
      go_wp2_with (first | (go_at_call 117; (with_reducible refine (C0.out _).mono ?_); rintro e w' ⟨rfl, rfl⟩) | (go_at_call 117; (with_reducible refine (C1.out _).mono ?_); rintro e w' ⟨rfl, rfl⟩) | (go_at_call 117; (with_reducible refine (C2.out _).mono ?_); rintro e w' ⟨rfl, rfl⟩) | (go_at_call 175; (with_reducible refine (CW.out _).mono ?_); rintro e w' ⟨rfl, rfl⟩))
      go_ret
      exact ⟨rfl, rfl⟩
    · rw [if_neg (fun h => hv (hq.1 h))]
      clear hq
      go_enter Tryz.func122, Tryz.ntmps122
      go_wp2_with (first | (go_at_call 117; (with_reducible refine (C0.out _).mono ?_); rintro e w' ⟨rfl, rfl⟩) | (go_at_call 117; (with_reducible refine (C1.out _).mono ?_); rintro e w' ⟨rfl, rfl⟩) | (go_at_call 117; (with_reducible refine (C2.out _).mono ?_); rintro e w' ⟨rfl, rfl⟩) | (go_at_call 175; (with_reducible refine (CW.out _).mono ?_); rintro e w' ⟨rfl, rfl⟩))
      go_ret
      exact ⟨rfl, rfl⟩
  by_cases a6 : y1 = 72
  · subst a6
    rw [if_pos (.inr rfl)]
    by_cases hv : u < 16
    · rw [if_pos (hq.2 hv)]
      clear hq
      go_enter Tryz.func122, Tryz.ntmps122
      go_wp2_with (first | (go_at_call 117; (with_reducible refine (C0.out _).mono ?_); rintro e w' ⟨rfl, rfl⟩) | (go_at_call 117; (with_reducible refine (C1.out _).mono ?_); rintro e w' ⟨rfl, rfl⟩) | (go_at_call 117; (with_reducible refine (C2.out _).mono ?_); rintro e w' ⟨rfl, rfl⟩) | (go_at_call 175; (with_reducible refine (CW.out _).mono ?_); rintro e w' ⟨rfl, rfl⟩))
      go_ret
      exact ⟨rfl, rfl⟩
    · rw [if_neg (fun h => hv (hq.1 h))]
      clear hq
      go_enter Tryz.func122, Tryz.ntmps122
      go_wp2_with (first | (go_at_call 117; (with_reducible refine (C0.out _).mono ?_); rintro e w' ⟨rfl, rfl⟩) | (go_at_call 117; (with_reducible refine (C1.out _).mono ?_); rintro e w' ⟨rfl, rfl⟩) | (go_at_call 117; (with_reducible refine (C2.out _).mono ?_); rintro e w' ⟨rfl, rfl⟩) | (go_at_call 175; (with_reducible refine (CW.out _).mono ?_); rintro e w' ⟨rfl, rfl⟩))
      go_ret
      exact ⟨rfl, rfl⟩
  rw [if_neg (by omega)]
  have b1 : (y1 == 98) = false := by simpa using a1
  have b2 : (y1 == 66) = false := by simpa using a2
  have b3 : (y1 == 111) = false := by simpa using a3
  have b4 : (y1 == 79) = false := by simpa using a4
  have b5 : (y1 == 104) = false := by simpa using a5
  have b6 : (y1 == 72) = false := by simpa using a6
  clear a1 a2 a3 a4 a5 a6 hq
  go_enter Tryz.func122, Tryz.ntmps122
  go_wp2_with (first | (go_at_call 117; (with_reducible refine (C0.out _).mono ?_); rintro e w' ⟨rfl, rfl⟩) | (go_at_call 117; (with_reducible refine (C1.out _).mono ?_); rintro e w' ⟨rfl, rfl⟩) | (go_at_call 117; (with_reducible refine (C2.out _).mono ?_); rintro e w' ⟨rfl, rfl⟩))
  go_ret
  exact ⟨rfl, rfl⟩

/-- two bytes are seen -/
theorem sees2 (s : ByteArray) (i : Nat) (a b : UInt8) (ha : a ≠ 0) (hb : b ≠ 0) : sees s i ⟨#[a, b]⟩ = true ↔ (bt s i = (a.toNat : Int) ∧ bt s (i + 1) = (b.toNat : Int)) := by
  have hz : ∀ (c : UInt8) (k : Nat), c ≠ 0 → bt s k = (c.toNat : Int) → k < s.size ∧ s.data.toList.getD k 0 = c := fun c k hc h => by
    refine ⟨?_, ?_⟩
    · rcases Nat.lt_or_ge k s.size with q | q
      · exact q
      · rw [bt_out s k q] at h
        exact absurd (UInt8.toNat.inj (show c.toNat = (0 : UInt8).toNat by rw [show (0 : UInt8).toNat = 0 from rfl]; omega)) hc
    · unfold bt at h
      exact UInt8.toNat.inj (by omega)
  constructor
  · intro h
    have h0 := sees_byte s i _ h 0 (show 0 < 2 by omega)
    have h1 := sees_byte s i _ h 1 (show 1 < 2 by omega)
    exact ⟨h0, h1⟩
  · rintro ⟨h0, h1⟩
    obtain ⟨k0, g0⟩ := hz a i ha h0
    obtain ⟨k1, g1⟩ := hz b (i + 1) hb h1
    rw [sees_take]
    rw [drop_bt s i k0, drop_bt s (i + 1) k1, g0, g1]
    rfl
/-- the end of a comment, -1 where none begins, -2 where it has no end -/
def comF (s : ByteArray) (i : Nat) : Int :=
  if sees s i ⟨#[92, 42]⟩ then ((i + cnt (fun b => b != 10) s i : Nat) : Int)
  else if sees s i ⟨#[40, 42]⟩ then (match insA s i 0 with | some j => (j : Int) | none => -2)
  else -1
def insI : Option Nat → Int
  | some j => (j : Int)
  | none => -2

set_option maxRecDepth 100000 in
set_option maxHeartbeats 3200000 in
/-- comment -/
theorem c80 (s : ByteArray) (i : Nat) (w : World) (hs : s.size ≤ 1073741824) (hi : i < s.size) : Calls Tryz.prog 80 #[.string s, .int .i64 (i : Int)] w fun e w' => e = .returned (.int .i64 (comF s i)) ∧ w = w' := by
  have s1 := sees2 s i 92 42 (by decide) (by decide)
  have s2 := sees2 s i 40 42 (by decide) (by decide)
  obtain ⟨y0, h0⟩ : ∃ y, bt s i = y := ⟨_, rfl⟩
  obtain ⟨y1, h1⟩ : ∃ y, bt s (i + 1) = y := ⟨_, rfl⟩
  rw [h0, h1] at s1 s2
  have C0 := Lib.hid (fun W => c117p s i 0 (i : Int) y0 W (by omega) h0)
  have C1 := Lib.hid (fun W => c117p s i 1 ((i : Int) + 1) y1 W (by omega) h1)
  have m1 : IntKind.i64.wrap ((i : Int) + 1) = (i : Int) + 1 := IntWalk.i64_in _ (by omega)
  clear h0 h1
  change (_ ↔ y0 = 92 ∧ y1 = 42) at s1
  change (_ ↔ y0 = 40 ∧ y1 = 42) at s2
  by_cases e1 : y0 = 92 ∧ y1 = 42
  · have hF : comF s i = ((i + cnt (fun b => b != 10) s i : Nat) : Int) := by unfold comF; rw [if_pos (s1.2 e1)]
    rw [hF]
    obtain ⟨rfl, rfl⟩ := e1
    have HC := Lib.hid (cnt_lt (fun x => x != 10) s _ i rfl)
    have HS := Lib.hid (cnt_stop (fun x => x != 10) s _ i rfl)
    have HL := Lib.hid (cnt_le (fun x => x != 10) s i)
    obtain ⟨N, hN⟩ : ∃ N, cnt (fun x => x != 10) s i = N := ⟨_, rfl⟩
    rw [hN] at HC HS HL ⊢
    have HI := Lib.hid hi
    have HSZ := Lib.hid hs
    clear hN hi hs s1 s2 hF
    go_enter Tryz.func80, Tryz.ntmps80
    go_wp2_with (first | (go_at_call 117; (with_reducible refine (C0.out _).mono ?_); rintro e w' ⟨rfl, rfl⟩) | (go_at_call 117; (with_reducible refine (C1.out _).mono ?_); rintro e w' ⟨rfl, rfl⟩))
    go_loopw [1] (fun s1 wr => ∃ j : Nat, i ≤ j ∧ j ≤ i + N ∧ s1 = .int .i64 (j : Int) ∧ wr = w) (fun s1 _ => i + N - (intOf s1).toNat)
    case atStart => exact ⟨i, Nat.le_refl _, by omega, rfl, rfl⟩
    case round =>
      obtain ⟨j, hj, hjn, rfl, rfl⟩ := hrel
      have hI := HI.out
      have hSZ := HSZ.out
      have hL := HL.out
      by_cases hlt : j < i + N
      · obtain ⟨h1, h2⟩ := HC.out (j - i) (by omega)
        rw [show i + (j - i) = j by omega] at h1 h2
        have hjz : (j : Int) < (s.size : Int) := by omega
        have h0 : (0 : Int) ≤ (j : Int) := by omega
        have hb := bt_get s j h1
        rw [← hb] at h2
        have hw : wrap64 ((j : Int) + 1) = ((j + 1 : Nat) : Int) := by unfold wrap64; omega
        have HX := Lib.hid (And.intro hlt hw)
        clear hb hw
        go_wp2
        go_roundw
        case rel => exact ⟨j + 1, by omega, by have := HX.out.1; omega, by go_num, by first | rfl | trivial⟩
        case measure => have := HX.out.1; simp [intOf]; omega
      · have hje : j = i + N := by omega
        by_cases hsz : j < s.size
        · have h2 := HS.out (by omega)
          rw [← hje] at h2
          have hjz : (j : Int) < (s.size : Int) := by omega
          have h0 : (0 : Int) ≤ (j : Int) := by omega
          have hb := bt_get s j hsz
          rw [← hb] at h2
          have HJE := Lib.hid hje
          clear hb hje
          go_wp2
          go_ret
          exact ⟨ret_int (a := (j : Int)) (by have := HJE.out; omega), rfl⟩
        · have hjz : ¬ ((j : Int) < (s.size : Int)) := by omega
          have HJE := Lib.hid hje
          clear hje
          go_wp2
          go_ret
          exact ⟨ret_int (a := (j : Int)) (by have := HJE.out; omega), rfl⟩
  have n1 : ¬ (sees s i ⟨#[92, 42]⟩ = true) := fun h => e1 (s1.1 h)
  by_cases e2 : y0 = 40 ∧ y1 = 42
  case neg =>
    have hF : comF s i = -1 := by unfold comF; rw [if_neg n1, if_neg (fun h => e2 (s2.1 h))]
    rw [hF]
    clear hF s1 s2 n1
    have k0 : ∀ (c : Int), y0 ≠ c → (y0 == c) = false ∧ (y0 != c) = true := fun c h => ⟨by simpa using h, by simpa using h⟩
    have k1 : ∀ (c : Int), y1 ≠ c → (y1 == c) = false ∧ (y1 != c) = true := fun c h => ⟨by simpa using h, by simpa using h⟩
    by_cases a0 : y0 = 92
    · obtain ⟨a1, a2⟩ := k1 42 (fun h => e1 ⟨a0, h⟩)
      subst a0
      clear k0 k1 e1 e2
      go_enter Tryz.func80, Tryz.ntmps80
      go_wp2_with (first | (go_at_call 117; (with_reducible refine (C0.out _).mono ?_); rintro e w' ⟨rfl, rfl⟩) | (go_at_call 117; (with_reducible refine (C1.out _).mono ?_); rintro e w' ⟨rfl, rfl⟩))
      go_ret
      exact ⟨rfl, rfl⟩
    · obtain ⟨b1, b2⟩ := k0 92 a0
      by_cases a3 : y0 = 40
      · obtain ⟨a1, a2⟩ := k1 42 (fun h => e2 ⟨a3, h⟩)
        subst a3
        clear k0 k1 e1 e2 a0 b1 b2
        go_enter Tryz.func80, Tryz.ntmps80
        go_wp2_with (first | (go_at_call 117; (with_reducible refine (C0.out _).mono ?_); rintro e w' ⟨rfl, rfl⟩) | (go_at_call 117; (with_reducible refine (C1.out _).mono ?_); rintro e w' ⟨rfl, rfl⟩))
        go_ret
        exact ⟨rfl, rfl⟩
      · obtain ⟨b3, b4⟩ := k0 40 a3
        clear k0 k1 e1 e2 a0 a3
        go_enter Tryz.func80, Tryz.ntmps80
        go_wp2_with (first | (go_at_call 117; (with_reducible refine (C0.out _).mono ?_); rintro e w' ⟨rfl, rfl⟩) | (go_at_call 117; (with_reducible refine (C1.out _).mono ?_); rintro e w' ⟨rfl, rfl⟩))
        go_ret
        exact ⟨rfl, rfl⟩
  have hF : comF s i = insI (insA s i 0) := by unfold comF; rw [if_neg n1, if_pos (s2.2 e2)]; rfl
  rw [hF]
  obtain ⟨rfl, rfl⟩ := e2
  obtain ⟨R, hR⟩ : ∃ R, insA s i 0 = R := ⟨_, rfl⟩
  rw [hR]
  have HR := Lib.hid hR
  have HI := Lib.hid hi
  have HSZ := Lib.hid hs
  clear hR hi hs s1 s2 n1 hF e1
  go_enter Tryz.func80, Tryz.ntmps80
  go_wp2_with (first | (go_at_call 117; (with_reducible refine (C0.out _).mono ?_); rintro e w' ⟨rfl, rfl⟩) | (go_at_call 117; (with_reducible refine (C1.out _).mono ?_); rintro e w' ⟨rfl, rfl⟩))
  go_loopw [1, 5] (fun s1 s5 wr => ∃ (j : Nat) (d : Int), j ≤ s.size ∧ -(j : Int) ≤ d ∧ d ≤ (j : Int) ∧ insA s j d = R ∧ s1 = .int .i64 (j : Int) ∧ s5 = .int .i64 d ∧ wr = w) (fun s1 _ _ => s.size - (intOf s1).toNat)
  case atStart => exact ⟨i, 0, by have := HI.out; omega, by omega, by omega, HR.out, rfl, rfl, rfl⟩
  case round =>
    obtain ⟨j, d, hj, hd0, hd1, hr, rfl, rfl, rfl⟩ := hrel
    have hSZ := HSZ.out
    have he := insA_eq s j d hj
    rw [hr] at he
    by_cases hlt : j < s.size
    case neg =>
      have hje : j = s.size := by omega
      have hjz : ¬ ((j : Int) < (s.size : Int)) := by omega
      have q1 : ∀ p : ByteArray, 0 < p.size → sees s j p = false := fun p hp => by
        rcases hq : sees s j p with _ | _
        · rfl
        · have := sees_le s j p hq hp; omega
      rw [if_neg (by rw [q1 _ (by decide)]; decide), if_neg (by rw [q1 _ (by decide)]; decide), if_pos (by omega)] at he
      subst he
      clear q1 hr
      go_wp2
      go_ret
      exact ⟨rfl, rfl⟩
    have t1 := sees2 s j 40 42 (by decide) (by decide)
    have t2 := sees2 s j 42 41 (by decide) (by decide)
    obtain ⟨x0, g0⟩ : ∃ y, bt s j = y := ⟨_, rfl⟩
    obtain ⟨x1, g1⟩ : ∃ y, bt s (j + 1) = y := ⟨_, rfl⟩
    rw [g0, g1] at t1 t2
    change (_ ↔ x0 = 40 ∧ x1 = 42) at t1
    change (_ ↔ x0 = 42 ∧ x1 = 41) at t2
    have D0 := Lib.hid (fun W => c117p s j 0 (j : Int) x0 W (by omega) g0)
    have D1 := Lib.hid (fun W => c117p s j 1 ((j : Int) + 1) x1 W (by omega) g1)
    have hjz : (j : Int) < (s.size : Int) := by omega
    have n1 : IntKind.i64.wrap ((j : Int) + 1) = (j : Int) + 1 := IntWalk.i64_in _ (by omega)
    have n2 : IntKind.i64.wrap ((j : Int) + 2) = (j : Int) + 2 := IntWalk.i64_in _ (by omega)
    have n3 : IntKind.i64.wrap (d + 1) = d + 1 := IntWalk.i64_in _ (by omega)
    have n4 : IntKind.i64.wrap (d - 1) = d - 1 := IntWalk.i64_in _ (by omega)
    have c2 : ((j + 2 : Nat) : Int) = (j : Int) + 2 := by omega
    have c1 : ((j + 1 : Nat) : Int) = (j : Int) + 1 := by omega
    clear g0 g1
    by_cases u1 : x0 = 40 ∧ x1 = 42
    · have h2 := sees_len s j _ 1 rfl (t1.2 u1)
      rw [if_pos (t1.2 u1)] at he
      obtain ⟨rfl, rfl⟩ := u1
      have HX := Lib.hid (And.intro he h2)
      clear he h2 t1 t2 hr
      go_wp2_with (first | (go_at_call 117; (with_reducible refine (D0.out _).mono ?_); rintro e w' ⟨rfl, rfl⟩) | (go_at_call 117; (with_reducible refine (D1.out _).mono ?_); rintro e w' ⟨rfl, rfl⟩))
      go_roundw
      case rel => exact ⟨j + 2, d + 1, by have := HX.out.2; omega, by omega, by omega, HX.out.1.symm, by rw [c2], rfl, by first | rfl | trivial⟩
      case measure => have := HX.out.2; simp [intOf]; omega
    rw [if_neg (fun h => u1 (t1.1 h))] at he
    by_cases u2 : x0 = 42 ∧ x1 = 41
    · have h2 := sees_len s j _ 1 rfl (t2.2 u2)
      rw [if_pos (t2.2 u2)] at he
      obtain ⟨rfl, rfl⟩ := u2
      by_cases hd : d = 1
      · subst hd
        rw [if_pos rfl] at he
        subst he
        clear t1 t2 hr u1
        go_wp2_with (first | (go_at_call 117; (with_reducible refine (D0.out _).mono ?_); rintro e w' ⟨rfl, rfl⟩) | (go_at_call 117; (with_reducible refine (D1.out _).mono ?_); rintro e w' ⟨rfl, rfl⟩))
        go_ret
        exact ⟨ret_int (a := (j : Int) + 2) (b := ((j + 2 : Nat) : Int)) (by omega), rfl⟩
      · rw [if_neg hd] at he
        have hz : (d - 1 == 0) = false := by simp; omega
        have HX := Lib.hid (And.intro he h2)
        clear he h2 t1 t2 hr u1 hd
        go_wp2_with (first | (go_at_call 117; (with_reducible refine (D0.out _).mono ?_); rintro e w' ⟨rfl, rfl⟩) | (go_at_call 117; (with_reducible refine (D1.out _).mono ?_); rintro e w' ⟨rfl, rfl⟩))
        go_roundw
        case rel => exact ⟨j + 2, d - 1, by have := HX.out.2; omega, by omega, by omega, HX.out.1.symm, by rw [c2], rfl, by first | rfl | trivial⟩
        case measure => have := HX.out.2; simp [intOf]; omega
    rw [if_neg (fun h => u2 (t2.1 h)), if_neg (by omega)] at he
    have HX := Lib.hid he
    clear he t1 t2 hr
    by_cases v0 : x0 = 40
    · have v1 : (x1 == 42) = false := by simp; exact fun h => u1 ⟨v0, h⟩
      subst v0
      clear u1 u2
      go_wp2_with (first | (go_at_call 117; (with_reducible refine (D0.out _).mono ?_); rintro e w' ⟨rfl, rfl⟩) | (go_at_call 117; (with_reducible refine (D1.out _).mono ?_); rintro e w' ⟨rfl, rfl⟩))
      go_roundw
      case rel => exact ⟨j + 1, d, by omega, by omega, by omega, HX.out.symm, by rw [c1], rfl, by first | rfl | trivial⟩
      case measure => simp [intOf]; omega
    · have v2 : (x0 == 40) = false := by simpa using v0
      by_cases v3 : x0 = 42
      · have v1 : (x1 == 41) = false := by simp; exact fun h => u2 ⟨v3, h⟩
        subst v3
        clear u1 u2
        go_wp2_with (first | (go_at_call 117; (with_reducible refine (D0.out _).mono ?_); rintro e w' ⟨rfl, rfl⟩) | (go_at_call 117; (with_reducible refine (D1.out _).mono ?_); rintro e w' ⟨rfl, rfl⟩))
        go_roundw
        case rel => exact ⟨j + 1, d, by omega, by omega, by omega, HX.out.symm, by rw [c1], rfl, by first | rfl | trivial⟩
        case measure => simp [intOf]; omega
      · have v4 : (x0 == 42) = false := by simpa using v3
        clear u1 u2 v0 v3
        go_wp2_with (first | (go_at_call 117; (with_reducible refine (D0.out _).mono ?_); rintro e w' ⟨rfl, rfl⟩) | (go_at_call 117; (with_reducible refine (D1.out _).mono ?_); rintro e w' ⟨rfl, rfl⟩))
        go_roundw
        case rel => exact ⟨j + 1, d, by omega, by omega, by omega, HX.out.symm, by rw [c1], rfl, by first | rfl | trivial⟩
        case measure => simp [intOf]; omega
end Go.Proofs.YtagcfgoofiibfaaGreatDoor
set_option linter.unusedVariables false
namespace Go.Proofs.YtagcfgoofiibfaaGreatDoor
open Go Go.RowKit

theorem row_push0 {w wr w1 : World} {so : Value} {m : Nat} {xs : List Value} {ob : Obj} (HR : wr.ownsRow w.heap.size 5 1 so m xs) (HB : Below w.heap.size w wr)
    (hg : (wr.alloc ob).grownBy w1 so.ownBlock) : Below w.heap.size w w1 := by
  have h2 : Below w.heap.size w (wr.alloc ob) := HB.alloc HB.size _
  exact h2.grown hg h2.size (fun k hk => (HR.lt k hk).1)
/-- what the reference's reader of a string answers -/
def quoV : Except Int Tk → Value
  | .error e => .tuple #[.string ⟨#[]⟩, .int .i64 0, .int .i64 e]
  | .ok p => .tuple #[.string p.s, .int .i64 (p.en : Int), .int .i64 0]
theorem escF_no0 {b c : Int} (h : escF b = some c) : c ≠ 0 := by
  unfold escF at h
  repeat' split at h
  all_goals first | (injection h with h; omega) | cases h

set_option maxRecDepth 100000 in
set_option maxHeartbeats 3200000 in
/-- quoted -/
theorem c124 (s : ByteArray) (i : Nat) (w : World) (hi : i < s.size) (hsz : s.size ≤ 1073741824) :
    Calls Tryz.prog 124 #[.string s, .int .i64 (i : Int)] w fun e w' => e = .returned (quoV (quo s i (s.size + 1 - i) 1 [])) ∧ Below w.heap.size w w' := by
  obtain ⟨ii, hi0, hz0, hz1, hz2⟩ := info_parts Tryz.info5
  obtain ⟨R, hR⟩ : ∃ R, quo s i (s.size + 1 - i) 1 [] = R := ⟨_, rfl⟩
  rw [hR]
  have HR0 := Lib.hid hR
  have HI := Lib.hid hi
  have HSZ := Lib.hid hsz
  have m1 : IntKind.i64.wrap ((i : Int) + 1) = (i : Int) + 1 := IntWalk.i64_in _ (by omega)
  clear hR hi hsz
  go_enter Tryz.func124, Tryz.ntmps124
  go_wp2
  go_loopw [1, 7] (fun s1 so wr => ∃ (k j f : Nat) (o : List UInt8), j = i + k ∧ 1 ≤ k ∧ j ≤ s.size + 1 ∧ o.length ≤ k ∧ s.size + 2 ≤ j + f ∧ s1 = .int .i64 (j : Int) ∧ wr.ownsRow w.heap.size 5 1 so o.length (byteVals o) ∧
      Below w.heap.size w wr ∧ quo s i f k o = R) (fun s1 _ _ => s.size + 2 - (intOf s1).toNat)
  case atStart => exact ⟨1, i + 1, s.size + 1 - i, [], rfl, by omega, by have := HI.out; omega, by simp, by have := HI.out; omega, by simp, World.ownsRow_nil _ _ _ _, Below.refl _ _, HR0.out⟩
  case round =>
    obtain ⟨k, j, f, o, hjk, hk1, hj, ho, hf, rfl, hrow, hB, hq⟩ := hrel
    obtain ⟨sa, cap, rfl⟩ := row_form hrow
    have hcv := conv_row wr _ _ _ hrow
    have HQ := Lib.hid hq
    have HB := Lib.hid hB
    have HR := Lib.hid hrow
    have HO := Lib.hid ho
    have HK := Lib.hid hk1
    have HF := Lib.hid hf
    have hSZ := HSZ.out
    clear hq hB hrow ho hk1
    have m2 : IntKind.i64.wrap ((j : Int) + 1) = (j : Int) + 1 := IntWalk.i64_in _ (by omega)
    have m3 : IntKind.i64.wrap ((j : Int) + 1 + 1) = (j : Int) + 1 + 1 := IntWalk.i64_in _ (by omega)
    by_cases hlt : j < s.size
    case neg =>
      have hjz : ¬ ((j : Int) < (s.size : Int)) := by omega
      have hre : R = .error 21 := by
        rw [← HQ.out]
        rcases f with _ | f
        · rfl
        · simp only [quo]; rw [if_pos (by omega)]
      subst hre
      clear hcv hjk hf
      go_wp2
      go_ret3
      exact ⟨rfl, HB.out⟩
    obtain ⟨f, rfl⟩ : ∃ f', f = f' + 1 := ⟨f - 1, by omega⟩
    have hq := HQ.out
    simp only [quo] at hq
    rw [if_neg (by omega), ← hjk] at hq
    have hjz : (j : Int) < (s.size : Int) := by omega
    have h0 : (0 : Int) ≤ (j : Int) := by omega
    have hb := bt_get s j hlt
    have hy0 := bt_lo s j
    have hy9 := bt_hi s j
    have hz : bt s (i + (k + 1)) = bt s (j + 1) := by rw [hjk, Nat.add_assoc]
    rw [hz] at hq
    obtain ⟨y, hy⟩ : ∃ y, bt s j = y := ⟨_, rfl⟩
    obtain ⟨z, hzz⟩ : ∃ z, bt s (j + 1) = z := ⟨_, rfl⟩
    rw [hy] at hb hq hy0 hy9
    rw [hzz] at hq
    have C7 := Lib.hid (fun W => c117p s j 1 ((j : Int) + 1) z W (by omega) hzz)
    have hzb : z ≠ 0 → j + 1 < s.size := fun hn => by
      rcases Nat.lt_or_ge (j + 1) s.size with q | q
      · exact q
      · exact absurd ((bt_out s (j + 1) q).symm.trans hzz).symm hn
    have HZB := Lib.hid hzb
    have HJK := Lib.hid hjk
    have HLT := Lib.hid hlt
    clear hjk hz hzb hy hzz hf
    by_cases y34 : y = 34
    · subst y34
      rw [if_pos rfl] at hq
      by_cases h5 : 200 < o.length
      · rw [if_pos h5] at hq
        subst hq
        have h5' : (200 : Int) < (o.length : Int) := by omega
        clear hcv
        go_wp2
        go_ret3
        exact ⟨rfl, HB.out⟩
      · rw [if_neg h5] at hq
        subst hq
        have h5' : ¬ ((200 : Int) < (o.length : Int)) := by omega
        go_wp2
        go_ret3
        refine ⟨?_, HB.out⟩
        show Ending.returned (.tuple #[.string ⟨o.toArray⟩, .int .i64 ((j : Int) + 1), .int .i64 0]) = .returned (.tuple #[.string ⟨o.toArray⟩, .int .i64 ((i + (k + 1) : Nat) : Int), .int .i64 0])
        rw [show ((i + (k + 1) : Nat) : Int) = (j : Int) + 1 by have := HJK.out; omega]
    rw [if_neg y34] at hq
    have e34 : (y == 34) = false := by simpa using y34
    by_cases y92 : y = 92
    · subst y92
      rw [if_pos rfl] at hq
      rcases he : escF z with _ | c
      · rw [he] at hq
        subst hq
        have C31 := Lib.hid (fun W => c131 z W)
        rw [he] at C31
        clear hcv he
        go_wp2_with (first | (go_at_call 117; ((with_reducible refine (C7.out _).mono ?_); rintro e w' ⟨rfl, rfl⟩)) | (go_at_call 131; ((with_reducible refine (C31.out _).mono ?_); rintro e w' ⟨rfl, rfl⟩)))
        go_ret3
        exact ⟨rfl, HB.out⟩
      · rw [he] at hq
        have hcb := escF_bd _ _ he
        have hc0 := escF_no0 he
        have hzn : z ≠ 0 := by intro e; subst e; rw [show escF 0 = none from by decide] at he; cases he
        have hjs := HZB.out hzn
        have C31 := Lib.hid (fun W => c131 z W)
        rw [he] at C31
        simp only [] at hq
        rw [if_neg (by have := HJK.out; omega)] at hq
        have HQ2 := Lib.hid hq
        have HCB := Lib.hid hcb
        have HJS := Lib.hid hjs
        have ec : (c == 0) = false := by simpa using hc0
        clear hcv he hq hc0 hzn hjs HQ
        go_wp2_with (first | (go_at_call 117; ((with_reducible refine (C7.out _).mono ?_); rintro e w' ⟨rfl, rfl⟩)) | (go_at_call 131; ((with_reducible refine (C31.out _).mono ?_); rintro e w' ⟨rfl, rfl⟩)) | (at_builtin; refine wpList_append_lies _ rfl _ _ _ rfl w.heap.size 5 ii _ 1 1 Tryz.underlying81 hi0 hz0 hz1 hz2 rfl (by omega) _ o.length (byteVals o) rfl ((HR.out).alloc _) ⟨wr.heap.size, 0, none⟩ 1 1 [.int .u8 c] rfl rfl (World.news_of_block (cs := #[.int .u8 c]) (t := 5) (fr := (0, 0)) (heap_alloc_new _ _)) (by simp [Value.oneCell']) (by omega) (by have := HO.out; have := HJK.out; have := HLT.out; unfold maxLen; omega) (by have := HO.out; have := HJK.out; have := HLT.out; omega) (by have := (HB.out).size; simp; omega) _ rfl ?_; intro gg cap1 w1 hown1 hgrow hat hlt; have hown1 := Lib.hid hown1; have hgrow := Lib.hid hgrow; have hat := Lib.hid hat))
        go_roundw
        case rel =>
          refine ⟨k + 2, j + 2, f, o ++ [c.toNat.toUInt8], by have := HJK.out; omega, by omega, by have := HJS.out; omega, by have := HO.out; simp; omega, by have := HF.out; omega, by go_num, ?_, row_push0 HR.out HB.out hgrow.out, HQ2.out⟩
          rw [byteVals_snoc _ _ HCB.out.1 HCB.out.2, List.length_append]; exact hown1.out
        case measure => have := HJS.out; simp [intOf]; omega
    rw [if_neg y92] at hq
    have e92 : (y == 92) = false := by simpa using y92
    by_cases hr : y < 32 ∨ 126 < y
    · rw [if_pos hr] at hq
      subst hq
      by_cases h32 : y < 32
      · clear hcv hr
        go_wp2
        go_ret3
        exact ⟨rfl, HB.out⟩
      · have h126 : 126 < y := by omega
        clear hcv hr
        go_wp2
        go_ret3
        exact ⟨rfl, HB.out⟩
    rw [if_neg hr] at hq
    have h32 : ¬ (y < 32) := by omega
    have h126 : ¬ (126 < y) := by omega
    have HQ2 := Lib.hid hq
    have HY := Lib.hid (And.intro hy0 hy9)
    clear hcv hq hr HQ
    go_wp2_with (first | (at_builtin; refine wpList_append_lies _ rfl _ _ _ rfl w.heap.size 5 ii _ 1 1 Tryz.underlying81 hi0 hz0 hz1 hz2 rfl (by omega) _ o.length (byteVals o) rfl ((HR.out).alloc _) ⟨wr.heap.size, 0, none⟩ 1 1 [.int .u8 y] rfl rfl (World.news_of_block (cs := #[.int .u8 y]) (t := 5) (fr := (0, 0)) (heap_alloc_new _ _)) (by simp [Value.oneCell']) (by omega) (by have := HO.out; have := HJK.out; have := HLT.out; unfold maxLen; omega) (by have := HO.out; have := HJK.out; have := HLT.out; omega) (by have := (HB.out).size; simp; omega) _ rfl ?_; intro gg cap1 w1 hown1 hgrow hat hlt; have hown1 := Lib.hid hown1; have hgrow := Lib.hid hgrow; have hat := Lib.hid hat))
    go_roundw
    case rel =>
      refine ⟨k + 1, j + 1, f, o ++ [y.toNat.toUInt8], by have := HJK.out; omega, by omega, by have := HLT.out; omega, by have := HO.out; simp; omega, by have := HF.out; omega, by go_num, ?_, row_push0 HR.out HB.out hgrow.out, HQ2.out⟩
      rw [byteVals_snoc _ _ HY.out.1 HY.out.2, List.length_append]; exact hown1.out
    case measure => have := HLT.out; simp [intOf]; omega
end Go.Proofs.YtagcfgoofiibfaaGreatDoor
set_option linter.unusedVariables false
namespace Go.Proofs.YtagcfgoofiibfaaGreatDoor
open Go Go.RowKit Go.Maps Go.Sort

/-- strings in a row, to be read -/
def StrAt (w : World) (v : Value) (L : List (List UInt8)) : Prop :=
  ∃ g cap, v = .slice (some ⟨g, 0, none⟩) L.length cap ∧ g < w.heap.size ∧ L.length ≤ cap ∧ cap ≤ maxLen ∧ ∀ (j : Nat) (x : List UInt8), L[j]? = some x → w.cell? ⟨g, j, none⟩ = some (.string ⟨x.toArray⟩)
theorem StrAt.below {w w' : World} {v : Value} {L : List (List UInt8)} (h : StrAt w v L) (hb : Below w.heap.size w w') : StrAt w' v L := by
  obtain ⟨g, cap, h1, h2, h3, h4, h5⟩ := h
  exact ⟨g, cap, h1, Nat.lt_of_lt_of_le h2 hb.size, h3, h4, fun j x hx => (hb.cell (p := ⟨g, j, none⟩) h2).trans (h5 j x hx)⟩
theorem StrRow.toAt {B : Nat} {w : World} {v : Value} {L : List (List UInt8)} (h : StrRow B w v L) (hp : 0 < L.length) : StrAt w v L := by
  have hh : w.ownsRow B 9 1 v L.length (L.map encStr) := h
  rcases hh.2 with ⟨rfl, h0⟩ | ⟨b, cap, cur, rfl, _, hg, hc, hm, hs, ht⟩
  · omega
  · refine ⟨b, cap, rfl, lt_of_blk hg, hc, hm, fun j x hx => ?_⟩
    have := World.ownsRow.cells hh (g := b) rfl j (encStr x) (by rw [List.getElem?_map, hx]; rfl)
    rw [addr_add] at this
    exact this
/-- a row of strings that was made -/
theorem StrAt.made {w : World} {g : Nat} {L : List (List UInt8)} {cs : Array Value} {T : TypeId} {fz : Nat × Nat} (hb : w.heap[g]? = some (.cells cs T fz)) (hn : L.length ≤ maxLen) (hc : ∀ (j : Nat) (x : List UInt8), L[j]? = some x → cs[j]? = some (.string ⟨x.toArray⟩)) : StrAt w (.slice (some ⟨g, 0, none⟩) L.length L.length) L :=
  ⟨g, L.length, rfl, lt_of_blk hb, Nat.le_refl _, hn, fun j x hx => by rw [cell_of_row _ _ _ _ _ _ hb]; exact hc j x hx⟩

set_option maxRecDepth 100000 in
set_option maxHeartbeats 1600000 in
/-- slices.Equal of two rows of the same strings -/
theorem c42 (v1 v2 : Value) (L : List (List UInt8)) (w : World) (h1 : StrAt w v1 L) (h2 : StrAt w v2 L) : Calls Tryz.prog 42 #[v1, v2] w fun e w' => e = .returned (.bool true) ∧ Below w.heap.size w w' := by
  obtain ⟨g1, c1, rfl, b1, l1, m1, k1⟩ := h1
  obtain ⟨g2, c2, rfl, b2, l2, m2, k2⟩ := h2
  have K1 := Lib.hid k1
  have K2 := Lib.hid k2
  have hmx : (maxLen : Nat) = 9223372036854775807 := rfl
  obtain ⟨n, hn⟩ : ∃ n, L.length = n := ⟨_, rfl⟩
  have HN := Lib.hid hn
  rw [hn] at l1 l2 ⊢
  have hnb : (n : Int) ≤ 9223372036854775807 := by omega
  have q1 : (n : Int) ≤ (c1 : Int) := by omega
  have q2 : (n : Int) ≤ (c2 : Int) := by omega
  have B1 := Lib.hid b1
  have B2 := Lib.hid b2
  clear k1 k2 hn b1 b2 m1 m2 hmx l1 l2
  go_enter Tryz.func42, Tryz.ntmps42
  go_wp2
  go_loopw [13] (fun s13 wr => ∃ k : Nat, k ≤ n ∧ s13 = .int .i64 (k : Int) ∧ Below w.heap.size w wr) (fun s13 _ => n - (intOf s13).toNat)
  case atStart => exact ⟨0, Nat.zero_le _, rfl, Below.refl _ _⟩
  case round =>
    obtain ⟨k, hk, rfl, hB⟩ := hrel
    have HB := Lib.hid hB
    by_cases hlt : k < n
    · obtain ⟨x, hx⟩ : ∃ x, L[k]? = some x := ⟨_, List.getElem?_eq_getElem (by have := HN.out; omega)⟩
      have e1 := (hB.cell (p := ⟨g1, k, none⟩) B1.out).trans (K1.out k x hx)
      have e2 := (hB.cell (p := ⟨g2, k, none⟩) B2.out).trans (K2.out k x hx)
      obtain ⟨X, hX⟩ : ∃ X : ByteArray, (⟨x.toArray⟩ : ByteArray) = X := ⟨_, rfl⟩
      rw [hX] at e1 e2
      have hkz : (k : Int) < (n : Int) := by omega
      have h0 : (0 : Int) ≤ (k : Int) := by omega
      have hne : (!(X.toList == X.toList)) = false := by simp
      have HLT := Lib.hid hlt
      clear hX hx hlt hB
      go_wp2
      go_quiet (fail)
      go_wp2
      go_roundw
      case rel => exact ⟨k + 1, HLT.out, by go_num, HB.out.trans ((Dr.below (Dr.here _ _) _).mono HB.out.size)⟩
      case measure => have := HLT.out; simp [intOf]; omega
    · have hkz : ¬ ((k : Int) < (n : Int)) := by omega
      clear hB
      go_wp2
      go_ret
      exact ⟨rfl, HB.out⟩

theorem words_same : wordsS = wordsL := by
  unfold wordsS
  refine List.mergeSort_of_pairwise ?_
  have : wordsL.Pairwise (fun a b => leB a b = true) := by decide +kernel
  exact this
set_option maxRecDepth 100000 in
set_option maxHeartbeats 1600000 in
/-- Words -/
theorem c44 (w : World) : Calls Tryz.prog 44 #[] w fun e w' => e = .returned (.slice (some ⟨w.heap.size, 0, none⟩) 35 35) ∧ StrAt w' (.slice (some ⟨w.heap.size, 0, none⟩) 35 35) wordsL ∧ Below w.heap.size w w' := by
  go_enter Tryz.func44, Tryz.ntmps44
  go_wp2
  go_ret
  refine ⟨rfl, StrAt.made (L := wordsL) (heap_alloc_new w _) (by decide) ?_, (Below.refl _ _).alloc (Nat.le_refl _) _⟩
  intro j x hx
  have hj : j < 35 := (List.getElem?_eq_some_iff.1 hx).1
  have hall : (List.range 35).all (fun j => match wordsL[j]? with | some x => true | none => false) = true := by decide +kernel
  have : ∀ cs : List Value, cs = wordsL.map (fun x => Value.string ⟨x.toArray⟩) → cs.toArray[j]? = some (.string ⟨x.toArray⟩) := fun cs e => by
    subst e; rw [List.getElem?_toArray, List.getElem?_map, hx]; rfl
  exact this _ (by kernel_rfl)
end Go.Proofs.YtagcfgoofiibfaaGreatDoor
set_option linter.unusedVariables false
namespace Go.Proofs.YtagcfgoofiibfaaGreatDoor
open Go Go.RowKit Go.Maps Go.Sort

theorem seq_no {x : List UInt8} {s : ByteArray} (h : x ≠ s.data.toList) : ((⟨x.toArray⟩ : ByteArray).toList == s.toList) = false := by
  rcases hq : ((⟨x.toArray⟩ : ByteArray).toList == s.toList) with _ | _
  · rfl
  · have := str_eq (eq_of_beq hq)
    exact absurd (by rw [← this]) h
theorem seq_yes {x : List UInt8} {s : ByteArray} (h : x = s.data.toList) : (⟨x.toArray⟩ : ByteArray) = s := by
  subst h; rfl

set_option maxRecDepth 100000 in
set_option maxHeartbeats 1600000 in
/-- isWord -/
theorem c129 (s : ByteArray) (w : World) : Calls Tryz.prog 129 #[.string s] w fun e w' => e = .returned (.bool (isWord s)) ∧ Below w.heap.size w w' := by
  have hw : isWord s = wordsL.contains s.data.toList := rfl
  obtain ⟨L, hL⟩ : ∃ L, wordsL = L := ⟨_, rfl⟩
  have hn : L.length = 35 := by rw [← hL]; decide
  have C44 := Lib.hid (fun W => c44 W)
  rw [hL] at C44 hw
  have HN := Lib.hid hn
  have HW := Lib.hid hw
  clear hL hn hw
  go_enter Tryz.func129, Tryz.ntmps129
  go_wp2_with (go_at_call 44; ((with_reducible refine (C44.out _).mono ?_); rintro e w1 ⟨rfl, hr, hb⟩; have HR := Lib.hid hr; have HB := Lib.hid hb; clear hr hb))
  go_loopw [4] (fun s4 wr => ∃ k : Nat, k ≤ 35 ∧ (∀ j x, j < k → L[j]? = some x → x ≠ s.data.toList) ∧ s4 = .int .i64 (k : Int) ∧ wr = w1) (fun s4 _ => 35 - (intOf s4).toNat)
  case atStart => exact ⟨0, Nat.zero_le _, fun j x hj => by omega, rfl, rfl⟩
  case round =>
    obtain ⟨k, hk, hno, rfl, rfl⟩ := hrel
    have HNO := Lib.hid hno
    clear hno
    by_cases hlt : k < 35
    · obtain ⟨x, hx⟩ : ∃ x, L[k]? = some x := ⟨_, List.getElem?_eq_getElem (by have := HN.out; omega)⟩
      obtain ⟨g, cap, he, _, _, _, hc⟩ := HR.out
      injection he with e1 e2 e3
      injection e1 with e1
      injection e1 with e1
      subst e1
      have hcx := hc k x hx
      have hkz : (k : Int) < 35 := by omega
      have h0 : (0 : Int) ≤ (k : Int) := by omega
      have HX := Lib.hid hx
      have HLT := Lib.hid hlt
      by_cases hxs : x = s.data.toList
      · have hX := seq_yes hxs
        rw [hX] at hcx
        have hc2 : isWord s = true := by rw [HW.out, ← hxs]; simpa using List.mem_of_getElem? hx
        clear hc hx hlt hxs hX
        go_wp2
        go_ret
        exact ⟨rfl, HB.out⟩
      · have hne := seq_no hxs
        obtain ⟨X, hX⟩ : ∃ X : ByteArray, (⟨x.toArray⟩ : ByteArray) = X := ⟨_, rfl⟩
        rw [hX] at hcx hne
        have HXS := Lib.hid hxs
        clear hc hx hlt hxs hX
        go_wp2
        go_roundw
        case rel =>
          refine ⟨k + 1, HLT.out, fun j y hj hy => ?_, by go_num, by first | rfl | trivial⟩
          by_cases hjk : j = k
          · subst hjk; rw [HX.out] at hy; injection hy with hy; rw [← hy]; exact HXS.out
          · exact HNO.out j y (by omega) hy
        case measure => have := HLT.out; simp [intOf]; omega
    · have hkz : ¬ ((k : Int) < 35) := by omega
      have hc2 : isWord s = false := by
        rw [HW.out]
        rcases hq : L.contains s.data.toList with _ | _
        · rfl
        · rw [List.contains_iff_mem] at hq
          obtain ⟨j, hj, hje⟩ := List.mem_iff_getElem.1 hq
          exact absurd hje (HNO.out j _ (by have := HN.out; omega) (List.getElem?_eq_getElem hj))
      have HC2 := Lib.hid hc2
      clear hc2
      go_wp2
      go_ret
      exact ⟨ret_bool (a := false) HC2.out.symm, HB.out⟩

/-- the signs of the reference: those with several spellings, and those with one -/
def rows14 : List (List (List UInt8)) := [[[47, 92], [92, 108, 97, 110, 100]], [[92, 47], [92, 108, 111, 114]], [[126], [92, 108, 110, 111, 116], [92, 110, 101, 103]], [[60, 61, 62], [92, 101, 113, 117, 105, 118]], [[35], [47, 61]], [[60, 61], [61, 60], [92, 108, 101, 113]], [[62, 61], [92, 103, 101, 113]], [[92, 99, 117, 112], [92, 117, 110, 105, 111, 110]], [[92, 99, 97, 112], [92, 105, 110, 116, 101, 114, 115, 101, 99, 116]], [[92, 88], [92, 116, 105, 109, 101, 115]], [[92, 111], [92, 99, 105, 114, 99]], [[40, 43, 41], [92, 111, 112, 108, 117, 115]], [[40, 45, 41], [92, 111, 109, 105, 110, 117, 115]], [[40, 46, 41], [92, 111, 100, 111, 116]]]
def aloneL : List (List UInt8) := [[40], [41], [91], [93], [123], [125], [60, 60], [62, 62], [93, 95], [62, 62, 95], [44], [58], [59], [46], [95], [33], [64], [39], [61, 61], [124, 45, 62], [45, 62], [60, 45], [58, 61], [46, 46], [46, 46, 46], [124], [124, 45], [45, 124], [61, 62], [61], [60], [62], [43], [45], [42], [47], [37], [94], [92, 100, 105, 118], [64, 64], [58, 62], [92], [92, 105, 110], [92, 110, 111, 116, 105, 110], [92, 115, 117, 98, 115, 101, 116, 101, 113], [92, 115, 117, 112, 115, 101, 116, 101, 113], [92, 65], [92, 69], [92, 65, 65], [92, 69, 69], [91, 93], [60, 62], [126, 62], [92, 99, 100, 111, 116], [92, 115, 113, 115, 117, 98, 115, 101, 116, 101, 113], [92, 115, 113, 99, 117, 112], [92, 115, 113, 99, 97, 112], [92, 112, 114, 101, 99], [92, 115, 117, 99, 99], [92, 115, 105, 109], [92, 115, 116, 97, 114], [92, 98, 117, 108, 108, 101, 116], [43, 43], [45, 45], [42, 42], [47, 47], [124, 124], [38], [38, 38], [36], [36, 36], [63, 63], [37, 37], [35, 35], [94, 94]]
def rowsL : List (List (List UInt8)) := rows14 ++ aloneL.map fun x => [x]

theorem Tryz.underlying117 : Tryz.prog.underlying 117 = some (.slice 46) := by kernel_rfl
theorem Tryz.info46 : (Tryz.prog.info? 46).map (fun i => (i.zero, i.size, i.bytes)) = some (some (.slice none 0 0), 1, 24) := by kernel_rfl

/-- strings in a block of their own -/
def StrBlk (w : World) (v : Value) (L : List (List UInt8)) : Prop :=
  ∃ g, v = .slice (some ⟨g, 0, none⟩) L.length L.length ∧ w.heap[g]? = some (.cells (L.map encStr).toArray 9 (0, 0))
theorem StrBlk.below {w w' : World} {v : Value} {L : List (List UInt8)} (h : StrBlk w v L) (hb : Below w.heap.size w w') : StrBlk w' v L := by
  obtain ⟨g, h1, h2⟩ := h
  exact ⟨g, h1, (hb.block g (lt_of_blk h2)).trans h2⟩
theorem StrBlk.toAt {w : World} {v : Value} {L : List (List UInt8)} (h : StrBlk w v L) (hn : L.length ≤ maxLen) : StrAt w v L := by
  obtain ⟨g, rfl, h2⟩ := h
  exact StrAt.made h2 hn (fun j x hx => by rw [List.getElem?_toArray, List.getElem?_map, hx]; rfl)
/-- .. a row's block turned: blocks of strings stay -/
theorem StrBlk.grown {w w' : World} {v : Value} {L : List (List UInt8)} {r : Value} {B n : Nat} {xs : List Value} (h : StrBlk w v L) (hr : w.ownsRow B 46 1 r n xs) (hg : w.grownBy w' r.ownBlock) : StrBlk w' v L := by
  obtain ⟨g, h1, h2⟩ := h
  refine ⟨g, h1, ?_⟩
  rw [hg.block g (lt_of_blk h2) ?_]
  · exact h2
  · intro e
    rcases hr.2 with ⟨rfl, _⟩ | ⟨g', cap, cur, rfl, _, hgg, _⟩
    · cases e
    · injection e with e
      have e' : g' = g := e.symm
      subst e'
      rw [h2] at hgg
      injection hgg with hgg
      injection hgg with _ hgg _
      exact absurd hgg (by decide)
structure RowsOk (w : World) (vs : List Value) (R : List (List (List UInt8))) : Prop where
  n : vs.length = R.length
  r : ∀ (i : Nat) (v : Value) (r : List (List UInt8)), vs[i]? = some v → R[i]? = some r → StrBlk w v r
theorem RowsOk.snoc {w : World} {vs : List Value} {R : List (List (List UInt8))} (h : RowsOk w vs R) {v : Value} {r : List (List UInt8)} (hv : StrBlk w v r) : RowsOk w (vs ++ [v]) (R ++ [r]) := by
  refine ⟨by simp [h.n], fun i u q hu hq => ?_⟩
  by_cases hi : i < vs.length
  · rw [List.getElem?_append_left hi] at hu
    rw [List.getElem?_append_left (by rw [← h.n]; exact hi)] at hq
    exact h.r i u q hu hq
  · rw [List.getElem?_append_right (by omega)] at hu
    rw [List.getElem?_append_right (by rw [← h.n]; omega), ← h.n] at hq
    have h0 : i - vs.length = 0 := by
      have := (List.getElem?_eq_some_iff.1 hu).1
      simp at this; omega
    rw [h0] at hu hq
    injection hu with hu
    injection hq with hq
    subst hu hq
    exact hv
theorem RowsOk.of {w w' : World} {vs : List Value} {R : List (List (List UInt8))} (h : RowsOk w vs R) (hh : ∀ v r, StrBlk w v r → StrBlk w' v r) : RowsOk w' vs R := ⟨h.n, fun i v r hv hr => hh v r (h.r i v r hv hr)⟩

def mk1 (w : World) (r : List (List UInt8)) : World := w.alloc (.cells (r.map encStr).toArray 9)
theorem mkRows : ∀ (R : List (List (List UInt8))) (w : World), (R.foldl mk1 w).heap.size = w.heap.size + R.length ∧ Below w.heap.size w (R.foldl mk1 w) ∧ ∀ (i : Nat) (r : List (List UInt8)), R[i]? = some r → (R.foldl mk1 w).heap[w.heap.size + i]? = some (.cells (r.map encStr).toArray 9 (0, 0))
  | [], w => ⟨rfl, Below.refl _ _, fun i r h => by simp at h⟩
  | r :: R, w => by
    obtain ⟨h1, h2, h3⟩ := mkRows R (mk1 w r)
    have hs : (mk1 w r).heap.size = w.heap.size + 1 := by unfold mk1; simp
    have hb : Below w.heap.size w (mk1 w r) := (Below.refl _ _).alloc (Nat.le_refl _) _
    rw [List.foldl_cons]
    refine ⟨by rw [h1, hs, List.length_cons]; omega, hb.trans (h2.mono (by omega)), fun i q hq => ?_⟩
    rcases i with _ | i
    · injection hq with hq
      subst hq
      rw [Nat.add_zero, h2.block _ (by omega)]
      exact heap_alloc_new w _
    · have := h3 i q (by simpa using hq)
      rw [hs] at this
      rw [show w.heap.size + (i + 1) = w.heap.size + 1 + i by omega]
      exact this
/-- the values of rows in blocks from b on -/
def rowVs (b : Nat) : List (List (List UInt8)) → List Value
  | [] => []
  | r :: R => .slice (some ⟨b, 0, none⟩) r.length r.length :: rowVs (b + 1) R
theorem rowVs_get : ∀ (R : List (List (List UInt8))) (b i : Nat) (v : Value) (r : List (List UInt8)), (rowVs b R)[i]? = some v → R[i]? = some r → v = .slice (some ⟨b + i, 0, none⟩) r.length r.length
  | [], b, i, v, r, h, _ => by simp [rowVs] at h
  | q :: R, b, 0, v, r, h, h2 => by
    simp [rowVs] at h h2; subst h h2; rfl
  | q :: R, b, i + 1, v, r, h, h2 => by
    have := rowVs_get R (b + 1) i v r (by simpa [rowVs] using h) (by simpa using h2)
    rw [this, show b + 1 + i = b + (i + 1) by omega]
theorem rowVs_len : ∀ (R : List (List (List UInt8))) (b : Nat), (rowVs b R).length = R.length
  | [], _ => rfl
  | r :: R, b => by simp [rowVs, rowVs_len R]
/-- the world in which the loop begins -/
def startW (w : World) : World := ((rows14.foldl mk1 w).alloc (.cells (rowVs w.heap.size rows14).toArray 46)).alloc (.cells (aloneL.map encStr).toArray 9)
structure StartOk (w W : World) : Prop where
  row : W.ownsRow w.heap.size 46 1 (.slice (some ⟨w.heap.size + 14, 0, none⟩) 14 14) 14 (rowVs w.heap.size rows14)
  ok : RowsOk W (rowVs w.heap.size rows14) rows14
  al : StrBlk W (.slice (some ⟨w.heap.size + 15, 0, none⟩) 75 75) aloneL
  b : Below w.heap.size w W
theorem start_ok (w : World) : StartOk w (startW w) := by
  obtain ⟨h1, h2, h3⟩ := mkRows rows14 w
  have hl : rows14.length = 14 := by decide
  rw [hl] at h1
  have ha : aloneL.length = 75 := by decide
  unfold startW
  obtain ⟨V, hV⟩ : ∃ V, rows14.foldl mk1 w = V := ⟨_, rfl⟩
  rw [hV] at h1 h2 h3 ⊢
  have b1 : Below V.heap.size V (V.alloc (.cells (rowVs w.heap.size rows14).toArray 46)) := (Below.refl _ _).alloc (Nat.le_refl _) _
  have n1 := heap_alloc_new V (.cells (rowVs w.heap.size rows14).toArray 46)
  obtain ⟨V1, hV1⟩ : ∃ V1, V.alloc (.cells (rowVs w.heap.size rows14).toArray 46) = V1 := ⟨_, rfl⟩
  have hs1 : V1.heap.size = w.heap.size + 15 := by rw [← hV1]; simp [h1]
  rw [hV1] at b1 n1 ⊢
  rw [h1] at n1
  have n2 := heap_alloc_new V1 (.cells (aloneL.map encStr).toArray 9)
  rw [hs1] at n2
  have hb : Below V.heap.size V (V1.alloc (.cells (aloneL.map encStr).toArray 9)) := b1.alloc b1.size _
  refine ⟨⟨?_, .inr ⟨w.heap.size + 14, 14, (rowVs w.heap.size rows14).toArray, rfl, by omega, blk_alloc n1 _, Nat.le_refl _, by decide, ?_, ?_⟩⟩, ⟨rowVs_len _ _, fun i v r hv hr => ?_⟩, ⟨w.heap.size + 15, by rw [ha], n2⟩, h2.trans (hb.mono (by omega))⟩
  · rw [rowVs_len, hl]
  · rw [List.size_toArray, rowVs_len, hl]
  · show (rowVs w.heap.size rows14).take (14 * 1) = _
    rw [List.take_of_length_le (by rw [rowVs_len, hl]; decide)]
  · have hi : i < 14 := by rw [← hl]; exact (List.getElem?_eq_some_iff.1 hr).1
    refine ⟨w.heap.size + i, rowVs_get _ _ _ _ _ hv hr, ?_⟩
    rw [hb.block _ (by omega)]
    exact h3 i r hr
/-- the signs in the world: a row of rows -/
def SignRows (w : World) (v : Value) : Prop :=
  ∃ g cap vs, v = .slice (some ⟨g, 0, none⟩) 89 cap ∧ 89 ≤ cap ∧ cap ≤ maxLen ∧ g < w.heap.size ∧ (∀ (i : Nat) (u : Value), vs[i]? = some u → w.cell? ⟨g, i, none⟩ = some u) ∧ RowsOk w vs rowsL
theorem SignRows.below {w w' : World} {v : Value} (h : SignRows w v) (hb : Below w.heap.size w w') : SignRows w' v := by
  obtain ⟨g, cap, vs, h1, h2, h3, h4, h5, h6⟩ := h
  exact ⟨g, cap, vs, h1, h2, h3, Nat.lt_of_lt_of_le h4 hb.size, fun i u hu => (hb.cell (p := ⟨g, i, none⟩) h4).trans (h5 i u hu), h6.of fun v r hv => hv.below hb⟩

set_option maxRecDepth 100000 in
set_option maxHeartbeats 6400000 in
/-- rows -/
theorem c82 (w : World) : Calls Tryz.prog 82 #[] w fun e w' => ∃ v, e = .returned v ∧ SignRows w' v ∧ Below w.heap.size w w' := by
  obtain ⟨ii, hi0, hz0, hz1, hz2⟩ := info_parts Tryz.info46
  have hst := start_ok w
  have hw15 : w.heap.size + 1 + 1 + 1 + 1 + 1 + 1 + 1 + 1 + 1 + 1 + 1 + 1 + 1 + 1 + 1 = w.heap.size + 15 := rfl
  obtain ⟨A, hA⟩ : ∃ A, aloneL = A := ⟨_, rfl⟩
  have HA := Lib.hid hA
  have hAl : A.length = 75 := by rw [← hA]; decide
  have HAL := Lib.hid hAl
  have HST := Lib.hid hst
  clear hst hA hAl
  go_enter Tryz.func82, Tryz.ntmps82
  go_wp2
  go_loopw [1, 3] (fun s1 s3 wr => ∃ (k : Nat) (vs : List Value), k ≤ 75 ∧ s3 = .int .i64 (k : Int) ∧ wr.ownsRow w.heap.size 46 1 s1 (14 + k) vs ∧ RowsOk wr vs (rows14 ++ (A.take k).map fun x => [x]) ∧ StrBlk wr (.slice (some ⟨w.heap.size + 1 + 1 + 1 + 1 + 1 + 1 + 1 + 1 + 1 + 1 + 1 + 1 + 1 + 1 + 1, 0, none⟩) 75 75) A ∧ Below w.heap.size w wr) (fun _ s3 _ => 75 - (intOf s3).toNat)
  case atStart =>
    refine ⟨0, rowVs w.heap.size rows14, Nat.zero_le _, rfl, HST.out.row, ?_, ?_, HST.out.b⟩
    · rw [List.take_zero, List.map_nil, List.append_nil]; exact HST.out.ok
    · rw [← HA.out]; exact HST.out.al
  case round =>
    obtain ⟨k, vs, hk, rfl, hrow, hok, hal, hB⟩ := hrel
    obtain ⟨sa, cap, rfl⟩ := row_form hrow
    have HR := Lib.hid hrow
    have HB := Lib.hid hB
    have HOK := Lib.hid hok
    have HALB := Lib.hid hal
    clear hrow hB hok
    by_cases hlt : k < 75
    · obtain ⟨x, hx⟩ : ∃ x, A[k]? = some x := ⟨_, List.getElem?_eq_getElem (by have := HAL.out; omega)⟩
      obtain ⟨g, he, hg⟩ := hal
      injection he with e1 e2 e3
      injection e1 with e1
      injection e1 with e1
      subst e1
      have hcx : wr.cell? ⟨w.heap.size + 1 + 1 + 1 + 1 + 1 + 1 + 1 + 1 + 1 + 1 + 1 + 1 + 1 + 1 + 1, k, none⟩ = some (.string ⟨x.toArray⟩) := by
        rw [cell_of_row _ _ _ _ _ _ hg, List.getElem?_toArray, List.getElem?_map, hx]; rfl
      obtain ⟨X, hX⟩ : ∃ X : ByteArray, (⟨x.toArray⟩ : ByteArray) = X := ⟨_, rfl⟩
      rw [hX] at hcx
      have HXX := Lib.hid hX
      have HX := Lib.hid hx
      have HLT := Lib.hid hlt
      have hkz : (k : Int) < 75 := by omega
      have h0 : (0 : Int) ≤ (k : Int) := by omega
      have hn0 : ((wr.alloc (.cells #[.string X] 9)).alloc (.cells #[.slice (some ⟨wr.heap.size, 0, none⟩) 1 1] 46)).heap[wr.heap.size]? = some (.cells #[.string X] 9 (0, 0)) := blk_alloc (heap_alloc_new wr _) _
      have hn1 : ((wr.alloc (.cells #[.string X] 9)).alloc (.cells #[.slice (some ⟨wr.heap.size, 0, none⟩) 1 1] 46)).heap[wr.heap.size + 1]? = some (.cells #[.slice (some ⟨wr.heap.size, 0, none⟩) 1 1] 46 (0, 0)) := by
        have h := heap_alloc_new (wr.alloc (.cells #[.string X] 9)) (.cells #[.slice (some ⟨wr.heap.size, 0, none⟩) 1 1] 46)
        simpa using h
      have HN0 := Lib.hid hn0
      have HN1 := Lib.hid hn1
      clear hg e2 e3 hX hx hlt hn0 hn1
      go_wp2_with (at_builtin; refine wpList_append_lies _ rfl _ _ _ rfl w.heap.size 46 ii _ 1 24 Tryz.underlying117 hi0 hz0 hz1 hz2 rfl (by omega) _ (14 + k) vs rfl (((HR.out).alloc _).alloc _) ⟨wr.heap.size + 1, 0, none⟩ 1 1 [.slice (some ⟨wr.heap.size, 0, none⟩) 1 1] rfl rfl (World.news_of_block (cs := #[.slice (some ⟨wr.heap.size, 0, none⟩) 1 1]) (t := 46) (fr := (0, 0)) HN1.out) (by simp [Value.oneCell']) (by omega) (by unfold maxLen; omega) (by omega) (by have := (HB.out).size; simp; omega) _ rfl ?_; intro gg cap1 w1 hown1 hgrow hat hlt1; have hown1 := Lib.hid hown1; have hgrow := Lib.hid hgrow; have hat := Lib.hid hat; clear hlt1)
      go_roundw
      case rel =>
        have hr2 := ((HR.out).alloc (.cells #[.string X] 9)).alloc (.cells #[.slice (some ⟨wr.heap.size, 0, none⟩) 1 1] 46)
        have hb2 : Below wr.heap.size wr ((wr.alloc (.cells #[.string X] 9)).alloc (.cells #[.slice (some ⟨wr.heap.size, 0, none⟩) 1 1] 46)) := ((Below.refl _ _).alloc (Nat.le_refl _) _).alloc (by simp) _
        refine ⟨k + 1, vs ++ [.slice (some ⟨wr.heap.size, 0, none⟩) 1 1], HLT.out, by go_num, hown1.out, ?_, (HALB.out.below hb2).grown hr2 hgrow.out, ?_⟩
        · rw [List.take_add_one, HX.out, Option.toList_some, List.map_append, ← List.append_assoc]
          refine RowsOk.snoc (HOK.out.of fun v r hv => (hv.below hb2).grown hr2 hgrow.out) (StrBlk.grown ⟨wr.heap.size, rfl, ?_⟩ hr2 hgrow.out)
          rw [HN0.out, ← HXX.out]; rfl
        · have h2 : Below w.heap.size w ((wr.alloc (.cells #[.string X] 9)).alloc (.cells #[.slice (some ⟨wr.heap.size, 0, none⟩) 1 1] 46)) := HB.out.trans (hb2.mono HB.out.size)
          exact h2.grown hgrow.out h2.size (fun q hq => (HR.out.lt q hq).1)
      case measure => have := HLT.out; simp [intOf]; omega
    · have hkz : ¬ ((k : Int) < 75) := by omega
      have hke : k = 75 := by omega
      have HKE := Lib.hid hke
      clear hal hlt hke
      go_wp2
      go_ret
      refine ⟨_, rfl, ?_, HB.out⟩
      have hrow := HR.out
      have hok := HOK.out
      have hkk := HKE.out
      subst hkk
      rcases hrow.2 with ⟨_, h0⟩ | ⟨g, cp, cur, he, _, hg, hc, hm, hsz, htk⟩
      · omega
      · have hf := World.ownsRow.cells hrow (g := g) (by rw [he]; rfl)
        show SignRows wr (.slice sa (14 + 75) cap)
        rw [he]
        refine ⟨g, cp, vs, rfl, hc, hm, lt_of_blk hg, fun i u hu => ?_, ?_⟩
        · have := hf i u hu
          rw [addr_add] at this
          exact this
        · have : rowsL = rows14 ++ (A.take 75).map fun x => [x] := by
            unfold rowsL
            rw [HA.out, List.take_of_length_le (by have := HAL.out; omega)]
          rw [this]; exact hok
end Go.Proofs.YtagcfgoofiibfaaGreatDoor
set_option linter.unusedVariables false
namespace Go.Proofs.YtagcfgoofiibfaaGreatDoor
open Go Go.RowKit Go.Maps Go.Sort

theorem Tryz.info9s : (Tryz.prog.info? 9).map (fun i => (i.zero, i.size, i.bytes)) = some (some (.string ByteArray.empty), 1, 16) := by kernel_rfl
theorem Tryz.underlying46s : Tryz.prog.underlying 46 = some (.slice 9) := by kernel_rfl

/-- Go's '>' on strings -/
def gtB (y x : List UInt8) : Bool := !Op.bytesLess y x && !(y == x)
theorem gtB_walk (y x : List UInt8) : (!Op.bytesLess (⟨y.toArray⟩ : ByteArray).toList (⟨x.toArray⟩ : ByteArray).toList && !((⟨y.toArray⟩ : ByteArray).toList == (⟨x.toArray⟩ : ByteArray).toList)) = gtB y x := by
  unfold gtB
  rw [ByteArray.toList_eq, ByteArray.toList_eq]
theorem gtB_yes {y x : List UInt8} (h : gtB y x = true) : x ≤ y := by
  unfold gtB at h
  rw [bytesLess_eq] at h
  simp only [Bool.and_eq_true, Bool.not_eq_true', decide_eq_false_iff_not] at h
  exact h.1
theorem gtB_no {y x : List UInt8} (h : gtB y x = false) : y ≤ x := by
  unfold gtB at h
  rw [bytesLess_eq] at h
  simp only [Bool.and_eq_false_iff, Bool.not_eq_false', decide_eq_true_eq] at h
  rcases h with h | h
  · exact List.le_of_lt h
  · rw [eq_of_beq h]; exact List.le_refl _
theorem set2 {α : Type} (A B : List α) (y x : α) : ((A ++ y :: x :: B).set (A.length + 1) y).set A.length x = A ++ x :: y :: B := by
  rw [List.set_append_right _ _ (by omega), show A.length + 1 - A.length = 1 by omega, List.set_append_right _ _ (by omega), Nat.sub_self]
  rfl
/-- a string put into its place among others -/
structure PutOk (L : List (List UInt8)) (x : List UInt8) (R : List (List UInt8)) : Prop where
  p : R.Perm (x :: L)
  s : L.Pairwise (fun a b => a ≤ b) → R.Pairwise (fun a b => a ≤ b)
theorem put_ok {A B : List (List UInt8)} {x : List UInt8} (hA : ∀ y, A.getLast? = some y → y ≤ x) (hB : ∀ y ∈ B, x ≤ y) : PutOk (A ++ B) x (A ++ x :: B) := by
  refine ⟨List.perm_middle, fun h => ?_⟩
  obtain ⟨h1, h2, h3⟩ := List.pairwise_append.1 h
  refine List.pairwise_append.2 ⟨h1, List.pairwise_cons.2 ⟨hB, h2⟩, fun a ha b hb => ?_⟩
  rcases List.mem_cons.1 hb with rfl | hb
  · rcases snoc_or A with rfl | ⟨A', z, rfl⟩
    · cases ha
    · have hz := hA z (by simp)
      rcases List.mem_append.1 ha with ha | ha
      · exact List.le_trans ((List.pairwise_append.1 h1).2.2 a ha z (by simp)) hz
      · simp at ha; subst ha; exact hz
  · exact h3 a ha b hb
where
  snoc_or (A : List (List UInt8)) : A = [] ∨ ∃ A' z, A = A' ++ [z] := by
    rcases A with _ | ⟨a, A⟩
    · exact .inl rfl
    · exact .inr ⟨_, _, (List.dropLast_concat_getLast (l := a :: A) (by simp)).symm⟩
theorem row_set {w : World} {B g n cap i : Nat} {xs : List Value} {u : Value} (h : w.ownsRow B 9 1 (.slice (some ⟨g, 0, none⟩) n cap) n xs) (hi : i < n) : (w.setCell ⟨g, i, none⟩ u).ownsRow B 9 1 (.slice (some ⟨g, 0, none⟩) n cap) n (xs.set i u) := by
  refine ⟨by rw [List.length_set]; exact h.1, ?_⟩
  rcases h.2 with ⟨h0, _⟩ | ⟨g', cp, cur, he, hb, hg, hc, hm, hz, ht⟩
  · cases h0
  · injection he with e1 e2 e3
    injection e1 with e1
    injection e1 with e1
    subst e1 e3
    refine .inr ⟨g, cap, cur.setIfInBounds i u, rfl, hb, heap_setCell_same _ _ _ _ _ _ hg, hc, hm, by rw [Array.size_setIfInBounds]; exact hz, ?_⟩
    rw [← ht, Array.toList_setIfInBounds, List.take_set]
theorem row_cells {w : World} {B g n cap : Nat} {M : List (List UInt8)} (h : w.ownsRow B 9 1 (.slice (some ⟨g, 0, none⟩) n cap) n (M.map encStr)) : g < w.heap.size ∧ B ≤ g ∧ n ≤ cap ∧ cap ≤ maxLen ∧ (∀ j, w.frozen? ⟨g, j, none⟩ = false) ∧ ∀ (j : Nat) (x : List UInt8), M[j]? = some x → w.cell? ⟨g, j, none⟩ = some (.string ⟨x.toArray⟩) := by
  rcases h.2 with ⟨h0, _⟩ | ⟨g', cp, cur, he, hb, hg, hc, hm, hz, ht⟩
  · cases h0
  · injection he with e1 e2 e3
    injection e1 with e1
    injection e1 with e1
    subst e1 e3
    refine ⟨lt_of_blk hg, hb, hc, hm, fun j => frozen_of_row _ _ _ _ _ hg, fun j x hx => ?_⟩
    have := World.ownsRow.cells h (g := g) rfl j (encStr x) (by rw [List.getElem?_map, hx]; rfl)
    rw [addr_add] at this
    exact this

set_option maxRecDepth 100000 in
set_option maxHeartbeats 3200000 in
/-- put -/
theorem c84 (B : Nat) (v : Value) (L : List (List UInt8)) (x : List UInt8) (w : World) (hr : w.ownsRow B 9 1 v L.length (L.map encStr)) (hB : B ≤ w.heap.size) (hn : L.length ≤ 1000) :
    Calls Tryz.prog 84 #[v, .string ⟨x.toArray⟩] w fun e w' => ∃ v' R, e = .returned v' ∧ PutOk L x R ∧ w'.ownsRow B 9 1 v' R.length (R.map encStr) ∧ Below B w w' := by
  obtain ⟨ii, hi0, hz0, hz1, hz2⟩ := info_parts Tryz.info9s
  obtain ⟨sa, cap, rfl⟩ := row_form hr
  obtain ⟨n, hln⟩ : ∃ n, L.length = n := ⟨_, rfl⟩
  rw [hln] at hr hn ⊢
  have HLN := Lib.hid hln
  have HR := Lib.hid hr
  have HBB := Lib.hid hB
  obtain ⟨X, hX⟩ : ∃ X : ByteArray, (⟨x.toArray⟩ : ByteArray) = X := ⟨_, rfl⟩
  rw [hX]
  have HX := Lib.hid hX
  have m1 : IntKind.i64.wrap ((n : Int) + 1 - 1) = (n : Int) := by rw [show (n : Int) + 1 - 1 = (n : Int) by omega]; exact IntWalk.i64_in _ (by omega)
  clear hX hr hB hln
  go_enter Tryz.func84, Tryz.ntmps84
  go_wp2_with (at_builtin; refine wpList_append_lies _ rfl _ _ _ rfl B 9 ii _ 1 16 Tryz.underlying46s hi0 hz0 hz1 hz2 rfl (by omega) _ n (L.map encStr) rfl ((HR.out).alloc _) ⟨w.heap.size, 0, none⟩ 1 1 [.string X] rfl rfl (World.news_of_block (cs := #[.string X]) (t := 9) (fr := (0, 0)) (heap_alloc_new _ _)) (by simp [Value.oneCell']) (by omega) (by unfold maxLen; omega) (by omega) (by have := HBB.out; simp; omega) _ rfl ?_; intro g cap1 w1 hown1 hgrow hat hlt1; have HO1 := Lib.hid hown1; have HG1 := Lib.hid hgrow; clear hlt1 hat hown1 hgrow)
  go_loopw [5] (fun s5 wr => ∃ A Bs : List (List UInt8), L = A ++ Bs ∧ (∀ y ∈ Bs, x ≤ y) ∧ s5 = .int .i64 (A.length : Int) ∧ wr.ownsRow B 9 1 (.slice (some ⟨g, 0, none⟩) (n + 1) cap1) (n + 1) ((A ++ x :: Bs).map encStr) ∧ Below B w wr) (fun s5 _ => (intOf s5).toNat)
  case atStart =>
    have hg : (w.alloc (.cells #[.string X] 9)).grownBy w1 (Value.slice sa n cap).ownBlock := HG1.out
    have hb : Below B w (w.alloc (.cells #[.string X] 9)) := (Below.refl _ _).alloc HBB.out _
    refine ⟨L, [], by simp, by simp, by rw [HLN.out], ?_, hb.grown hg (by have := hb.size; have := HBB.out; omega) (fun k hk => (HR.out.lt k hk).1)⟩
    have := HO1.out
    rw [← HX.out] at this
    simpa using this
  case round =>
    obtain ⟨A, Bs, hL, hBs, rfl, hrow, hb⟩ := hrel
    obtain ⟨hg, hgb, hnc, hcm, hfz, hcl⟩ := row_cells hrow
    have HROW := Lib.hid hrow
    have HB := Lib.hid hb
    have HBS := Lib.hid hBs
    have HL := Lib.hid hL
    have hlen : n = A.length + Bs.length := by have := HLN.out; rw [hL, List.length_append] at this; omega
    have hend : Bs.length + A.length + 1 = n + 1 := by omega
    rcases put_ok.snoc_or A with rfl | ⟨A', y, rfl⟩
    · have HLE := Lib.hid hlen
      clear hrow hb hBs hL hlen hcl hend hfz
      go_wp2
      go_ret
      refine ⟨_, [] ++ x :: Bs, rfl, by rw [HL.out]; exact put_ok (fun y hy => by simp at hy) HBS.out, ?_, HB.out⟩
      have := HROW.out
      have hq : (([] : List (List UInt8)) ++ x :: Bs).length = n + 1 := by have := HLE.out; simp at this ⊢; omega
      rw [hq]
      exact this
    · obtain ⟨k, hk⟩ : ∃ k, A'.length = k := ⟨_, rfl⟩
      have hcy : wr.cell? ⟨g, k, none⟩ = some (.string ⟨y.toArray⟩) := hcl k y (by rw [← hk]; simp)
      have hcx : wr.cell? ⟨g, k + 1, none⟩ = some (.string X) := by rw [← HX.out]; exact hcl (k + 1) x (by rw [← hk, List.getElem?_append_right (by simp)]; simp)
      obtain ⟨Y, hY⟩ : ∃ Y : ByteArray, (⟨y.toArray⟩ : ByteArray) = Y := ⟨_, rfl⟩
      rw [hY] at hcy
      have f0 := hfz k
      have f1 := hfz (k + 1)
      have hl1 : (((A' ++ [y]).length : Nat) : Int) = (k : Int) + 1 := by rw [List.length_append, hk]; simp
      rw [hl1]
      have hkn : k + 1 ≤ n := by rw [hlen, List.length_append, hk]; simp
      have p1 : (0 : Int) < (k : Int) + 1 := by omega
      have p2 : (0 : Int) ≤ (k : Int) := by omega
      have p3 : (k : Int) < (n : Int) + 1 := by omega
      have p4 : (k : Int) + 1 < (n : Int) + 1 := by omega
      have p5 : (0 : Int) ≤ (k : Int) + 1 := by omega
      have p6 : ((k : Int) + 1).toNat = k + 1 := by omega
      have m2 : IntKind.i64.wrap ((k : Int) + 1 - 1) = (k : Int) := by rw [show (k : Int) + 1 - 1 = (k : Int) by omega]; exact IntWalk.i64_in _ (by omega)
      have hxy : Op.bytesLess Y.toList X.toList = Op.bytesLess y x ∧ (Y.toList == X.toList) = (y == x) := by
        rw [← hY, ← HX.out, ByteArray.toList_eq, ByteArray.toList_eq]; exact ⟨rfl, rfl⟩
      obtain ⟨hx1, hx2⟩ := hxy
      have HK := Lib.hid hk
      have HY := Lib.hid hY
      have HLE := Lib.hid hlen
      have hgt : gtB y x = (!Op.bytesLess y x && !(y == x)) := rfl
      have HKN := Lib.hid hkn
      have HGB := Lib.hid hgb
      rcases hb1 : Op.bytesLess y x with _ | _
      · rcases hb2 : (y == x) with _ | _
        · have hc : gtB y x = true := by rw [hgt, hb1, hb2]; rfl
          have HC := Lib.hid hc
          rw [hb1] at hx1
          rw [hb2] at hx2
          clear hrow hb hBs hL hlen hcl hend hfz hk hY hl1 hkn hgt hc hgb hb1 hb2
          go_wp2
          go_roundw
          case rel =>
            refine ⟨A', y :: Bs, by rw [HL.out]; simp, fun z hz => ?_, by rw [HK.out], ?_, (HB.out.setCell (p := ⟨g, k + 1, none⟩) HGB.out _).setCell (p := ⟨g, k, none⟩) HGB.out _⟩
            · rcases List.mem_cons.1 hz with rfl | hz
              · exact gtB_yes HC.out
              · exact HBS.out z hz
            · have h1 := row_set (i := k) (u := .string X) (row_set (i := k + 1) (u := .string Y) HROW.out (by have := HKN.out; omega)) (by have := HKN.out; omega)
              have e : (((A' ++ [y]) ++ x :: Bs).map encStr).set (k + 1) (.string Y) = (((A' ++ [y]) ++ x :: Bs).set (k + 1) y).map encStr := by rw [List.map_set, ← HY.out]
              have e2 : ((((A' ++ [y]) ++ x :: Bs).set (k + 1) y).map encStr).set k (.string X) = ((((A' ++ [y]) ++ x :: Bs).set (k + 1) y).set k x).map encStr := by rw [← HX.out]; simp only [List.map_set]
              rw [e, e2, List.append_assoc, List.singleton_append, ← HK.out, set2] at h1
              rw [HK.out] at h1
              exact h1
          case measure => simp [intOf]
        · have hc : gtB y x = false := by rw [hgt, hb1, hb2]; rfl
          have HC := Lib.hid hc
          rw [hb1] at hx1
          rw [hb2] at hx2
          clear hrow hb hBs hL hlen hcl hend hfz hk hY hl1 hkn hgt hc hgb hb1 hb2
          go_wp2
          go_ret
          refine ⟨_, (A' ++ [y]) ++ x :: Bs, rfl, by rw [HL.out]; exact put_ok (fun z hz => by simp at hz; subst hz; exact gtB_no HC.out) HBS.out, ?_, HB.out⟩
          have := HROW.out
          rw [show ((A' ++ [y]) ++ x :: Bs).length = n + 1 by have := HLE.out; simp at this ⊢; omega]
          exact this
      · have hc : gtB y x = false := by rw [hgt, hb1]; rfl
        have HC := Lib.hid hc
        rw [hb1] at hx1
        clear hrow hb hBs hL hlen hcl hend hfz hk hY hl1 hkn hgt hc hgb hb1
        go_wp2
        go_ret
        refine ⟨_, (A' ++ [y]) ++ x :: Bs, rfl, by rw [HL.out]; exact put_ok (fun z hz => by simp at hz; subst hz; exact gtB_no HC.out) HBS.out, ?_, HB.out⟩
        have := HROW.out
        rw [show ((A' ++ [y]) ++ x :: Bs).length = n + 1 by have := HLE.out; simp at this ⊢; omega]
        exact this
end Go.Proofs.YtagcfgoofiibfaaGreatDoor
set_option linter.unusedVariables false
namespace Go.Proofs.YtagcfgoofiibfaaGreatDoor
open Go Go.RowKit Go.Maps Go.Sort

theorem rowsL_len : rowsL.length = 89 := by decide
theorem rowsL_three : ∀ r ∈ rowsL, 0 < r.length ∧ r.length ≤ 3 := by
  have h : rowsL.all (fun r => decide (0 < r.length) && decide (r.length ≤ 3)) = true := by decide +kernel
  intro r hr
  have := List.all_eq_true.1 h r hr
  simpa using this
theorem rows_perm : rowsL.flatten.Perm (signsL.map (·.1)) := by decide +kernel
theorem signs_of {R : List (List UInt8)} (hp : R.Perm rowsL.flatten) (hs : R.Pairwise (fun a b => a ≤ b)) : R = signsS := by
  have h1 : R.mergeSort leB = R := List.mergeSort_of_pairwise (hs.imp fun {a b} h => by simpa using h)
  rw [← h1]
  exact mergeSort_of_perm (hp.trans rows_perm)
theorem flat_take {R : List (List (List UInt8))} {i : Nat} {r : List (List UInt8)} (h : R[i]? = some r) : (R.take (i + 1)).flatten = (R.take i).flatten ++ r := by
  rw [List.take_add_one, h]; simp
/-- the row at a place -/
theorem SignRows.get {w : World} {g cap : Nat} {vs : List Value} (h5 : ∀ (i : Nat) (u : Value), vs[i]? = some u → w.cell? ⟨g, i, none⟩ = some u) (h6 : RowsOk w vs rowsL) {i : Nat} {r : List (List UInt8)} (hr : rowsL[i]? = some r) :
    ∃ b, w.cell? ⟨g, i, none⟩ = some (.slice (some ⟨b, 0, none⟩) r.length r.length) ∧ b < w.heap.size ∧ ∀ (j : Nat) (x : List UInt8), r[j]? = some x → w.cell? ⟨b, j, none⟩ = some (.string ⟨x.toArray⟩) := by
  obtain ⟨u, hu⟩ : ∃ u, vs[i]? = some u := ⟨_, List.getElem?_eq_getElem (by rw [h6.n]; exact (List.getElem?_eq_some_iff.1 hr).1)⟩
  obtain ⟨b, rfl, hb⟩ := h6.r i u r hu hr
  refine ⟨b, h5 i _ hu, lt_of_blk hb, fun j x hx => ?_⟩
  rw [cell_of_row _ _ _ _ _ _ hb, List.getElem?_toArray, List.getElem?_map, hx]; rfl

set_option maxRecDepth 100000 in
set_option maxHeartbeats 6400000 in
/-- Signs -/
theorem c45 (w : World) : Calls Tryz.prog 45 #[] w fun e w' => ∃ v, e = .returned v ∧ StrAt w' v signsS ∧ Below w.heap.size w w' := by
  have C82 := Lib.hid (fun W => c82 W)
  go_enter Tryz.func45, Tryz.ntmps45
  go_wp2_with (go_at_call 82; ((with_reducible refine (C82.out _).mono ?_); rintro e w1 ⟨v, rfl, hr, hb⟩; have HB0 := Lib.hid hb; obtain ⟨g, cap, vs, rfl, h89, hcm, hg, h5, h6⟩ := hr; have HG := Lib.hid hg; have H5 := Lib.hid h5; have H6 := Lib.hid h6; clear hb hg h5 h6))
  go_loopw [1, 3] (fun s1 s3 wr => ∃ (i : Nat) (R : List (List UInt8)), i ≤ 89 ∧ s3 = .int .i64 (i : Int) ∧ wr.ownsRow w1.heap.size 9 1 s1 R.length (R.map encStr) ∧ R.Perm (rowsL.take i).flatten ∧ R.Pairwise (fun a b => a ≤ b) ∧ R.length ≤ 3 * i ∧ Below w1.heap.size w1 wr) (fun _ s3 _ => 89 - (intOf s3).toNat)
  case atStart => exact ⟨0, [], Nat.zero_le _, rfl, World.ownsRow_nil _ _ _ _, by simp, List.Pairwise.nil, by simp, Below.refl _ _⟩
  case round =>
    obtain ⟨i, R, hi, rfl, hrow, hp, hs, hl, hB⟩ := hrel
    obtain ⟨sa, cp, rfl⟩ := row_form hrow
    have HB := Lib.hid hB
    have HROW := Lib.hid hrow
    have HP := Lib.hid hp
    have HS := Lib.hid hs
    have HL := Lib.hid hl
    clear hrow hp hs hl
    by_cases hlt : i < 89
    · obtain ⟨r, hr⟩ : ∃ r, rowsL[i]? = some r := ⟨_, List.getElem?_eq_getElem (by rw [rowsL_len]; exact hlt)⟩
      obtain ⟨b, k1, k2, k3⟩ := SignRows.get (cap := cap) H5.out H6.out hr
      have hr3 := (rowsL_three r (List.mem_of_getElem? hr)).2
      have hri := (hB.cell (p := ⟨g, i, none⟩) HG.out).trans k1
      have K2 := Lib.hid k2
      have K3 := Lib.hid k3
      have HR := Lib.hid hr
      obtain ⟨m, hm⟩ : ∃ m, r.length = m := ⟨_, rfl⟩
      rw [hm] at hri hr3
      have HM := Lib.hid hm
      have hiz : (i : Int) < 89 := by omega
      have h0 : (0 : Int) ≤ (i : Int) := by omega
      have HLT := Lib.hid hlt
      have HR3 := Lib.hid hr3
      clear hB k1 k2 k3 hr hm hlt hr3
      obtain ⟨nb, hnb⟩ : ∃ nb, w1.heap.size = nb := ⟨_, rfl⟩
      go_wp2
      have HRI : Hid (∀ W, Below w1.heap.size w1 W → W.cell? ⟨g, i, none⟩ = some (.slice (some ⟨b, 0, none⟩) m m)) := Lib.hid (fun W hW => by
        obtain ⟨b', q1, q2, q3⟩ := SignRows.get (cap := cap) H5.out H6.out HR.out
        have e1 := (HB.out.cell (p := ⟨g, i, none⟩) HG.out).trans q1
        rw [hri] at e1
        injection e1 with e1
        rw [(hW.cell (p := ⟨g, i, none⟩) HG.out), q1, ← e1])
      clear hri
      go_loopw [1, 4] (fun s1 s4 wq => ∃ (k : Nat) (R : List (List UInt8)), k ≤ m ∧ s4 = .int .i64 (k : Int) ∧ wq.ownsRow w1.heap.size 9 1 s1 R.length (R.map encStr) ∧ R.Perm ((rowsL.take i).flatten ++ r.take k) ∧ R.Pairwise (fun a b => a ≤ b) ∧ R.length ≤ 3 * i + k ∧ Below w1.heap.size w1 wq) (fun _ s4 _ => m - (intOf s4).toNat)
      case atStart => exact ⟨0, R, Nat.zero_le _, rfl, HROW.out, by simpa using HP.out, HS.out, by have := HL.out; omega, HB.out⟩
      case round =>
        obtain ⟨k, R2, hk, rfl, hrow2, hp2, hs2, hl2, hB2⟩ := hrel
        obtain ⟨sa2, cp2, rfl⟩ := row_form hrow2
        have hri := HRI.out _ hB2
        have HB2 := Lib.hid hB2
        have HROW2 := Lib.hid hrow2
        have HP2 := Lib.hid hp2
        have HS2 := Lib.hid hs2
        have HL2 := Lib.hid hl2
        have hr3 := HR3.out
        clear hrow2 hp2 hs2 hl2
        by_cases hkm : k < m
        · obtain ⟨x, hx⟩ : ∃ x, r[k]? = some x := ⟨_, List.getElem?_eq_getElem (by have := HM.out; omega)⟩
          have hcx := (hB2.cell (p := ⟨b, k, none⟩) K2.out).trans (K3.out k x hx)
          obtain ⟨X, hX⟩ : ∃ X : ByteArray, (⟨x.toArray⟩ : ByteArray) = X := ⟨_, rfl⟩
          have C84 : Hid (Calls Tryz.prog 84 #[.slice sa2 R2.length cp2, .string X] _ fun e w' => ∃ v' R', e = .returned v' ∧ PutOk R2 x R' ∧ w'.ownsRow w1.heap.size 9 1 v' R'.length (R'.map encStr) ∧ Below w1.heap.size _ w') := Lib.hid (by
            have := c84 w1.heap.size _ R2 x _ HROW2.out HB2.out.size (by have := HL2.out; have := HLT.out; omega)
            rw [hX] at this
            exact this)
          rw [hX] at hcx
          have HX := Lib.hid hx
          have hkz : (k : Int) < (m : Int) := by omega
          have hk0 : (0 : Int) ≤ (k : Int) := by omega
          have HKM := Lib.hid hkm
          clear hB2 hX hx hkm
          go_wp2_with (go_at_call 84; ((with_reducible refine C84.out.mono ?_); rintro e w4 ⟨v4, R4, rfl, hput, hrow4, hb4⟩; have HPUT := Lib.hid hput; have HROW4 := Lib.hid hrow4; have HB4 := Lib.hid hb4; clear hput hrow4 hb4))
          go_roundw
          case rel =>
            refine ⟨k + 1, R4, HKM.out, by go_num, HROW4.out, ?_, HPUT.out.s HS2.out, ?_, HB2.out.trans HB4.out⟩
            · rw [List.take_add_one, HX.out, Option.toList_some, ← List.append_assoc]
              refine HPUT.out.p.trans ((HP2.out.cons x).trans ?_)
              exact (List.perm_append_singleton x _).symm
            · have := HPUT.out.p.length_eq
              rw [this, List.length_cons]
              have := HL2.out
              omega
          case measure => have := HKM.out; simp [intOf]; omega
        · have hkz : ¬ ((k : Int) < (m : Int)) := by omega
          have hke : k = m := by omega
          have HKE := Lib.hid hke
          clear hB2 hkm hke
          go_wp2
          go_roundw
          case rel =>
            refine ⟨i + 1, R2, HLT.out, by go_num, HROW2.out, ?_, HS2.out, by have := HL2.out; have := HR3.out; have := HKE.out; omega, HB2.out⟩
            rw [flat_take HR.out]
            have h := HP2.out
            rw [HKE.out, ← HM.out, List.take_length] at h
            exact h
          case measure => have := HLT.out; simp [intOf]; omega
    · have hiz : ¬ ((i : Int) < 89) := by omega
      have hie : i = 89 := by omega
      have HIE := Lib.hid hie
      clear hB hlt hie
      go_wp2
      go_ret
      have hp := HP.out
      rw [HIE.out, List.take_of_length_le (by rw [rowsL_len]; omega)] at hp
      have he := signs_of hp HS.out
      have hrow := HROW.out
      rw [he] at hrow
      refine ⟨_, rfl, ?_, HB0.out.trans (HB.out.mono HB0.out.size)⟩
      have h2 := StrRow.toAt (B := w1.heap.size) (L := signsS) hrow (by unfold signsS; rw [List.length_mergeSort]; decide)
      show StrAt _ (.slice sa R.length cp) signsS
      rw [he]
      exact h2

theorem canon_rows : ∀ r ∈ rowsL, ∀ x ∈ r, ∀ h, r[0]? = some h → canonOf ⟨x.toArray⟩ = some ⟨h.toArray⟩ := by
  have q : rowsL.all (fun r => r.all fun x => (canonOf ⟨x.toArray⟩).map (fun c => c.data.toList) == r[0]?) = true := by decide +kernel
  intro r hr x hx h hh
  have := List.all_eq_true.1 (List.all_eq_true.1 q r hr) x hx
  rw [hh] at this
  have e := eq_of_beq this
  rcases hc : canonOf ⟨x.toArray⟩ with _ | c
  · rw [hc] at e; cases e
  · rw [hc] at e
    injection e with e
    rw [← e]
theorem canon_none {s : ByteArray} (h : ∀ r ∈ rowsL, ∀ x ∈ r, x ≠ s.data.toList) : canonOf s = none := by
  have q : signsL.all (fun p => rowsL.any fun r => r.contains p.1) = true := by decide +kernel
  unfold canonOf
  rw [Option.map_eq_none_iff, List.find?_eq_none]
  intro p hp
  have := List.all_eq_true.1 q p hp
  obtain ⟨r, hr, hc⟩ := List.any_eq_true.1 this
  have := h r hr p.1 (by simpa using hc)
  simpa using this

set_option maxRecDepth 100000 in
set_option maxHeartbeats 6400000 in
/-- Canon -/
theorem c41 (s : ByteArray) (w : World) : Calls Tryz.prog 41 #[.string s] w fun e w' => e = .returned (.string ((canonOf s).getD ByteArray.empty)) ∧ Below w.heap.size w w' := by
  have C82 := Lib.hid (fun W => c82 W)
  obtain ⟨V, hV⟩ : ∃ V, (canonOf s).getD ByteArray.empty = V := ⟨_, rfl⟩
  rw [hV]
  have HV := Lib.hid hV
  clear hV
  go_enter Tryz.func41, Tryz.ntmps41
  go_wp2_with (go_at_call 82; ((with_reducible refine (C82.out _).mono ?_); rintro e w1 ⟨v, rfl, hr, hb⟩; have HB0 := Lib.hid hb; obtain ⟨g, cap, vs, rfl, h89, hcm, hg, h5, h6⟩ := hr; have HG := Lib.hid hg; have H5 := Lib.hid h5; have H6 := Lib.hid h6; clear hb hg h5 h6))
  go_loopw [4] (fun s4 wr => ∃ i : Nat, i ≤ 89 ∧ s4 = .int .i64 (i : Int) ∧ (∀ (j : Nat) (r : List (List UInt8)), j < i → rowsL[j]? = some r → ∀ x ∈ r, x ≠ s.data.toList) ∧ wr = w1) (fun s4 _ => 89 - (intOf s4).toNat)
  case atStart => exact ⟨0, Nat.zero_le _, rfl, fun j r hj => by omega, rfl⟩
  case round =>
    obtain ⟨i, hi, rfl, hno, rfl⟩ := hrel
    have HNO := Lib.hid hno
    clear hno
    by_cases hlt : i < 89
    · obtain ⟨r, hr⟩ : ∃ r, rowsL[i]? = some r := ⟨_, List.getElem?_eq_getElem (by rw [rowsL_len]; exact hlt)⟩
      obtain ⟨b, hri, k2, k3⟩ := SignRows.get (cap := cap) H5.out H6.out hr
      have hr3 := rowsL_three r (List.mem_of_getElem? hr)
      obtain ⟨hd, hhd⟩ : ∃ hd, r[0]? = some hd := ⟨_, List.getElem?_eq_getElem hr3.1⟩
      have hch := k3 0 hd hhd
      have K3 := Lib.hid k3
      have HR := Lib.hid hr
      have HHD := Lib.hid hhd
      obtain ⟨HD, hHD⟩ : ∃ X : ByteArray, (⟨hd.toArray⟩ : ByteArray) = X := ⟨_, rfl⟩
      rw [hHD] at hch
      have HHH := Lib.hid hHD
      obtain ⟨m, hm⟩ : ∃ m, r.length = m := ⟨_, rfl⟩
      rw [hm] at hri hr3
      have HM := Lib.hid hm
      obtain ⟨hm1, hm3⟩ := hr3
      have hmz : (0 : Int) < (m : Int) := by omega
      have hiz : (i : Int) < 89 := by omega
      have h0 : (0 : Int) ≤ (i : Int) := by omega
      have HLT := Lib.hid hlt
      clear k2 k3 hr hm hlt hhd hHD
      go_wp2
      go_loopw [5] (fun s5 wq => ∃ k : Nat, k ≤ m ∧ s5 = .int .i64 (k : Int) ∧ (∀ (j : Nat) (x : List UInt8), j < k → r[j]? = some x → x ≠ s.data.toList) ∧ wq = wr) (fun s5 _ => m - (intOf s5).toNat)
      case atStart => exact ⟨0, Nat.zero_le _, rfl, fun j x hj => by omega, rfl⟩
      case round =>
        obtain ⟨k, hk, rfl, hno2, rfl⟩ := hrel
        have HNO2 := Lib.hid hno2
        clear hno2
        by_cases hkm : k < m
        · obtain ⟨x, hx⟩ : ∃ x, r[k]? = some x := ⟨_, List.getElem?_eq_getElem (by have := HM.out; omega)⟩
          have hcx := K3.out k x hx
          have hkz : (k : Int) < (m : Int) := by omega
          have hk0 : (0 : Int) ≤ (k : Int) := by omega
          have HX := Lib.hid hx
          have HKM := Lib.hid hkm
          by_cases hxs : x = s.data.toList
          · have hX := seq_yes hxs
            have hcn := canon_rows r (List.mem_of_getElem? HR.out) x (List.mem_of_getElem? hx) hd HHD.out
            rw [hX] at hcx hcn
            have HCN := Lib.hid hcn
            clear hX hx hkm hxs hcn
            go_wp2
            go_ret
            refine ⟨?_, HB0.out⟩
            show Ending.returned (.string HD) = _
            rw [← HV.out, HCN.out, ← HHH.out]; rfl
          · have hne := seq_no hxs
            obtain ⟨X, hX⟩ : ∃ X : ByteArray, (⟨x.toArray⟩ : ByteArray) = X := ⟨_, rfl⟩
            rw [hX] at hcx hne
            have HXS := Lib.hid hxs
            clear hX hx hkm hxs
            go_wp2
            go_roundw
            case rel =>
              refine ⟨k + 1, HKM.out, by go_num, fun j y hj hy => ?_, by first | rfl | trivial⟩
              by_cases hjk : j = k
              · subst hjk; rw [HX.out] at hy; injection hy with hy; rw [← hy]; exact HXS.out
              · exact HNO2.out j y (by omega) hy
            case measure => have := HKM.out; simp [intOf]; omega
        · have hkz : ¬ ((k : Int) < (m : Int)) := by omega
          have hke : k = m := by omega
          have HKE := Lib.hid hke
          clear hkm hke
          go_wp2
          go_roundw
          case rel =>
            refine ⟨i + 1, HLT.out, by go_num, fun j q hj hq x hx => ?_, by first | rfl | trivial⟩
            by_cases hji : j = i
            · subst hji
              rw [HR.out] at hq
              injection hq with hq
              subst hq
              obtain ⟨p, hp, hpe⟩ := List.mem_iff_getElem.1 hx
              exact HNO2.out p x (by rw [HKE.out, ← HM.out]; exact hp) (by rw [← hpe]; exact List.getElem?_eq_getElem hp)
            · exact HNO.out j q (by omega) hq x hx
          case measure => have := HLT.out; simp [intOf]; omega
    · have hiz : ¬ ((i : Int) < 89) := by omega
      have hcn : canonOf s = none := canon_none (fun r hr x hx => by
        obtain ⟨p, hp, hpe⟩ := List.mem_iff_getElem.1 hr
        exact HNO.out p r (by rw [rowsL_len] at hp; omega) (by rw [← hpe]; exact List.getElem?_eq_getElem hp) x hx)
      have HCN := Lib.hid hcn
      clear hlt hcn
      go_wp2
      go_ret
      refine ⟨?_, HB0.out⟩
      rw [← HV.out, HCN.out]; rfl
end Go.Proofs.YtagcfgoofiibfaaGreatDoor
