/- The lexer and what it reaches: part 1 of 41: A0, A1. -/
import Derived.Test.YtagcfgoofiibfaaGreatDoorProg
import Derived.WalkKit
import Derived.KernelRfl
import Derived.Lib.Hide
import Derived.Deep.QuietTactic
import Derived.BigQuiet
import Derived.Deep.DeepFit
import Derived.StillTailTactics
import Derived.WalkSpells
import Derived.WalkLawsBesides
set_option linter.unusedVariables false
set_option linter.unusedSimpArgs false
namespace Go.Proofs.YtagcfgoofiibfaaGreatDoor
open Go.RowKit

/-- a letter -/
def ltr (r : Int) : Bool := (decide (65 ≤ r) && decide (r ≤ 90)) || (decide (97 ≤ r) && decide (r ≤ 122))
def dgt (r : Int) : Bool := decide (48 ≤ r) && decide (r ≤ 57)
def rnb (r : Int) : Bool := ltr r || dgt r || decide (r = 95)
def blk (r : Int) : Bool := decide (r = 32) || decide (r = 9) || decide (r = 10) || decide (r = 13)

theorem c167 (r : Int) (w : World) : Calls Tryz.prog 167 #[.int .i32 r] w fun e w' => e = .returned (.bool (ltr r)) ∧ w = w' := by
  by_cases h1 : 65 ≤ r <;> by_cases h2 : r ≤ 90 <;> by_cases h3 : 97 ≤ r <;> by_cases h4 : r ≤ 122 <;> first | (exfalso; omega) | skip
  all_goals
    go_enter Tryz.func167, Tryz.ntmps167
    go_wp2
    go_ret
    exact ⟨by simp [ltr, *], rfl⟩
end Go.Proofs.YtagcfgoofiibfaaGreatDoor
namespace Go.Proofs.YtagcfgoofiibfaaGreatDoor
open Go.RowKit

theorem ret_bool {a b : Bool} (h : a = b) : Ending.returned (.bool a) = .returned (.bool b) := by rw [h]
theorem ret_int {k : IntKind} {a b : Int} (h : a = b) : Ending.returned (.int k a) = .returned (.int k b) := by rw [h]

theorem c193 (b : Int) (h0 : 0 ≤ b) (h1 : b ≤ 255) (w : World) : Calls Tryz.prog 193 #[.int .u8 b] w fun e w' => e = .returned (.bool (ltr b)) ∧ w = w' := by
  go_enter Tryz.func193, Tryz.ntmps193
  go_wp2_with (go_at_call 167; refine (c167 _ _).mono ?_; rintro e w' ⟨rfl, rfl⟩)
  go_ret
  exact ⟨rfl, rfl⟩

theorem c194 (b : Int) (w : World) : Calls Tryz.prog 194 #[.int .u8 b] w fun e w' => e = .returned (.bool (dgt b)) ∧ w = w' := by
  by_cases h1 : 48 ≤ b <;> by_cases h2 : b ≤ 57 <;> first | (exfalso; omega) | skip
  all_goals
    go_enter Tryz.func194, Tryz.ntmps194
    go_wp2
    go_ret
    exact ⟨by simp [dgt, *], rfl⟩

theorem c154 (b : Int) (h0 : 0 ≤ b) (h1 : b ≤ 255) (w : World) : Calls Tryz.prog 154 #[.int .u8 b] w fun e w' => e = .returned (.bool (rnb b)) ∧ w = w' := by
  by_cases h2 : b = 95
  · subst h2
    have hl : ltr 95 = false := by decide
    have hd : dgt 95 = false := by decide
    go_enter Tryz.func154, Tryz.ntmps154
    go_wp2_with (first | (go_at_call 193; refine (c193 _ h0 h1 _).mono ?_; rintro e w' ⟨rfl, rfl⟩) | (go_at_call 194; refine (c194 _ _).mono ?_; rintro e w' ⟨rfl, rfl⟩))
    go_ret
    exact ⟨rfl, rfl⟩
  · rcases hl : ltr b with _ | _ <;> rcases hd : dgt b with _ | _
    all_goals
      go_enter Tryz.func154, Tryz.ntmps154
      go_wp2_with (first | (go_at_call 193; refine (c193 _ h0 h1 _).mono ?_; rintro e w' ⟨rfl, rfl⟩) | (go_at_call 194; refine (c194 _ _).mono ?_; rintro e w' ⟨rfl, rfl⟩))
      go_ret
      exact ⟨ret_bool (by simp [rnb, hl, hd, h2]), rfl⟩

theorem c148 (b : Int) (w : World) : Calls Tryz.prog 148 #[.int .u8 b] w fun e w' => e = .returned (.bool (blk b)) ∧ w = w' := by
  by_cases h1 : b = 32
  · subst h1
    go_enter Tryz.func148, Tryz.ntmps148
    go_wp2
    go_ret
    exact ⟨rfl, rfl⟩
  by_cases h2 : b = 9
  · subst h2
    go_enter Tryz.func148, Tryz.ntmps148
    go_wp2
    go_ret
    exact ⟨rfl, rfl⟩
  by_cases h3 : b = 10
  · subst h3
    go_enter Tryz.func148, Tryz.ntmps148
    go_wp2
    go_ret
    exact ⟨rfl, rfl⟩
  by_cases h4 : b = 13
  · subst h4
    go_enter Tryz.func148, Tryz.ntmps148
    go_wp2
    go_ret
    exact ⟨rfl, rfl⟩
  go_enter Tryz.func148, Tryz.ntmps148
  go_wp2
  go_ret
  exact ⟨ret_bool (by simp [blk, h1, h2, h3, h4]), rfl⟩

theorem c151 (b : Int) (w : World) : Calls Tryz.prog 151 #[.int .u8 b] w fun e w' => e = .returned (.bool (b != 10)) ∧ w = w' := by
  go_enter Tryz.func151, Tryz.ntmps151
  go_wp2
  go_ret
  exact ⟨rfl, rfl⟩

theorem c159 (b : Int) (w : World) : Calls Tryz.prog 159 #[.int .u8 b] w fun e w' => e = .returned (.bool (b == 45)) ∧ w = w' := by
  go_enter Tryz.func159, Tryz.ntmps159
  go_wp2
  go_ret
  exact ⟨rfl, rfl⟩

theorem c160 (b : Int) (w : World) : Calls Tryz.prog 160 #[.int .u8 b] w fun e w' => e = .returned (.bool (b == 61)) ∧ w = w' := by
  go_enter Tryz.func160, Tryz.ntmps160
  go_wp2
  go_ret
  exact ⟨rfl, rfl⟩

/-- what a digit is worth, -1 for what is none -/
def wrth (b : Int) : Int := if dgt b then b - 48 else if 97 ≤ b ∧ b ≤ 102 then b - 97 + 10 else if 65 ≤ b ∧ b ≤ 70 then b - 65 + 10 else -1

theorem c196 (b : Int) (h0 : 0 ≤ b) (h1 : b ≤ 255) (w : World) : Calls Tryz.prog 196 #[.int .u8 b] w fun e w' => e = .returned (.int .i64 (wrth b)) ∧ w = w' := by
  rcases hd : dgt b with _ | _
  · by_cases h2 : 97 ≤ b <;> by_cases h3 : b ≤ 102 <;> by_cases h4 : 65 ≤ b <;> by_cases h5 : b ≤ 70 <;> first | (exfalso; omega) | skip
    all_goals
      go_enter Tryz.func196, Tryz.ntmps196
      go_wp2_with (go_at_call 194; refine (c194 _ _).mono ?_; rintro e w' ⟨rfl, rfl⟩)
      go_ret
      exact ⟨ret_int (by unfold wrth; rw [hd]; simp only [Bool.false_eq_true, if_false]; (repeat' split) <;> omega), rfl⟩
  · have h2 : 48 ≤ b := by simp [dgt] at hd; exact hd.1
    go_enter Tryz.func196, Tryz.ntmps196
    go_wp2_with (go_at_call 194; refine (c194 _ _).mono ?_; rintro e w' ⟨rfl, rfl⟩)
    go_ret
    exact ⟨by simp [wrth, *], rfl⟩
end Go.Proofs.YtagcfgoofiibfaaGreatDoor
