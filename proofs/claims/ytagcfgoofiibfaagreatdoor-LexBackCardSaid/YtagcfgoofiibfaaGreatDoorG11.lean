/- The lexer and what it reaches: part 11 of 41: S2. -/
import Derived.Test.YtagcfgoofiibfaaGreatDoorG04
set_option linter.unusedVariables false
set_option linter.unusedSimpArgs false
namespace Go.Proofs.YtagcfgoofiibfaaGreatDoor
open Go.RowKit

theorem skp_bd (s : ByteArray) : ∀ (f i : Nat) (ys : List (Nat × Nat)) (j : Nat) (zs : List (Nat × Nat)), s.size - i ≤ f → i ≤ s.size → ys.length ≤ i → skp s f i ys = .ok (j, zs) → i ≤ j ∧ j ≤ s.size ∧ zs.length ≤ j
  | 0, i, ys, j, zs, _, hi, hy, h => by
    simp only [skp] at h
    injection h with h
    injection h with h1 h2
    subst h1 h2
    omega
  | f + 1, i, ys, j, zs, hf, hi, hy, h => by
    simp only [skp] at h
    split at h
    · injection h with h
      injection h with h1 h2
      subst h1 h2
      omega
    · split at h
      · have := skp_bd s f _ _ _ _ (by omega) (by omega) (by omega) h
        omega
      · split at h
        · rename_i h1
          have hb := sees_bt s i _ 92 [42] rfl h1
          have hy' := cnt_yes (fun b => b != 10) s i (by omega) (by rw [hb]; decide)
          have hl := cnt_le (fun b => b != 10) s i
          have := skp_bd s f _ _ _ _ (by omega) (by omega) (by simp; omega) h
          omega
        · split at h
          · change (match insA s i 0 with | none => _ | some j => _) = _ at h
            rcases hq : insA s i 0 with _ | q
            · rw [hq] at h; cases h
            · rw [hq] at h
              have hb := insA_bd s i 0 q (by omega) hq
              have := skp_bd s f _ _ _ _ (by omega) (by omega) (by simp; omega) h
              omega
          · injection h with h
            injection h with h1 h2
            subst h1 h2
            omega
theorem skpA_bd (s : ByteArray) (i : Nat) (ys : List (Nat × Nat)) (j : Nat) (zs : List (Nat × Nat)) (hi : i ≤ s.size) (hy : ys.length ≤ i) (h : skpA s i ys = .ok (j, zs)) : i ≤ j ∧ j ≤ s.size ∧ zs.length ≤ j :=
  skp_bd s _ i ys j zs (Nat.le_refl _) hi hy h
end Go.Proofs.YtagcfgoofiibfaaGreatDoor
