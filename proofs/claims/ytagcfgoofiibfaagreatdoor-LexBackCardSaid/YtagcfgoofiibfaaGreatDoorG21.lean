/- The lexer and what it reaches: part 21 of 41: N9. -/
import Derived.Test.YtagcfgoofiibfaaGreatDoorG20
set_option linter.unusedVariables false
set_option linter.unusedSimpArgs false
namespace Go.Proofs.YtagcfgoofiibfaaGreatDoor
open Go Go.RowKit

/-- a fit list of parts: the parts of a number below the limit -/
def Fit (l : List Int) : Prop := InB l ∧ NoZ l ∧ l.length ≤ 40

set_option maxRecDepth 100000 in
set_option maxHeartbeats 3200000 in
theorem c252 (b : Nat) (dv1 dv2 : Value) (l1 l2 : List Int) (w : World) (hb : w.heap[b]? = some (.cells #[.bool false, dv1, .bool false, dv2] 39 (0, 0))) (h1 : IntsAt w dv1 l1) (h2 : IntsAt w dv2 l2) (f1 : Fit l1) (f2 : Fit l2) :
    Calls Tryz.prog 252 #[.slice (some ⟨b, 0, none⟩) 2 2] w fun e w' => e = .returned (.int .i64 0) ∧ Below w.heap.size w w' := by
  obtain ⟨a1, cp1, rfl⟩ := row_form h1
  obtain ⟨a2, cp2, rfl⟩ := row_form h2
  have hbl := lt_of_blk hb
  have c0 : w.cell? ⟨b, 0, none⟩ = some (.bool false) := by rw [cell_of_row _ _ _ _ _ _ hb]; rfl
  have c1 : w.cell? ⟨b, 1, none⟩ = some (.slice a1 l1.length cp1) := by rw [cell_of_row _ _ _ _ _ _ hb]; rfl
  have c2 : w.cell? ⟨b, 2, none⟩ = some (.bool false) := by rw [cell_of_row _ _ _ _ _ _ hb]; rfl
  have c3 : w.cell? ⟨b, 3, none⟩ = some (.slice a2 l2.length cp2) := by rw [cell_of_row _ _ _ _ _ _ hb]; rfl
  have H1 := Lib.hid h1
  have H2 := Lib.hid h2
  have C := Lib.hid (And.intro c0 (And.intro c1 (And.intro c2 c3)))
  have HBL := Lib.hid hbl
  clear h1 h2 hb c0 c1 c2 c3 hbl
  go_enter Tryz.func252, Tryz.ntmps252
  go_wp2
  go_loopw [8] (fun s8 wr => ∃ j : Nat, j ≤ 2 ∧ s8 = .int .i64 (j : Int) ∧ Below w.heap.size w wr)
    (fun s8 _ => 2 - (intOf s8).toNat)
  case atStart => exact ⟨0, by omega, rfl, Below.refl _ _⟩
  case round =>
    obtain ⟨j, hj, rfl, hB⟩ := hrel
    obtain ⟨c0, c1, c2, c3⟩ := C.out
    have hbl := HBL.out
    have k0 := (hB.cell (p := ⟨b, 0, none⟩) hbl).trans c0
    have k1 := (hB.cell (p := ⟨b, 1, none⟩) hbl).trans c1
    have k2 := (hB.cell (p := ⟨b, 2, none⟩) hbl).trans c2
    have k3 := (hB.cell (p := ⟨b, 3, none⟩) hbl).trans c3
    have HB := Lib.hid hB
    clear hB c0 c1 c2 c3 hbl
    have hj3 : j = 0 ∨ j = 1 ∨ j = 2 := by omega
    rcases hj3 with rfl | rfl | rfl
    · have CC := Lib.hid (c141 (.slice a1 l1.length cp1) l1 _ ((H1.out.below HB.out).alloc (Obj.cells #[Value.bool false, Value.slice a1 l1.length cp1] 39)) f1.1 f1.2.1 f1.2.2)
      go_wp2_with (go_at_call 141; ((with_reducible refine CC.out.mono ?_); rintro e w' ⟨rfl, hbb⟩; have HBB := Lib.hid hbb; clear hbb))
      go_roundw
      case rel => exact ⟨1, by omega, by simp, (HB.out.alloc HB.out.size _).trans (HBB.out.mono (by have := HB.out.size; simp; omega))⟩
      case measure => simp [intOf]
    · have CC := Lib.hid (c141 (.slice a2 l2.length cp2) l2 _ ((H2.out.below HB.out).alloc (Obj.cells #[Value.bool false, Value.slice a2 l2.length cp2] 39)) f2.1 f2.2.1 f2.2.2)
      go_wp2_with (go_at_call 141; ((with_reducible refine CC.out.mono ?_); rintro e w' ⟨rfl, hbb⟩; have HBB := Lib.hid hbb; clear hbb))
      go_roundw
      case rel => exact ⟨2, by omega, by simp, (HB.out.alloc HB.out.size _).trans (HBB.out.mono (by have := HB.out.size; simp; omega))⟩
      case measure => simp [intOf]
    · go_wp2
      go_ret
      exact ⟨rfl, HB.out⟩
end Go.Proofs.YtagcfgoofiibfaaGreatDoor
