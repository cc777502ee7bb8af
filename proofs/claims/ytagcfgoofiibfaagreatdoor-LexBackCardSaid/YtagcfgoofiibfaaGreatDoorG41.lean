/- The lexer and what it reaches: part 41 of 41: LZ0. -/
import Derived.Test.YtagcfgoofiibfaaGreatDoorG14
import Derived.Test.YtagcfgoofiibfaaGreatDoorCards
import Derived.Test.YtagcfgoofiibfaaGreatDoorTie
import Derived.ProofKit
import Derived.LaidMore
import Derived.OpenShut
import Derived.Lay
import Derived.LaidOnce
import Derived.Lib.LaidTab
import Derived.Lib.LaidU8
import Derived.SevenTiedAt
set_option linter.unusedVariables false
set_option linter.unusedSimpArgs false
namespace Go.Proofs.YtagcfgoofiibfaaGreatDoor
open Go Go.ChangeShapes Go.WideShapes Go.ChangeAt Go.RowKit

/-- what the rows list -/
abbrev laidL : List (String × DataW Unit) := Rows.lexBytesRow.laid
theorem own : ownKnob Tryz.prog.godebug = none := by kernel_rfl
theorem space_data : (Rows.laid_strings_asciiSpace : DataW Unit) = Lib.tabData .u8 Lib.asciiSpaceTab := by kernel_rfl
theorem glob_space : Tryz.prog.globalNamed "strings.asciiSpace" = some 1 := by kernel_rfl
theorem ti_of_laid {W : World} (h : laidMetH Tryz.prog laidL W) : TI W := by
  rw [MakeChecks.laidMetH_plain _ _ _ (by kernel_rfl)] at h
  obtain ⟨g, t, cs, fuel, p, hg, hty, hv, hd⟩ := Lib.laidMet.reads h (n := "strings.asciiSpace") (d := Rows.laid_strings_asciiSpace) (by unfold laidL Rows.lexBytesRow; simp)
  rw [space_data] at hd
  obtain rfl := Option.some.inj (glob_space.symm.trans hg)
  obtain ⟨e, he⟩ : ∃ e, (Tryz.prog.globals[1]?).map (·.type) = some e ∧ Tryz.prog.underlying e = some (.array 256 5) ∧ Tryz.prog.cellsOf e = 256 := ⟨_, rfl, by kernel_rfl, by kernel_rfl⟩
  obtain rfl := Option.some.inj (he.1.symm.trans hty)
  have := Lib.cells_of_tab he.2.1 (show Tryz.prog.underlying 5 = some (.int .u8) by kernel_rfl) (by kernel_rfl) he.2.2 hd
  unfold TI Lib.TabIs
  rw [hv, ← this]
theorem start_met (os : Os) (args : Array Value) : laidMetH Tryz.prog laidL ((World.laidAll Tryz.prog os laidL).forCall (fun _ _ => 0) ⟨#[], args, []⟩).memory := by
  rw [MakeChecks.laidMetH_plain _ _ _ (by kernel_rfl)]
  exact laidMet_laidAll _ (by kernel_rfl) (by kernel_rfl)
theorem start_shaped (os : Os) : (World.laidAll Tryz.prog os laidL).Shaped Tryz.prog := World.shaped_of_ZipB (by kernel_rfl) (by kernel_rfl)
end Go.Proofs.YtagcfgoofiibfaaGreatDoor
