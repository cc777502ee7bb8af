/- The lexer and what it reaches: part 10 of 41: C9, D0, D1. -/
import Derived.Test.YtagcfgoofiibfaaGreatDoorG08
import Derived.Test.YtagcfgoofiibfaaGreatDoorG09
import Derived.Defers
import Derived.Recover
import Derived.Laws.Pointers
set_option linter.unusedVariables false
set_option linter.unusedSimpArgs false
namespace Go.Proofs.YtagcfgoofiibfaaGreatDoor
open Go.RowKit

theorem assert134 (v : Value) (w : World) : (Instr.typeAssert (.iface 134 v) 20 134 true).run Tryz.prog w = .ok (.tuple #[v, .bool true]) w := by kernel_rfl

theorem c101_world (b0 b1 b2 B : Nat) (x0 x1 x2 : Value) (at_ er : Int) (w : World)
    (h0 : w.cell? ⟨b0, 0, none⟩ = some x0) (h1 : w.cell? ⟨b1, 0, none⟩ = some x1) (h2 : w.cell? ⟨b2, 0, none⟩ = some x2)
    (n01 : b0 ≠ b1) (n02 : b0 ≠ b2) (n12 : b1 ≠ b2) (hB : B ≤ b0 ∧ B ≤ b1 ∧ B ≤ b2) (cs : Array Value) (t : TypeId) :
    (((((w.setCell ⟨b0, 0, none⟩ (.pointer none)).setCell ⟨b1, 0, none⟩ (.int .i64 at_)).setCell ⟨b2, 0, none⟩ (.int .i64 er)).alloc (.cells cs t)).drew.cell? ⟨b0, 0, none⟩ = some (.pointer none)) ∧
    (((((w.setCell ⟨b0, 0, none⟩ (.pointer none)).setCell ⟨b1, 0, none⟩ (.int .i64 at_)).setCell ⟨b2, 0, none⟩ (.int .i64 er)).alloc (.cells cs t)).drew.cell? ⟨b1, 0, none⟩ = some (.int .i64 at_)) ∧
    (((((w.setCell ⟨b0, 0, none⟩ (.pointer none)).setCell ⟨b1, 0, none⟩ (.int .i64 at_)).setCell ⟨b2, 0, none⟩ (.int .i64 er)).alloc (.cells cs t)).drew.cell? ⟨b2, 0, none⟩ = some (.int .i64 er)) ∧
    Below B w ((((w.setCell ⟨b0, 0, none⟩ (.pointer none)).setCell ⟨b1, 0, none⟩ (.int .i64 at_)).setCell ⟨b2, 0, none⟩ (.int .i64 er)).alloc (.cells cs t)).drew := by
  have l0 : b0 < w.heap.size := World.block_lt_of_cell? w _ h0
  have l1 : b1 < w.heap.size := World.block_lt_of_cell? w _ h1
  have l2 : b2 < w.heap.size := World.block_lt_of_cell? w _ h2
  have c : ∀ b, b < w.heap.size → ((((w.setCell ⟨b0, 0, none⟩ (.pointer none)).setCell ⟨b1, 0, none⟩ (.int .i64 at_)).setCell ⟨b2, 0, none⟩ (.int .i64 er)).alloc (.cells cs t)).drew.cell? ⟨b, 0, none⟩ =
      (((w.setCell ⟨b0, 0, none⟩ (.pointer none)).setCell ⟨b1, 0, none⟩ (.int .i64 at_)).setCell ⟨b2, 0, none⟩ (.int .i64 er)).cell? ⟨b, 0, none⟩ := fun b hb =>
    World.cell?_of_block (Below.heap_alloc _ _ _ (by simp [World.setCell]; omega))
  have other : ∀ (W : World) (a b : Nat) (v : Value), a ≠ b → (W.setCell ⟨b, 0, none⟩ v).cell? ⟨a, 0, none⟩ = W.cell? ⟨a, 0, none⟩ := fun W a b v hne => World.cell?_of_block (heap_setCell_other _ _ _ _ hne)
  have same : ∀ (W : World) (a : Addr) (u v : Value), W.cell? a = some u → (W.setCell a v).cell? a = some v := fun W a u v h => by first | exact World.cell?_setCell_same h | exact World.cell?_setCell_same _ _ _ h | exact World.cell?_setCell_same _ _ h
  refine ⟨?_, ?_, ?_, ?_⟩
  · rw [c b0 l0, other _ _ _ _ n02, other _ _ _ _ n01]; exact same _ _ _ _ h0
  · rw [c b1 l1, other _ _ _ _ n12]; exact same _ _ _ _ (by rw [other _ _ _ _ n01.symm]; exact h1)
  · rw [c b2 l2]; exact same _ _ _ _ (by rw [other _ _ _ _ n12.symm, other _ _ _ _ n02.symm]; exact h2)
  · exact (((((Below.refl B w).setCell hB.1 _).setCell hB.2.1 _).setCell hB.2.2 _).alloc (by simp [World.setCell]; have := hB.1; omega) _).drew

set_option maxRecDepth 100000 in
set_option maxHeartbeats 1600000 in
theorem c101_panics (b0 b1 b2 B : Nat) (x0 x1 x2 : Value) (at_ er : Int) (older : List PanicEntry) (w : World)
    (h0 : w.cell? ⟨b0, 0, none⟩ = some x0) (h1 : w.cell? ⟨b1, 0, none⟩ = some x1) (h2 : w.cell? ⟨b2, 0, none⟩ = some x2)
    (f0 : w.frozen? ⟨b0, 0, none⟩ = false) (f1 : w.frozen? ⟨b1, 0, none⟩ = false) (f2 : w.frozen? ⟨b2, 0, none⟩ = false)
    (n01 : b0 ≠ b1) (n02 : b0 ≠ b2) (n12 : b1 ≠ b2) (hB : B ≤ b0 ∧ B ≤ b1 ∧ B ≤ b2) :
    CallsD Tryz.prog 101 #[.pointer (some ⟨b0, 0, none⟩), .pointer (some ⟨b1, 0, none⟩), .pointer (some ⟨b2, 0, none⟩)] (.panicking ({ v := .iface 134 (.agg #[.int .i64 at_, .int .i64 er]), recovered := false } :: older)) w fun e u' w' =>
      e = .returned (.tuple #[]) ∧ u' = .panicking ({ v := .iface 134 (.agg #[.int .i64 at_, .int .i64 er]), recovered := true } :: older) ∧
      w'.cell? ⟨b0, 0, none⟩ = some (.pointer none) ∧ w'.cell? ⟨b1, 0, none⟩ = some (.int .i64 at_) ∧ w'.cell? ⟨b2, 0, none⟩ = some (.int .i64 er) ∧ Below B w w' := by
  have hta := assert134
  have l0 := World.block_lt_of_cell? w _ h0
  have l1 := World.block_lt_of_cell? w _ h1
  have l2 := World.block_lt_of_cell? w _ h2
  refine callsD_of_wpS Tryz.func101 rfl fun c₀ cs hu => ?_
  apply wpS_seq
  apply wpS_region
  simp [wpOpsS, go_sem, recoverD, hu, Tryz.ntmps101, Exit.thenS]
  refine wpS_of_wp ?_
  change Code.wp _ _ _ { tmps := #[.pointer (some ⟨b0, 0, none⟩), .pointer (some ⟨b1, 0, none⟩), .pointer (some ⟨b2, 0, none⟩), .iface 134 (.agg #[.int .i64 at_, .int .i64 er]), undef, undef, .iface 134 (.agg #[.int .i64 at_, .int .i64 er]), undef, undef, undef, undef, undef, undef, undef, undef, undef, undef, undef, undef, undef, undef], defers := [] } _
  go_wp2
  go_region
  all_goals go_wp2
  have hW := c101_world b0 b1 b2 B x0 x1 x2 at_ er w h0 h1 h2 n01 n02 n12 hB (#[.int .i64 at_, .int .i64 er]) 134
  generalize (((((w.setCell _ _).setCell _ _).setCell _ _).alloc _).drew) = W at hW ⊢
  simp [bodyPostS, results, Tryz.results101, hW]
end Go.Proofs.YtagcfgoofiibfaaGreatDoor
namespace Go.Proofs.YtagcfgoofiibfaaGreatDoor
open Go.RowKit

set_option maxRecDepth 100000 in
set_option maxHeartbeats 1600000 in
theorem c101_idle (b0 b1 b2 : Nat) (w : World) :
    CallsD Tryz.prog 101 #[.pointer (some ⟨b0, 0, none⟩), .pointer (some ⟨b1, 0, none⟩), .pointer (some ⟨b2, 0, none⟩)] .returning w fun e u' w' =>
      e = .returned (.tuple #[]) ∧ u' = .returning ∧ w' = w := by
  refine callsD_of_wpS Tryz.func101 rfl fun c₀ cs hu => ?_
  apply wpS_seq
  apply wpS_region
  simp [wpOpsS, go_sem, recoverD, hu, Tryz.ntmps101, Exit.thenS]
  refine wpS_of_wp ?_
  change Code.wp _ _ _ { tmps := #[.pointer (some ⟨b0, 0, none⟩), .pointer (some ⟨b1, 0, none⟩), .pointer (some ⟨b2, 0, none⟩), .nilIface, undef, undef, .nilIface, undef, undef, undef, undef, undef, undef, undef, undef, undef, undef, undef, undef, undef, undef], defers := [] } _
  go_wp2
  cases c₀
  simp_all [bodyPostS, results, Tryz.results101]
end Go.Proofs.YtagcfgoofiibfaaGreatDoor
namespace Go.Proofs.YtagcfgoofiibfaaGreatDoor
open Go.RowKit

/-- behind skip, with the tokens -/
def ScSkip (g : Nat) (s : ByteArray) (r : Except Nat (Nat × List (Nat × Nat))) (tb : Value) (ps : List Tk) (w : World) (e : Ending) (w' : World) : Prop :=
  match r with
  | .ok (j, ys) => e = .returned (.tuple #[]) ∧ SC g s j tb ps ys w' ∧ Modd g w w'
  | .error a => e = .panicked [{ v := .iface 134 (.agg #[.int .i64 (a : Int), .int .i64 22]), recovered := false }] ∧ Modd g w w'

theorem c102s (g : Nat) (s : ByteArray) (i0 : Nat) (tb : Value) (ps : List Tk) (ys0 : List (Nat × Nat)) (w : World)
    (H : SC g s i0 tb ps ys0 w) (hi : i0 ≤ s.size) (hy0 : ys0.length ≤ i0) (hsz : s.size ≤ 1073741824) :
    Calls Tryz.prog 102 #[.pointer (some ⟨g, 0, none⟩)] w (ScSkip g s (skpA s i0 ys0) tb ps w) := by
  obtain ⟨vo, vc, xs, h1, h2⟩ := H
  refine (c102 g s i0 tb vo vc ps.length xs ys0 w h1 hi hy0 hsz).mono fun e w' h => ?_
  unfold ScnSkip at h
  unfold ScSkip
  split
  · rename_i heq
    rw [heq] at h
    obtain ⟨h3, ⟨vc', h4⟩, h5⟩ := h
    exact ⟨h3, ⟨vo, vc', xs, h4, h2.modd h5⟩, h5⟩
  · rename_i heq
    rw [heq] at h
    exact h

/-- behind scan -/
def ScanTo (s : ByteArray) (p : Nat) (r : Except (Nat × Int) (List Tk × List (Nat × Nat))) (w : World) (e : Ending) (w' : World) : Prop :=
  match r with
  | .ok (ps, ys) => ∃ g i, e = .returned (.tuple #[.pointer (some ⟨g, 0, none⟩), .int .i64 0, .int .i64 0]) ∧ w.heap.size ≤ g ∧ SC g s i (.pointer (some ⟨p, 0, none⟩)) ps ys w' ∧ Below w.heap.size w w'
  | .error (a, er) => e = .returned (.tuple #[.pointer none, .int .i64 (a : Int), .int .i64 er]) ∧ Below w.heap.size w w'
end Go.Proofs.YtagcfgoofiibfaaGreatDoor
