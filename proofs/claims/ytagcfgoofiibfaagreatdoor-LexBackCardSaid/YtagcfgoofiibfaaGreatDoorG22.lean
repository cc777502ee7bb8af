/- The lexer and what it reaches: part 22 of 41: O0, O1, O2. -/
import Derived.Test.YtagcfgoofiibfaaGreatDoorG21
import Derived.Test.YtagcfgoofiibfaaGreatDoorG12
import Derived.Test.YtagcfgoofiibfaaGreatDoorG09
set_option linter.unusedVariables false
set_option linter.unusedSimpArgs false
namespace Go.Proofs.YtagcfgoofiibfaaGreatDoor
open Go Go.RowKit

set_option maxRecDepth 100000 in
set_option maxHeartbeats 1600000 in
theorem c268_idle (b0 b1 : Nat) (w : World) :
    CallsD Tryz.prog 268 #[.pointer (some ⟨b0, 0, none⟩), .pointer (some ⟨b1, 0, none⟩)] .returning w fun e u' w' =>
      e = .returned (.tuple #[]) ∧ u' = .returning ∧ w' = w := by
  refine callsD_of_wpS Tryz.func268 rfl fun c₀ cs hu => ?_
  apply wpS_seq
  apply wpS_region
  simp [wpOpsS, go_sem, recoverD, hu, Tryz.ntmps268, Exit.thenS]
  refine wpS_of_wp ?_
  change Code.wp _ _ _ { tmps := #[.pointer (some ⟨b0, 0, none⟩), .pointer (some ⟨b1, 0, none⟩), undef, undef, undef, .nilIface, undef, undef, undef, undef, undef, undef], defers := [] } _
  go_wp2
  cases c₀
  simp_all [bodyPostS, results, Tryz.results268]

set_option maxRecDepth 100000 in
set_option maxHeartbeats 3200000 in
theorem c254 (p0 p1 p2 : Value) (l : List Int) (w : World) (hl : l.length ≤ 1000)
    (h : ∀ W, Below w.heap.size w W → Calls Tryz.prog 255 #[p0, p1, p2] W fun e w' => ∃ dv, e = .returned (.agg #[.bool false, dv]) ∧ IntsUp W.heap.size w' dv l ∧ Below W.heap.size W w') :
    Calls Tryz.prog 254 #[.func (.func 255) #[] #[p0, p1, p2]] w fun e w' => (∃ a n cp, e = .returned (.tuple #[.agg #[.bool false, .slice a n cp], .int .i64 (if l.length ≤ 40 then 0 else 2)]) ∧ (l.length ≤ 40 → IntsUp w.heap.size w' (.slice a n cp) l)) ∧ Below w.heap.size w w' := by
  have hmf : ∀ (fn : Fn) (first cap : Array Value) (w : World), (Instr.makeFunc fn first cap).run Tryz.prog w = .ok (.func fn first cap) w := fun _ _ _ _ => rfl
  have HH := Lib.hid h
  clear h
  go_enter_defers Tryz.func254, Tryz.ntmps254
  go_wp2_with fail
  (with_reducible refine (HH.out _ (((Below.refl _ _).alloc (Nat.le_refl _) _).alloc (by simp) _)).mono ?_)
  rintro e w1 ⟨dv, rfl, h1, hb1⟩
  have b0 : w1.heap[w.heap.size]? = some (.cells #[.bool false, .slice none 0 0] 39 (0, 0)) := (hb1.block _ (by simp; omega)).trans (blk_alloc (blk_new w _ rfl _) _)
  have b1 : w1.heap[w.heap.size + 1]? = some (.cells #[.int .i64 0] 24 (0, 0)) := (hb1.block _ (by simp)).trans (blk_new _ _ (by simp) _)
  have k0 : w1.cell? ⟨w.heap.size, 0, none⟩ = some (.bool false) := by rw [cell_of_row _ _ _ _ _ _ b0]; rfl
  have k1 : w1.cell? ⟨w.heap.size, 1, none⟩ = some (.slice none 0 0) := by rw [cell_of_row _ _ _ _ _ _ b0]; rfl
  have k2 : w1.cell? ⟨w.heap.size + 1, 0, none⟩ = some (.int .i64 0) := by rw [cell_of_row _ _ _ _ _ _ b1]; rfl
  have f0 : ∀ j, w1.frozen? ⟨w.heap.size, j, none⟩ = false := fun j => frozen_of_row _ _ _ _ _ b0
  have f1 : ∀ j, w1.frozen? ⟨w.heap.size + 1, j, none⟩ = false := fun j => frozen_of_row _ _ _ _ _ b1
  obtain ⟨a3, cp3, rfl⟩ := row_form h1
  have hbb : Below w.heap.size w w1 := (((Below.refl _ _).alloc (Nat.le_refl _) _).alloc (by simp) _).trans (hb1.mono (by simp; omega))
  have B0 := Lib.hid b0
  have B1 := Lib.hid b1
  have HB := Lib.hid hbb
  replace h1 := h1.le (show w.heap.size ≤ _ by simp; omega)
  have H1 := Lib.hid h1
  clear b0 b1 hbb h1 hb1
  by_cases hlen : l.length ≤ 40
  · have hz : ¬ ((40 : Int) < (l.length : Int)) := by omega
    go_wp2
    refine leaves_cons (f := 268) (args := #[.pointer (some ⟨w.heap.size, 0, none⟩), .pointer (some ⟨w.heap.size + 1, 0, none⟩)]) (by simp) (by simp [go_sem]) ?_
    refine (c268_idle _ _ _).mono ?_
    rintro e u' w2 ⟨rfl, rfl, hw2⟩
    have s1 := heap_setCell_same _ _ 0 _ _ (.bool false) B0.out
    have s2 := heap_setCell_same _ _ 1 _ _ (.slice a3 l.length cp3) s1
    have s3 := heap_setCell_same _ _ 0 _ _ (.bool false) s2
    have s4 := heap_setCell_same _ _ 1 _ _ (.slice a3 l.length cp3) s3
    have hne : w.heap.size + 1 ≠ w.heap.size := by omega
    have t1 := heap_setCell_same _ _ 0 _ _ (.int .i64 0) ((heap_setCell_other _ ⟨w.heap.size, 1, none⟩ _ (.slice a3 l.length cp3) hne).trans ((heap_setCell_other _ ⟨w.heap.size, 0, none⟩ _ (.bool false) hne).trans ((heap_setCell_other _ ⟨w.heap.size, 1, none⟩ _ (.slice a3 l.length cp3) hne).trans ((heap_setCell_other _ ⟨w.heap.size, 0, none⟩ _ (.bool false) hne).trans B1.out))))
    have hi := (((((H1.out.setT B0.out (by decide) 0 (.bool false)).setT s1 (by decide) 1 (.slice a3 l.length cp3)).setT s2 (by decide) 0 (.bool false)).setT s3 (by decide) 1 (.slice a3 l.length cp3)).setT (b := w.heap.size + 1) (t := 24) ((heap_setCell_other _ ⟨w.heap.size, 1, none⟩ _ (.slice a3 l.length cp3) hne).trans ((heap_setCell_other _ ⟨w.heap.size, 0, none⟩ _ (.bool false) hne).trans ((heap_setCell_other _ ⟨w.heap.size, 1, none⟩ _ (.slice a3 l.length cp3) hne).trans ((heap_setCell_other _ ⟨w.heap.size, 0, none⟩ _ (.bool false) hne).trans B1.out)))) (by decide) 0 (.int .i64 0))
    have hbw := (((((HB.out.setCell (p := ⟨w.heap.size, 0, none⟩) (Nat.le_refl _) (.bool false)).setCell (p := ⟨w.heap.size, 1, none⟩) (Nat.le_refl _) (.slice a3 l.length cp3)).setCell (p := ⟨w.heap.size, 0, none⟩) (Nat.le_refl _) (.bool false)).setCell (p := ⟨w.heap.size, 1, none⟩) (Nat.le_refl _) (.slice a3 l.length cp3)).setCell (p := ⟨w.heap.size + 1, 0, none⟩) (Nat.le_succ _) (.int .i64 0))
    have t0 := (heap_setCell_other _ ⟨w.heap.size + 1, 0, none⟩ _ (.int .i64 0) hne.symm).trans s4
    rw [← hw2] at t1 hi hbw t0
    have k0 : w2.cell? ⟨w.heap.size, 0, none⟩ = some (.bool false) := by rw [cell_of_row _ _ _ _ _ _ t0]; rfl
    have k1 : w2.cell? ⟨w.heap.size, 1, none⟩ = some (.slice a3 l.length cp3) := by rw [cell_of_row _ _ _ _ _ _ t0]; rfl
    have k2 : w2.cell? ⟨w.heap.size + 1, 0, none⟩ = some (.int .i64 0) := by rw [cell_of_row _ _ _ _ _ _ t1]; rfl
    have HI := Lib.hid hi
    have HW := Lib.hid hbw
    clear hw2 s1 s2 s3 s4 t0 t1 hi hbw
    simp [Leaves, settle, results, Tryz.results254, go_sem, k0, k1, k2]
    exact ⟨⟨_, _, _, ⟨rfl, rfl, rfl⟩, HI.out⟩, HW.out⟩
  · have hz : ((40 : Int) < (l.length : Int)) := by omega
    go_wp2
    refine leaves_cons (f := 268) (args := #[.pointer (some ⟨w.heap.size, 0, none⟩), .pointer (some ⟨w.heap.size + 1, 0, none⟩)]) (by simp) (by simp [go_sem]) ?_
    refine (c268_idle _ _ _).mono ?_
    rintro e u' w2 ⟨rfl, rfl, hw2⟩
    have s1 := heap_setCell_same _ _ 0 _ _ (.bool false) B0.out
    have s2 := heap_setCell_same _ _ 1 _ _ (.slice a3 l.length cp3) s1
    have s3 := heap_setCell_same _ _ 0 _ _ (.bool false) s2
    have s4 := heap_setCell_same _ _ 1 _ _ (.slice none 0 0) s3
    have hne : w.heap.size + 1 ≠ w.heap.size := by omega
    have t1 := heap_setCell_same _ _ 0 _ _ (.int .i64 2) ((heap_setCell_other _ ⟨w.heap.size, 1, none⟩ _ (.slice none 0 0) hne).trans ((heap_setCell_other _ ⟨w.heap.size, 0, none⟩ _ (.bool false) hne).trans ((heap_setCell_other _ ⟨w.heap.size, 1, none⟩ _ (.slice a3 l.length cp3) hne).trans ((heap_setCell_other _ ⟨w.heap.size, 0, none⟩ _ (.bool false) hne).trans B1.out))))
    have hbw := (((((HB.out.setCell (p := ⟨w.heap.size, 0, none⟩) (Nat.le_refl _) (.bool false)).setCell (p := ⟨w.heap.size, 1, none⟩) (Nat.le_refl _) (.slice a3 l.length cp3)).setCell (p := ⟨w.heap.size, 0, none⟩) (Nat.le_refl _) (.bool false)).setCell (p := ⟨w.heap.size, 1, none⟩) (Nat.le_refl _) (.slice none 0 0)).setCell (p := ⟨w.heap.size + 1, 0, none⟩) (Nat.le_succ _) (.int .i64 2))
    have t0 := (heap_setCell_other _ ⟨w.heap.size + 1, 0, none⟩ _ (.int .i64 2) hne.symm).trans s4
    rw [← hw2] at t1 hbw t0
    have k0 : w2.cell? ⟨w.heap.size, 0, none⟩ = some (.bool false) := by rw [cell_of_row _ _ _ _ _ _ t0]; rfl
    have k1 : w2.cell? ⟨w.heap.size, 1, none⟩ = some (.slice none 0 0) := by rw [cell_of_row _ _ _ _ _ _ t0]; rfl
    have k2 : w2.cell? ⟨w.heap.size + 1, 0, none⟩ = some (.int .i64 2) := by rw [cell_of_row _ _ _ _ _ _ t1]; rfl
    have HW := Lib.hid hbw
    clear hw2 s1 s2 s3 s4 t0 t1 hbw
    simp [Leaves, settle, results, Tryz.results254, go_sem, k0, k1, k2]
    exact HW.out
end Go.Proofs.YtagcfgoofiibfaaGreatDoor
namespace Go.Proofs.YtagcfgoofiibfaaGreatDoor
open Go Go.RowKit Go.ChangeMaps

theorem Tryz.underlying267 : Tryz.prog.underlying 267 = some (.map 5 266) := by kernel_rfl
set_option maxRecDepth 100000 in
theorem zero266 : ∃ z, ∀ w : World, (zeroValue 266).run Tryz.prog w = .ok z w := ⟨_, fun _ => rfl⟩

/-- what stands behind each sign -/
def opEs : List (Int × Value) := [(43, .agg #[.bool false, .func (.func 261) #[] #[]]), (45, .agg #[.bool false, .func (.func 262) #[] #[]]), (42, .agg #[.bool false, .func (.func 264) #[] #[]]), (47, .agg #[.bool true, .func (.func 265) #[] #[]]), (37, .agg #[.bool true, .func (.func 267) #[] #[]])]
def opArr (l : List (Int × Value)) (c : Nat) : List MapEntry := match l with
  | [] => []
  | p :: l => { key := .int .u8 p.1, val := p.2, born := c } :: opArr l (c + 1)
theorem opFind42 : Instr.findNow (.int .u8) (.int .u8 42) (opArr opEs 0) 0 = some (some (2, .agg #[.bool false, .func (.func 264) #[] #[]])) := rfl
theorem opFind43 : Instr.findNow (.int .u8) (.int .u8 43) (opArr opEs 0) 0 = some (some (0, .agg #[.bool false, .func (.func 261) #[] #[]])) := rfl

set_option maxRecDepth 100000 in
set_option maxHeartbeats 3200000 in
theorem c253 (w : World) : Calls Tryz.prog 253 #[] w fun e w' => e = .returned (.map (some w.heap.size)) ∧ w' = w.alloc (.map (opArr opEs 0).toArray 5) := by
  have hmm := @run_makeMap Tryz.prog 267 w
  have u1 := put_push Tryz.prog 267 5 266 .u8 Tryz.underlying267 Tryz.underlying5 w #[] 0 43 (.agg #[.bool false, .func (.func 261) #[] #[]]) rfl
  have u2 := put_push Tryz.prog 267 5 266 .u8 Tryz.underlying267 Tryz.underlying5 w (opArr (opEs.take 1) 0).toArray 1 45 (.agg #[.bool false, .func (.func 262) #[] #[]]) rfl
  have u3 := put_push Tryz.prog 267 5 266 .u8 Tryz.underlying267 Tryz.underlying5 w (opArr (opEs.take 2) 0).toArray 2 42 (.agg #[.bool false, .func (.func 264) #[] #[]]) rfl
  have u4 := put_push Tryz.prog 267 5 266 .u8 Tryz.underlying267 Tryz.underlying5 w (opArr (opEs.take 3) 0).toArray 3 47 (.agg #[.bool true, .func (.func 265) #[] #[]]) rfl
  have u5 := put_push Tryz.prog 267 5 266 .u8 Tryz.underlying267 Tryz.underlying5 w (opArr (opEs.take 4) 0).toArray 4 37 (.agg #[.bool true, .func (.func 267) #[] #[]]) rfl
  change _ = Result.ok () (w.alloc (.map (opArr (opEs.take 1) 0).toArray 1)) at u1
  change _ = Result.ok () (w.alloc (.map (opArr (opEs.take 2) 0).toArray 2)) at u2
  change _ = Result.ok () (w.alloc (.map (opArr (opEs.take 3) 0).toArray 3)) at u3
  change _ = Result.ok () (w.alloc (.map (opArr (opEs.take 4) 0).toArray 4)) at u4
  change _ = Result.ok () (w.alloc (.map (opArr opEs 0).toArray 5)) at u5
  generalize e1 : (opArr (opEs.take 1) 0).toArray = E1 at u1 u2
  generalize e2 : (opArr (opEs.take 2) 0).toArray = E2 at u2 u3
  generalize e3 : (opArr (opEs.take 3) 0).toArray = E3 at u3 u4
  generalize e4 : (opArr (opEs.take 4) 0).toArray = E4 at u4 u5
  generalize e5 : (opArr opEs 0).toArray = E5 at u5 ⊢
  clear e1 e2 e3 e4 e5
  go_enter Tryz.func253, Tryz.ntmps253
  go_wp2
  go_ret
  exact ⟨rfl, rfl⟩

/-- what one operation says -/
structure OpSays (op : Nat) (d1 d2 : Value) (l1 l2 l : List Int) : Prop where
  c : ∀ w, IntsAt w d1 l1 → IntsAt w d2 l2 → Calls Tryz.prog op #[.agg #[.bool false, d1], .agg #[.bool false, d2]] w fun e w' => ∃ dv, e = .returned (.agg #[.bool false, dv]) ∧ IntsUp w.heap.size w' dv l ∧ Below w.heap.size w w'

set_option maxRecDepth 100000 in
set_option maxHeartbeats 3200000 in
theorem c255 (op p q1 q2 : Nat) (hop : op = 261 ∨ op = 264) (d1 d2 : Value) (l1 l2 l : List Int) (H : OpSays op d1 d2 l1 l2 l) (w : World)
    (hp : w.cell? ⟨p, 1, none⟩ = some (.func (.func op) #[] #[])) (hq1 : w.cell? ⟨q1, 0, none⟩ = some (.bool false)) (hq2 : w.cell? ⟨q1, 1, none⟩ = some d1) (hq3 : w.cell? ⟨q2, 0, none⟩ = some (.bool false)) (hq4 : w.cell? ⟨q2, 1, none⟩ = some d2)
    (h1 : IntsAt w d1 l1) (h2 : IntsAt w d2 l2) :
    Calls Tryz.prog 255 #[.pointer (some ⟨p, 0, none⟩), .pointer (some ⟨q1, 0, none⟩), .pointer (some ⟨q2, 0, none⟩)] w fun e w' => ∃ dv, e = .returned (.agg #[.bool false, dv]) ∧ IntsUp w.heap.size w' dv l ∧ Below w.heap.size w w' := by
  obtain ⟨a1, cp1, rfl⟩ := row_form h1
  obtain ⟨a2, cp2, rfl⟩ := row_form h2
  have k0 : (w.alloc (Obj.cells #[Value.bool false, Value.slice none 0 0] 39)).cell? ⟨p, 1, none⟩ = some (.func (.func op) #[] #[]) := (World.cell?_alloc_some w _ _ (by rw [hp]; rfl)).trans hp
  have k1 : (w.alloc (Obj.cells #[Value.bool false, Value.slice none 0 0] 39)).cell? ⟨q1, 0, none⟩ = some (.bool false) := (World.cell?_alloc_some w _ _ (by rw [hq1]; rfl)).trans hq1
  have k2 : (w.alloc (Obj.cells #[Value.bool false, Value.slice none 0 0] 39)).cell? ⟨q1, 1, none⟩ = some (.slice a1 l1.length cp1) := (World.cell?_alloc_some w _ _ (by rw [hq2]; rfl)).trans hq2
  have k3 : (w.alloc (Obj.cells #[Value.bool false, Value.slice none 0 0] 39)).cell? ⟨q2, 0, none⟩ = some (.bool false) := (World.cell?_alloc_some w _ _ (by rw [hq3]; rfl)).trans hq3
  have k4 : (w.alloc (Obj.cells #[Value.bool false, Value.slice none 0 0] 39)).cell? ⟨q2, 1, none⟩ = some (.slice a2 l2.length cp2) := (World.cell?_alloc_some w _ _ (by rw [hq4]; rfl)).trans hq4
  have HH := Lib.hid (H.c _ (h1.alloc (Obj.cells #[.bool false, .slice none 0 0] 39)) (h2.alloc (Obj.cells #[.bool false, .slice none 0 0] 39)))
  clear hp hq1 hq2 hq3 hq4 h1 h2
  rcases hop with rfl | rfl
  · go_enter Tryz.func255, Tryz.ntmps255
    go_wp2_with (go_at_call 261; ((with_reducible refine HH.out.mono ?_); rintro e w' ⟨dv, rfl, h3, hb⟩; obtain ⟨a3, cp3, rfl⟩ := row_form h3; have hbk : w'.heap[w.heap.size]? = some (.cells #[.bool false, .slice none 0 0] 39 (0, 0)) := (by rw [hb.block w.heap.size (by simp)]; exact blk_new w _ rfl _); have kc0 : w'.cell? ⟨w.heap.size, 0, none⟩ = some (.bool false) := (by rw [cell_of_row _ _ _ _ _ _ hbk]; rfl); have kc1 : w'.cell? ⟨w.heap.size, 1, none⟩ = some (.slice none 0 0) := (by rw [cell_of_row _ _ _ _ _ _ hbk]; rfl); have kf : ∀ j, w'.frozen? ⟨w.heap.size, j, none⟩ = false := (fun j => frozen_of_row _ _ _ _ _ hbk); replace h3 := h3.le (show w.heap.size ≤ _ by simp); have H3 := Lib.hid h3; have HBK := Lib.hid hbk; have HB := Lib.hid hb; clear h3 hb hbk))
    refine bodyPost_ret (v := .agg #[.bool false, .slice a3 l.length cp3]) (by simp [results, Tryz.results255, go_sem, kc0, kc1]) rfl ?_
    refine ⟨_, rfl, (H3.out.setT HBK.out (by decide) 0 _).setT (heap_setCell_same _ _ 0 _ _ _ HBK.out) (by decide) 1 _, ?_⟩
    exact ((((Below.refl _ w).alloc (Nat.le_refl _) _).trans (HB.out.mono (by simp))).setCell (p := ⟨w.heap.size, 0, none⟩) (Nat.le_refl _) _).setCell (p := ⟨w.heap.size, 1, none⟩) (Nat.le_refl _) _
  · go_enter Tryz.func255, Tryz.ntmps255
    go_wp2_with (go_at_call 264; ((with_reducible refine HH.out.mono ?_); rintro e w' ⟨dv, rfl, h3, hb⟩; obtain ⟨a3, cp3, rfl⟩ := row_form h3; have hbk : w'.heap[w.heap.size]? = some (.cells #[.bool false, .slice none 0 0] 39 (0, 0)) := (by rw [hb.block w.heap.size (by simp)]; exact blk_new w _ rfl _); have kc0 : w'.cell? ⟨w.heap.size, 0, none⟩ = some (.bool false) := (by rw [cell_of_row _ _ _ _ _ _ hbk]; rfl); have kc1 : w'.cell? ⟨w.heap.size, 1, none⟩ = some (.slice none 0 0) := (by rw [cell_of_row _ _ _ _ _ _ hbk]; rfl); have kf : ∀ j, w'.frozen? ⟨w.heap.size, j, none⟩ = false := (fun j => frozen_of_row _ _ _ _ _ hbk); replace h3 := h3.le (show w.heap.size ≤ _ by simp); have H3 := Lib.hid h3; have HBK := Lib.hid hbk; have HB := Lib.hid hb; clear h3 hb hbk))
    refine bodyPost_ret (v := .agg #[.bool false, .slice a3 l.length cp3]) (by simp [results, Tryz.results255, go_sem, kc0, kc1]) rfl ?_
    refine ⟨_, rfl, (H3.out.setT HBK.out (by decide) 0 _).setT (heap_setCell_same _ _ 0 _ _ _ HBK.out) (by decide) 1 _, ?_⟩
    exact ((((Below.refl _ w).alloc (Nat.le_refl _) _).trans (HB.out.mono (by simp))).setCell (p := ⟨w.heap.size, 0, none⟩) (Nat.le_refl _) _).setCell (p := ⟨w.heap.size, 1, none⟩) (Nat.le_refl _) _
end Go.Proofs.YtagcfgoofiibfaaGreatDoor
namespace Go.Proofs.YtagcfgoofiibfaaGreatDoor
open Go Go.RowKit Go.ChangeMaps

set_option maxRecDepth 100000 in
set_option maxHeartbeats 3200000 in
theorem c239 (sg : Int) (op : Nat) (hop : (sg = 43 ∧ op = 261) ∨ (sg = 42 ∧ op = 264)) (d1 d2 : Value) (l1 l2 l : List Int) (f1 : Fit l1) (f2 : Fit l2) (hl : l.length ≤ 1000) (er : Int) (her : er = if l.length ≤ 40 then 0 else 2) (H : OpSays op d1 d2 l1 l2 l) (w : World)
    (h1 : IntsAt w d1 l1) (h2 : IntsAt w d2 l2) :
    Calls Tryz.prog 239 #[.int .u8 sg, .agg #[.bool false, d1], .agg #[.bool false, d2]] w fun e w' => (∃ a n cp, e = .returned (.tuple #[.agg #[.bool false, .slice a n cp], .int .i64 er]) ∧ (l.length ≤ 40 → IntsUp w.heap.size w' (.slice a n cp) l)) ∧ Below w.heap.size w w' := by
  obtain ⟨z, hz⟩ := zero266
  have HER := Lib.hid her
  clear her
  obtain ⟨j, hj⟩ : ∃ j, Instr.findNow (.int .u8) (.int .u8 sg) (opArr opEs 0) 0 = some (some (j, .agg #[.bool false, .func (.func op) #[] #[]])) := by
    rcases hop with ⟨rfl, rfl⟩ | ⟨rfl, rfl⟩
    · exact ⟨_, opFind43⟩
    · exact ⟨_, opFind42⟩
  have hop2 : op = 261 ∨ op = 264 := by rcases hop with ⟨_, h⟩ | ⟨_, h⟩; exact .inl h; exact .inr h
  obtain ⟨a1, cp1, rfl⟩ := row_form h1
  obtain ⟨a2, cp2, rfl⟩ := row_form h2
  have hB := Lib.hid (Boxes.start h1 h2)
  have H1 := Lib.hid h1
  have H2 := Lib.hid h2
  clear h1 h2
  have hmf : ∀ (fn : Fn) (first cap : Array Value) (w : World), (Instr.makeFunc fn first cap).run Tryz.prog w = .ok (.func fn first cap) w := fun _ _ _ _ => rfl
  have hsf : ∀ (a : Addr) (fn : Fn) (x y : Array Value) (w : World), (store a (.func fn x y)).run Tryz.prog w = stored Tryz.prog w a (.func fn x y) .plain := fun a fn x y w => run_store Tryz.prog w a _ .plain rfl
  go_enter Tryz.func239, Tryz.ntmps239
  go_wp2_with fail
  have b4 := blk_new ((((w.alloc (Obj.cells #[Value.bool false, Value.slice a1 l1.length cp1] 39)).alloc (Obj.cells #[Value.bool false, Value.slice a2 l2.length cp2] 39)).alloc (Obj.cells #[Value.bool false, Value.slice none 0 0] 39))) (w.heap.size + 1 + 1 + 1) (by simp) (Obj.cells #[Value.bool false, Value.slice a1 l1.length cp1, Value.bool false, Value.slice a2 l2.length cp2] 39)
  (with_reducible refine (c252 _ _ _ l1 l2 _ b4 (hB.out.i1.alloc _) (hB.out.i2.alloc _) f1 f2).mono ?_)
  rintro e w1 ⟨rfl, hb1⟩
  have B1 := hB.out.below (((Below.refl _ _).alloc (Nat.le_refl _) _).trans (hb1.mono (by simp)))
  clear b4 hb1 hB
  obtain ⟨M, hM⟩ : ∃ M, M = (opArr opEs 0).toArray := ⟨_, rfl⟩
  have hlk := look_int Tryz.prog 267 5 266 .u8 Tryz.underlying267 Tryz.underlying5 z (w1.alloc (.map M 5)) (hz _) w1.heap.size M 5 (heap_alloc_new w1 _) sg _ (by rw [hM]; exact hj) false
  simp only [Bool.false_eq_true, if_false] at hlk
  have B2 := B1.below ((Below.refl _ w1).alloc (Nat.le_refl _) (.map M 5))
  have c253' : Calls Tryz.prog 253 #[] w1 fun e w' => e = .returned (.map (some w1.heap.size)) ∧ w' = w1.alloc (.map M 5) := by rw [hM]; exact c253 w1
  have C253 := Lib.hid c253'
  have b9 : ((w1.alloc (.map M 5)).alloc (Obj.cells #[Value.bool false, Value.nilFunc] 266)).heap[w1.heap.size + 1]? = some (.cells #[.bool false, .nilFunc] 266 (0, 0)) := blk_new _ _ (by simp) _
  have kc0 : ((w1.alloc (.map M 5)).alloc (Obj.cells #[Value.bool false, Value.nilFunc] 266)).cell? ⟨w1.heap.size + 1, 0, none⟩ = some (.bool false) := by rw [cell_of_row _ _ _ _ _ _ b9]; rfl
  have kc1 : ((w1.alloc (.map M 5)).alloc (Obj.cells #[Value.bool false, Value.nilFunc] 266)).cell? ⟨w1.heap.size + 1, 1, none⟩ = some .nilFunc := by rw [cell_of_row _ _ _ _ _ _ b9]; rfl
  have kf : ∀ j, ((w1.alloc (.map M 5)).alloc (Obj.cells #[Value.bool false, Value.nilFunc] 266)).frozen? ⟨w1.heap.size + 1, j, none⟩ = false := fun j => frozen_of_row _ _ _ _ _ b9
  have B9 := Lib.hid b9
  clear b9
  have BB := Lib.hid B2
  have hs2 : w.heap.size + 2 < (w1.alloc (.map M 5)).heap.size := lt_of_blk B2.b3
  clear B1 B2 c253' hM hz
  go_wp2_with (go_at_call 253; ((with_reducible refine C253.out.mono ?_); rintro e w' ⟨rfl, rfl⟩))
  (with_reducible refine (c254 _ _ _ l _ hl ?_).mono ?_)
  · intro W hW
    have B3 := (BB.out.below ((Below.refl _ _).alloc (Nat.le_refl _) (Obj.cells #[Value.bool false, Value.func (Fn.func op) #[] #[]] 266))).below hW
    refine c255 op (w1.heap.size + 1) w.heap.size (w.heap.size + 1) hop2 _ _ l1 l2 l H W ?_ B3.c10 B3.c11 B3.c20 B3.c21 B3.i1 B3.i2
    have b9 : W.heap[w1.heap.size + 1]? = some (.cells #[.bool false, .func (.func op) #[] #[]] 266 (0, 0)) := (hW.block _ (by simp)).trans (blk_new _ _ (by simp) _)
    rw [cell_of_row _ _ _ _ _ _ b9]; rfl
  · rintro e w2 ⟨⟨a3, n3, cp3, rfl, hdv⟩, hb2⟩
    have B3 := (BB.out.below ((Below.refl _ _).alloc (Nat.le_refl _) (Obj.cells #[Value.bool false, Value.func (Fn.func op) #[] #[]] 266))).below hb2
    have b3 := B3.b3
    have k0 : w2.cell? ⟨w.heap.size + 1 + 1, 0, none⟩ = some (.bool false) := by rw [cell_of_row _ _ _ _ _ _ b3]; rfl
    have k1 : w2.cell? ⟨w.heap.size + 1 + 1, 1, none⟩ = some (.slice none 0 0) := by rw [cell_of_row _ _ _ _ _ _ b3]; rfl
    have kf2 : ∀ j, w2.frozen? ⟨w.heap.size + 1 + 1, j, none⟩ = false := fun j => frozen_of_row _ _ _ _ _ b3
    have BF := Lib.hid B3
    have HD := Lib.hid hdv
    clear B3 b3 hdv hb2 hlk kc0 kc1 kf
    rw [← HER.out]
    go_wp2
    refine bodyPost_ret (v := .tuple #[.agg #[.bool false, .slice a3 n3 cp3], .int .i64 er]) (by simp [results, Tryz.results239, go_sem, k0, k1]) rfl ?_
    refine ⟨⟨a3, n3, cp3, rfl, fun hl => ((BF.out.third (HD.out hl)).1).le (by simp at hs2 ⊢; omega)⟩, ?_⟩
    exact ((BF.out.b.setCell (p := ⟨w.heap.size + 1 + 1, 0, none⟩) (by show w.heap.size ≤ w.heap.size + 1 + 1; omega) _).setCell (p := ⟨w.heap.size + 1 + 1, 1, none⟩) (by show w.heap.size ≤ w.heap.size + 1 + 1; omega) _)
end Go.Proofs.YtagcfgoofiibfaaGreatDoor
