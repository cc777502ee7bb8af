/- The lexer and what it reaches: part 23 of 41: O3, O4, O5. -/
import Derived.Test.YtagcfgoofiibfaaGreatDoorG22
import Derived.Deep.DeepCutAuto
import Derived.Deep.CutBlock
import Derived.Test.YtagcfgoofiibfaaGreatDoorG06
import Derived.Test.YtagcfgoofiibfaaGreatDoorG07
set_option linter.unusedVariables false
set_option linter.unusedSimpArgs false
namespace Go.Proofs.YtagcfgoofiibfaaGreatDoor
open Go Go.RowKit Go.ChangeMaps

set_option maxRecDepth 100000 in
set_option maxHeartbeats 3200000 in
theorem c22x (k : Nat) (op : Nat) (hk : (k = 221 ∧ op = 261) ∨ (k = 220 ∧ op = 264)) (d1 d2 : Value) (l1 l2 l : List Int) (f1 : Fit l1) (f2 : Fit l2) (hl : l.length ≤ 1000) (er : Int) (her : er = if l.length ≤ 40 then 0 else 2) (H : OpSays op d1 d2 l1 l2 l) (w : World)
    (h1 : IntsAt w d1 l1) (h2 : IntsAt w d2 l2) :
    Calls Tryz.prog k #[.agg #[.bool false, d1], .agg #[.bool false, d2]] w fun e w' => (∃ a n cp, e = .returned (.tuple #[.agg #[.bool false, .slice a n cp], .int .i64 er]) ∧ (l.length ≤ 40 → IntsUp w.heap.size w' (.slice a n cp) l)) ∧ Below w.heap.size w w' := by
  obtain ⟨a1, cp1, rfl⟩ := row_form h1
  obtain ⟨a2, cp2, rfl⟩ := row_form h2
  have HB := Lib.hid (Boxes.start h1 h2)
  have hsg : (43 = 43 ∧ op = 261) ∨ (42 = 42 ∧ op = 264) := by rcases hk with ⟨_, h⟩ | ⟨_, h⟩; exact .inl ⟨rfl, h⟩; exact .inr ⟨rfl, h⟩
  have HER := Lib.hid her
  clear h1 h2 her hsg
  rcases hk with ⟨rfl, rfl⟩ | ⟨rfl, rfl⟩
  · have HC := Lib.hid (c239 43 261 (.inl ⟨rfl, rfl⟩) _ _ l1 l2 l f1 f2 hl er HER.out H _ HB.out.i1 HB.out.i2)
    go_enter Tryz.func221, Tryz.ntmps221
    go_wp2_with (go_at_call 239; ((with_reducible refine HC.out.mono ?_); rintro e w2 ⟨⟨a3, n3, cp3, rfl, hdv⟩, hb2⟩; have B3 := HB.out.below hb2; have b3 := B3.b3; have k0 : w2.cell? ⟨w.heap.size + 1 + 1, 0, none⟩ = some (.bool false) := (by rw [cell_of_row _ _ _ _ _ _ b3]; rfl); have k1 : w2.cell? ⟨w.heap.size + 1 + 1, 1, none⟩ = some (.slice none 0 0) := (by rw [cell_of_row _ _ _ _ _ _ b3]; rfl); have kf2 : ∀ j, w2.frozen? ⟨w.heap.size + 1 + 1, j, none⟩ = false := (fun j => frozen_of_row _ _ _ _ _ b3); have BF := Lib.hid B3; have HD := Lib.hid hdv; clear B3 b3 hdv hb2))
    refine bodyPost_ret (v := .tuple #[.agg #[.bool false, .slice a3 n3 cp3], .int .i64 er]) (by simp [results, Tryz.results221, go_sem, k0, k1]) rfl ?_
    refine ⟨⟨a3, n3, cp3, rfl, fun hl => ((BF.out.third (HD.out hl)).1).le (by simp; omega)⟩, ?_⟩
    exact ((BF.out.b.setCell (p := ⟨w.heap.size + 1 + 1, 0, none⟩) (by show w.heap.size ≤ w.heap.size + 1 + 1; omega) _).setCell (p := ⟨w.heap.size + 1 + 1, 1, none⟩) (by show w.heap.size ≤ w.heap.size + 1 + 1; omega) _)
  · have HC := Lib.hid (c239 42 264 (.inr ⟨rfl, rfl⟩) _ _ l1 l2 l f1 f2 hl er HER.out H _ HB.out.i1 HB.out.i2)
    go_enter Tryz.func220, Tryz.ntmps220
    go_wp2_with (go_at_call 239; ((with_reducible refine HC.out.mono ?_); rintro e w2 ⟨⟨a3, n3, cp3, rfl, hdv⟩, hb2⟩; have B3 := HB.out.below hb2; have b3 := B3.b3; have k0 : w2.cell? ⟨w.heap.size + 1 + 1, 0, none⟩ = some (.bool false) := (by rw [cell_of_row _ _ _ _ _ _ b3]; rfl); have k1 : w2.cell? ⟨w.heap.size + 1 + 1, 1, none⟩ = some (.slice none 0 0) := (by rw [cell_of_row _ _ _ _ _ _ b3]; rfl); have kf2 : ∀ j, w2.frozen? ⟨w.heap.size + 1 + 1, j, none⟩ = false := (fun j => frozen_of_row _ _ _ _ _ b3); have BF := Lib.hid B3; have HD := Lib.hid hdv; clear B3 b3 hdv hb2))
    refine bodyPost_ret (v := .tuple #[.agg #[.bool false, .slice a3 n3 cp3], .int .i64 er]) (by simp [results, Tryz.results220, go_sem, k0, k1]) rfl ?_
    refine ⟨⟨a3, n3, cp3, rfl, fun hl => ((BF.out.third (HD.out hl)).1).le (by simp; omega)⟩, ?_⟩
    exact ((BF.out.b.setCell (p := ⟨w.heap.size + 1 + 1, 0, none⟩) (by show w.heap.size ≤ w.heap.size + 1 + 1; omega) _).setCell (p := ⟨w.heap.size + 1 + 1, 1, none⟩) (by show w.heap.size ≤ w.heap.size + 1 + 1; omega) _)

theorem big_k : big * 1000000000000 < 1000000000 ^ 45 := by unfold big; decide +kernel
theorem big_s : 1000000000 < big := by unfold big; decide +kernel
theorem big_45 {n : Nat} (h : n < big) : n < 1000000000 ^ 45 := by
  have := big_k
  generalize 1000000000 ^ 45 = x at this ⊢
  generalize big = y at this h
  omega
theorem limbs_fit (n : Nat) (h : n < big) : Fit (limbs n) := ⟨limbs_inB n, limbs_noZ n (big_45 h), limbs_len40 n h⟩
theorem limbs_iff {n : Nat} (h : n < 1000000000 ^ 45) : (limbs n).length ≤ 40 ↔ n < big := by
  constructor
  · intro h1
    rcases Nat.lt_or_ge n big with h2 | h2
    · exact h2
    · have := limbs_big n h h2; omega
  · exact limbs_len40 n
theorem limbs_len45 (n : Nat) (h : n < 1000000000 ^ 45) : (limbs n).length ≤ 45 := limbsF_len 45 45 n h

/-- Add of two numbers below the limit -/
theorem c221 (d1 d2 : Value) (n1 n2 : Nat) (w : World) (hn1 : n1 < big) (hn2 : n2 < big) (h1 : IntsAt w d1 (limbs n1)) (h2 : IntsAt w d2 (limbs n2)) :
    Calls Tryz.prog 221 #[.agg #[.bool false, d1], .agg #[.bool false, d2]] w fun e w' => (∃ a n cp, e = .returned (.tuple #[.agg #[.bool false, .slice a n cp], .int .i64 (if n1 + n2 < big then 0 else 2)]) ∧ (n1 + n2 < big → IntsUp w.heap.size w' (.slice a n cp) (limbs (n1 + n2)))) ∧ Below w.heap.size w w' := by
  have hs : n1 + n2 < 1000000000 ^ 45 := by
    have := big_k
    generalize 1000000000 ^ 45 = x at this ⊢
    generalize big = y at this hn1 hn2
    omega
  have hi := limbs_iff hs
  have h41 := limbs_len40 n1 hn1
  have h42 := limbs_len40 n2 hn2
  simp only [← hi]
  refine c22x 221 261 (.inl ⟨rfl, rfl⟩) d1 d2 _ _ _ (limbs_fit n1 hn1) (limbs_fit n2 hn2) (by have := limbs_len45 _ hs; omega) _ rfl ⟨fun W i1 i2 => ?_⟩ w h1 h2
  have := c261 d1 d2 _ _ W i1 i2 (limbs_inB n1) (limbs_inB n2) (by omega) (by omega)
  rw [limbs_num _ (big_45 hn1), limbs_num _ (big_45 hn2)] at this
  exact this

/-- Mul of a number below the limit with a small one -/
theorem c220 (d1 d2 : Value) (n1 d : Nat) (w : World) (hn1 : n1 < big) (hd0 : 0 < d) (hd : d < 1000000000) (h1 : IntsAt w d1 (limbs n1)) (h2 : IntsAt w d2 (limbs d)) :
    Calls Tryz.prog 220 #[.agg #[.bool false, d1], .agg #[.bool false, d2]] w fun e w' => (∃ a n cp, e = .returned (.tuple #[.agg #[.bool false, .slice a n cp], .int .i64 (if n1 * d < big then 0 else 2)]) ∧ (n1 * d < big → IntsUp w.heap.size w' (.slice a n cp) (limbs (n1 * d)))) ∧ Below w.heap.size w w' := by
  have hs : n1 * d < 1000000000 ^ 45 := by
    have e1 : n1 * d ≤ big * 1000000000 := Nat.mul_le_mul (Nat.le_of_lt hn1) (Nat.le_of_lt hd)
    have e2 := big_k
    generalize 1000000000 ^ 45 = x at e2 ⊢
    generalize big = y at e1 e2
    omega
  have hdb : d < big := Nat.lt_trans hd big_s
  have e : limbs d = [(d : Int)] := by
    have h3 : numL [(d : Int)] = d := by simp [numL]
    rw [← limbs_of [(d : Int)] (by intro x hx; simp at hx; subst hx; omega) (by simp [NoZ]; omega) (by simp), h3]
  have hi := limbs_iff hs
  have h41 := limbs_len40 n1 hn1
  simp only [← hi]
  have hf2 := limbs_fit d hdb
  rw [e] at h2 hf2
  refine c22x 220 264 (.inr ⟨rfl, rfl⟩) d1 d2 _ _ _ (limbs_fit n1 hn1) hf2 (by have := limbs_len45 _ hs; omega) _ rfl ⟨fun W i1 i2 => ?_⟩ w h1 h2
  have := c264 d1 d2 _ d W i1 i2 (limbs_inB n1) (by omega) hd
  rw [limbs_num _ (big_45 hn1)] at this
  exact this
end Go.Proofs.YtagcfgoofiibfaaGreatDoor
namespace Go.Proofs.YtagcfgoofiibfaaGreatDoor
open Go Go.RowKit Go.ChangeMaps

/-- the variables of value -/
structure VS (pv pw pd ps g i n W D : Nat) (dv : Value) (w : World) : Prop where
  bv : w.heap[pv]? = some (.cells #[.bool false, dv] 39 (0, 0))
  bw : w.heap[pw]? = some (.cells #[.int .i64 (W : Int)] 3 (0, 0))
  bd : w.heap[pd]? = some (.cells #[.int .i64 (D : Int)] 3 (0, 0))
  bs : w.heap[ps]? = some (.cells #[.pointer (some ⟨g, 0, none⟩)] 92 (0, 0))
  ci : w.cell? ⟨g, 1, none⟩ = some (.int .i64 (i : Int))
  iv : IntsAt w dv (limbs n)
  nv : dv.ownBlock ≠ some pw ∧ dv.ownBlock ≠ some pd
  nd : pw ≠ pd
  ng : g ≠ pv ∧ g ≠ pw ∧ g ≠ pd
theorem VS.below {pv pw pd ps g i n W D : Nat} {dv : Value} {w w' : World} (h : VS pv pw pd ps g i n W D dv w) (hb : Below w.heap.size w w') : VS pv pw pd ps g i n W D dv w' :=
  ⟨(hb.block _ (lt_of_blk h.bv)).trans h.bv, (hb.block _ (lt_of_blk h.bw)).trans h.bw, (hb.block _ (lt_of_blk h.bd)).trans h.bd, (hb.block _ (lt_of_blk h.bs)).trans h.bs,
   (hb.cell (World.block_lt_of_cell? w _ h.ci)).trans h.ci, h.iv.below hb, h.nv, h.nd, h.ng⟩

/-- the same, in a later world -/
structure VC (w0 : World) (pv pw pd ps g i n W D : Nat) (dv : Value) (w : World) : Prop where
  v0 : VS pv pw pd ps g i n W D dv w0
  b : Below w0.heap.size w0 w
theorem VC.v {w0 : World} {pv pw pd ps g i n W D : Nat} {dv : Value} {w : World} (h : VC w0 pv pw pd ps g i n W D dv w) : VS pv pw pd ps g i n W D dv w := h.v0.below h.b
theorem VC.below {w0 : World} {pv pw pd ps g i n W D : Nat} {dv : Value} {w w' : World} (h : VC w0 pv pw pd ps g i n W D dv w) (hb : Below w.heap.size w w') : VC w0 pv pw pd ps g i n W D dv w' := ⟨h.v0, h.b.trans (hb.mono h.b.size)⟩
theorem VC.alloc {w0 : World} {pv pw pd ps g i n W D : Nat} {dv : Value} {w : World} (h : VC w0 pv pw pd ps g i n W D dv w) (o : Obj) : VC w0 pv pw pd ps g i n W D dv (w.alloc o) := h.below ((Below.refl _ _).alloc (Nat.le_refl _) _)
theorem VC.drew {w0 : World} {pv pw pd ps g i n W D : Nat} {dv : Value} {w : World} (h : VC w0 pv pw pd ps g i n W D dv w) : VC w0 pv pw pd ps g i n W D dv w.drew := h.below (Dr.below (Dr.here w 1) _)
theorem VC.set {w0 : World} {pv pw pd ps g i n W D : Nat} {dv : Value} {w : World} (h : VC w0 pv pw pd ps g i n W D dv w) {P : Nat} (hP : w0.heap.size ≤ P) (j : Nat) (u : Value) : VC w0 pv pw pd ps g i n W D dv (w.setCell ⟨P, j, none⟩ u) := ⟨h.v0, h.b.setCell (p := ⟨P, j, none⟩) hP u⟩
theorem VC.cells {w0 : World} {pv pw pd ps g i n W D : Nat} {dv : Value} {w : World} (h : VC w0 pv pw pd ps g i n W D dv w) : w.cell? ⟨pv, 0, none⟩ = some (.bool false) ∧ w.cell? ⟨pv, 1, none⟩ = some dv ∧ w.cell? ⟨pw, 0, none⟩ = some (.int .i64 (W : Int)) := by
  refine ⟨?_, ?_, ?_⟩
  · rw [cell_of_row _ _ _ _ _ _ h.v.bv]; rfl
  · rw [cell_of_row _ _ _ _ _ _ h.v.bv]; rfl
  · rw [cell_of_row _ _ _ _ _ _ h.v.bw]; rfl

theorem VC.cellD {w0 : World} {pv pw pd ps g i n W D : Nat} {dv : Value} {w : World} (h : VC w0 pv pw pd ps g i n W D dv w) : w.cell? ⟨pd, 0, none⟩ = some (.int .i64 (D : Int)) := by
  rw [cell_of_row _ _ _ _ _ _ h.v.bd]; rfl
/-- behind the first part of flush -/
structure FL1 (N : Nat) (w0 : World) (pv pw pd ps g i n W D m : Nat) (dv : Value) (P : Nat) (d1 : Value) (w : World) : Prop where
  c : VC w0 pv pw pd ps g i n W D dv w
  p : w.heap[P]? = some (.cells #[.bool false, d1] 39 (0, 0))
  lo : w0.heap.size ≤ P
  r : m < N → IntsUp w0.heap.size w d1 (limbs m)

theorem FL1.mkSet {N : Nat} {w0 : World} {pv pw pd ps g i n W D m : Nat} {dv : Value} {P : Nat} {d1 : Value} {u0 u1 : Value} {w : World} (h : VC w0 pv pw pd ps g i n W D dv w) (hP : w.heap[P]? = some (.cells #[u0, u1] 39 (0, 0))) (hlo : w0.heap.size ≤ P) (hr : m < N → IntsUp w0.heap.size w d1 (limbs m)) :
    FL1 N w0 pv pw pd ps g i n W D m dv P d1 ((w.setCell ⟨P, 0, none⟩ (.bool false)).setCell ⟨P, 1, none⟩ d1) :=
  ⟨(h.set hlo _ _).set hlo _ _, heap_setCell_same _ _ 1 _ _ _ (heap_setCell_same _ _ 0 _ _ _ hP), hlo, fun hm => ((hr hm).setT hP (by decide) 0 _).setT (heap_setCell_same _ _ 0 _ _ _ hP) (by decide) 1 _⟩
theorem FL1.mkAlloc {N : Nat} {w0 : World} {pv pw pd ps g i n W D m : Nat} {dv : Value} {d1 : Value} {w : World} (h : VC w0 pv pw pd ps g i n W D dv w) (hr : m < N → IntsUp w0.heap.size w d1 (limbs m)) :
    FL1 N w0 pv pw pd ps g i n W D m dv w.heap.size d1 (w.alloc (Obj.cells #[.bool false, d1] 39)) :=
  ⟨h.alloc _, blk_new _ _ rfl _, h.b.size, fun hm => World.ownsRow.alloc (hr hm) _⟩
theorem FL1.below {N : Nat} {w0 : World} {pv pw pd ps g i n W D m : Nat} {dv : Value} {P : Nat} {d1 : Value} {w w' : World} (h : FL1 N w0 pv pw pd ps g i n W D m dv P d1 w) (hb : Below w.heap.size w w') : FL1 N w0 pv pw pd ps g i n W D m dv P d1 w' :=
  ⟨h.c.below hb, (hb.block _ (lt_of_blk h.p)).trans h.p, h.lo, fun hm => by
    have := h.r hm
    rcases this.2 with h0 | ⟨b, cap, cur, hv, hg0, hg, h4⟩
    · exact ⟨this.1, .inl h0⟩
    · exact ⟨this.1, .inr ⟨b, cap, cur, hv, hg0, (hb.block _ (lt_of_blk hg)).trans hg, h4⟩⟩⟩
theorem FL1.drew {N : Nat} {w0 : World} {pv pw pd ps g i n W D m : Nat} {dv : Value} {P : Nat} {d1 : Value} {w : World} (h : FL1 N w0 pv pw pd ps g i n W D m dv P d1 w) : FL1 N w0 pv pw pd ps g i n W D m dv P d1 w.drew := h.below (Dr.below (Dr.here w 1) _)
/-- the end of flush -/
theorem VC.done {w0 : World} {pv pw pd ps g i n W D m : Nat} {dv d1 : Value} {w : World} (h : VC w0 pv pw pd ps g i n W D dv w) (hr : IntsUp w0.heap.size w d1 (limbs m)) :
    VS pv pw pd ps g i m 1 0 d1 ((((w.setCell ⟨pv, 0, none⟩ (.bool false)).setCell ⟨pv, 1, none⟩ d1).setCell ⟨pd, 0, none⟩ (.int .i64 0)).setCell ⟨pw, 0, none⟩ (.int .i64 1)) ∧
    Keep (fun k => k = pv ∨ k = pw ∨ k = pd) w0 ((((w.setCell ⟨pv, 0, none⟩ (.bool false)).setCell ⟨pv, 1, none⟩ d1).setCell ⟨pd, 0, none⟩ (.int .i64 0)).setCell ⟨pw, 0, none⟩ (.int .i64 1)) ∧ (∀ B, B ≤ pv → B ≤ pw → B ≤ pd → Below B w0 ((((w.setCell ⟨pv, 0, none⟩ (.bool false)).setCell ⟨pv, 1, none⟩ d1).setCell ⟨pd, 0, none⟩ (.int .i64 0)).setCell ⟨pw, 0, none⟩ (.int .i64 1))) := by
  have hv := h.v
  have l1 := lt_of_blk h.v0.bv
  have l2 := lt_of_blk h.v0.bw
  have l3 := lt_of_blk h.v0.bd
  have t1 : pv ≠ pw := by rintro rfl; have := hv.bv; rw [hv.bw] at this; injection this with this; injection this with _ this; exact absurd this (by decide)
  have t2 : pv ≠ pd := by rintro rfl; have := hv.bv; rw [hv.bd] at this; injection this with this; injection this with _ this; exact absurd this (by decide)
  have t3 : ps ≠ pv := by rintro rfl; have := hv.bv; rw [hv.bs] at this; injection this with this; injection this with _ this; exact absurd this (by decide)
  have t4 : ps ≠ pw := by rintro rfl; have := hv.bw; rw [hv.bs] at this; injection this with this; injection this with _ this; exact absurd this (by decide)
  have t5 : ps ≠ pd := by rintro rfl; have := hv.bd; rw [hv.bs] at this; injection this with this; injection this with _ this; exact absurd this (by decide)
  have nd := hv.nd
  refine ⟨⟨?_, ?_, ?_, ?_, ?_, ?_, ?_, nd, hv.ng⟩, ?_, fun B b1 b2 b3 => ((((h.b.mono (by omega)).setCell (p := ⟨pv, 0, none⟩) b1 _).setCell (p := ⟨pv, 1, none⟩) b1 _).setCell (p := ⟨pd, 0, none⟩) b3 _).setCell (p := ⟨pw, 0, none⟩) b2 _⟩
  · rw [heap_setCell_other _ _ _ _ t1, heap_setCell_other _ _ _ _ t2]
    exact heap_setCell_same _ _ 1 _ _ _ (heap_setCell_same _ _ 0 _ _ _ hv.bv)
  · refine heap_setCell_same _ _ 0 #[.int .i64 (W : Int)] _ _ ?_
    rw [heap_setCell_other _ _ _ _ nd, heap_setCell_other _ _ _ _ t1.symm, heap_setCell_other _ _ _ _ t1.symm]
    exact hv.bw
  · rw [heap_setCell_other _ _ _ _ nd.symm]
    refine heap_setCell_same _ _ 0 #[.int .i64 (D : Int)] _ _ ?_
    rw [heap_setCell_other _ _ _ _ t2.symm, heap_setCell_other _ _ _ _ t2.symm]
    exact hv.bd
  · rw [heap_setCell_other _ _ _ _ t4, heap_setCell_other _ _ _ _ t5, heap_setCell_other _ _ _ _ t3, heap_setCell_other _ _ _ _ t3]
    exact hv.bs
  · rw [World.cell?_setCell_far _ _ _ _ hv.ng.2.1.symm, World.cell?_setCell_far _ _ _ _ hv.ng.2.2.symm, World.cell?_setCell_far _ _ _ _ hv.ng.1.symm, World.cell?_setCell_far _ _ _ _ hv.ng.1.symm]
    exact hv.ci
  · exact ((((hr.set l1 _ _).set l1 _ _).set l3 _ _).set l2 _ _).ints
  · constructor
    · intro e; have := (hr.lt _ e).1; omega
    · intro e; have := (hr.lt _ e).1; omega
  · refine ⟨by have := h.b.size; simpa using this, fun k hk hy => ?_⟩
    rw [heap_setCell_other _ _ _ _ (by rintro rfl; exact hy (.inr (.inl rfl))), heap_setCell_other _ _ _ _ (by rintro rfl; exact hy (.inr (.inr rfl))), heap_setCell_other _ _ _ _ (by rintro rfl; exact hy (.inl rfl)), heap_setCell_other _ _ _ _ (by rintro rfl; exact hy (.inl rfl))]
    exact h.b.block k hk

theorem VS.ne {pv pw pd ps g i n W D : Nat} {dv : Value} {w : World} (hv : VS pv pw pd ps g i n W D dv w) : pv ≠ pw ∧ pv ≠ pd := by
  constructor
  · rintro rfl; have := hv.bv; rw [hv.bw] at this; injection this with this; injection this with _ this; exact absurd this (by decide)
  · rintro rfl; have := hv.bv; rw [hv.bd] at this; injection this with this; injection this with _ this; exact absurd this (by decide)
theorem VS.mid {pv pw pd ps g i n W D : Nat} {dv : Value} {w : World} (hv : VS pv pw pd ps g i n W D dv w) (d1 : Value) :
    ((w.setCell ⟨pv, 0, none⟩ (.bool false)).setCell ⟨pv, 1, none⟩ d1).heap[pd]? = some (.cells #[.int .i64 (D : Int)] 3 (0, 0)) ∧
    (((w.setCell ⟨pv, 0, none⟩ (.bool false)).setCell ⟨pv, 1, none⟩ d1).setCell ⟨pd, 0, none⟩ (.int .i64 0)).heap[pw]? = some (.cells #[.int .i64 (W : Int)] 3 (0, 0)) := by
  obtain ⟨t1, t2⟩ := hv.ne
  constructor
  · rw [heap_setCell_other _ _ _ _ t2.symm, heap_setCell_other _ _ _ _ t2.symm]; exact hv.bd
  · rw [heap_setCell_other _ _ _ _ hv.nd, heap_setCell_other _ _ _ _ t1.symm, heap_setCell_other _ _ _ _ t1.symm]; exact hv.bw

set_option maxRecDepth 100000 in
set_option maxHeartbeats 3200000 in
theorem c219N (N : Nat) (hN : N = big) (pv pw pd ps g i n W D : Nat) (dv : Value) (w : World) (H : VS pv pw pd ps g i n W D dv w) (hn : n < N) (hW0 : 0 < W) (hW : W < 1000000000) (hD : D < 1000000000) :
    Calls Tryz.prog 219 #[.pointer (some ⟨pv, 0, none⟩), .pointer (some ⟨pw, 0, none⟩), .pointer (some ⟨pd, 0, none⟩), .pointer (some ⟨ps, 0, none⟩)] w fun e w' =>
      (n * W + D < N → e = .returned (.tuple #[]) ∧ ∃ dv', VS pv pw pd ps g i (n * W + D) 1 0 dv' w' ∧ Keep (fun k => k = pv ∨ k = pw ∨ k = pd) w w' ∧ (∀ B, B ≤ pv → B ≤ pw → B ≤ pd → Below B w w')) ∧
      (N ≤ n * W + D → e = .panicked [{ v := .iface 134 (.agg #[.int .i64 (i : Int), .int .i64 23]), recovered := false }] ∧ Below w.heap.size w w') := by
  have HN := Lib.hid hN
  clear hN
  obtain ⟨a0, cp0, rfl⟩ := row_form H.iv
  have HV : Hid (VC w pv pw pd ps g i n W D (.slice a0 (limbs n).length cp0) w) := Lib.hid ⟨H, Below.refl _ _⟩
  clear H
  have hc := HV.out.cells
  obtain ⟨er1, he1⟩ : ∃ er1 : Int, er1 = if n * W < N then 0 else 2 := ⟨_, rfl⟩
  have HE1 := Lib.hid he1
  clear he1
  have C220 : Hid (∀ (w' : World) (d1 d2 : Value), IntsAt w' d1 (limbs n) → IntsAt w' d2 (limbs W) → Calls Tryz.prog 220 #[.agg #[.bool false, d1], .agg #[.bool false, d2]] w' fun e w'' => (∃ a n' cp, e = .returned (.tuple #[.agg #[.bool false, .slice a n' cp], .int .i64 er1]) ∧ (n * W < N → IntsUp w'.heap.size w'' (.slice a n' cp) (limbs (n * W)))) ∧ Below w'.heap.size w' w'') := Lib.hid (fun w' d1 d2 i1 i2 => by
    have hn' := hn
    rw [HN.out] at hn'
    rw [HE1.out, HN.out]
    exact c220 d1 d2 n W w' hn' hW0 hW i1 i2)
  go_enter Tryz.func219, Tryz.ntmps219
  go_wp2_with fail
  go_cut [4, 5] (fun s4 s5 wx => ∃ (P : Nat) (a3 : Option Addr) (n3 cp3 : Nat), s4 = .pointer (some ⟨P, 0, none⟩) ∧ s5 = .int .i64 er1 ∧ FL1 N w pv pw pd ps g i n W D (n * W) (.slice a0 (limbs n).length cp0) P (.slice a3 n3 cp3) wx)
  case first =>
    go_region_held3 (fun w' => w'.cell? ⟨pv, 0, none⟩ = some (.bool false) ∧ w'.cell? ⟨pv, 1, none⟩ = some (.slice a0 (limbs n).length cp0) ∧ w'.cell? ⟨pw, 0, none⟩ = some (.int .i64 (W : Int))) (first | exact hc | exact HV.out.cells | exact HV.out.drew.cells | exact (HV.out.alloc _).cells | exact (HV.out.drew.alloc _).cells | exact ((HV.out.set (by omega) _ _).set (by omega) _ _).cells)
      (first
        | (go_at_call 218; ((with_reducible refine (c218 W _ (by omega)).mono ?_); rintro e w1 ⟨d2, rfl, h2, hbb⟩; have HV : Hid (VC w pv pw pd ps g i n W D (.slice a0 (limbs n).length cp0) w1) := Lib.hid (by first | exact HV.out.drew.below hbb | exact (HV.out.drew.alloc _).below hbb); obtain ⟨a2, cp2, rfl⟩ := row_form h2; have H2 := Lib.hid h2; (first | (have KB1 : Hid (w1.heap[w.heap.size]? = some (.cells #[.bool false, .slice none 0 0] 39 (0, 0))) := Lib.hid ((hbb.block w.heap.size (by simp)).trans (blk_new w.drew _ rfl _))) | skip); have hlo1 : w.heap.size ≤ w1.heap.size := HV.out.b.size; clear h2 hbb))
        | (go_at_call 220; ((first | (with_reducible refine (C220.out _ (.slice a0 (limbs n).length cp0) (.slice a2 (limbs W).length cp2) HV.out.v.iv H2.out.ints).mono ?_) | (with_reducible refine (C220.out _ (.slice a0 (limbs n).length cp0) (.slice a2 (limbs W).length cp2) (HV.out.v.iv.alloc _) (H2.out.ints.alloc _)).mono ?_)); rintro e w2 ⟨⟨a3, n3, cp3, rfl, h3⟩, hb2⟩; have H3 : Hid (n * W < N → IntsUp w.heap.size w2 (.slice a3 n3 cp3) (limbs (n * W))) := Lib.hid (fun hm => by first | exact (h3 hm).le HV.out.b.size | exact (h3 hm).le (HV.out.alloc _).b.size); have HV : Hid (VC w pv pw pd ps g i n W D (.slice a0 (limbs n).length cp0) w2) := Lib.hid (by first | exact HV.out.below hb2 | exact (HV.out.alloc _).below hb2); (first | (have kb : w2.heap[w1.heap.size]? = some (.cells #[.bool false, .slice none 0 0] 39 (0, 0)) := (hb2.block w1.heap.size (by simp)).trans (blk_new w1 _ rfl _); have kc0 : w2.cell? ⟨w1.heap.size, 0, none⟩ = some (.bool false) := (by rw [cell_of_row _ _ _ _ _ _ kb]; rfl); have kc1 : w2.cell? ⟨w1.heap.size, 1, none⟩ = some (.slice none 0 0) := (by rw [cell_of_row _ _ _ _ _ _ kb]; rfl); have kf : ∀ j, w2.frozen? ⟨w1.heap.size, j, none⟩ = false := (fun j => frozen_of_row _ _ _ _ _ kb); have KB := Lib.hid kb; clear kb) | (have kb : w2.heap[w.heap.size]? = some (.cells #[.bool false, .slice none 0 0] 39 (0, 0)) := (hb2.block w.heap.size (lt_of_blk KB1.out)).trans KB1.out; have kc0 : w2.cell? ⟨w.heap.size, 0, none⟩ = some (.bool false) := (by rw [cell_of_row _ _ _ _ _ _ kb]; rfl); have kc1 : w2.cell? ⟨w.heap.size, 1, none⟩ = some (.slice none 0 0) := (by rw [cell_of_row _ _ _ _ _ _ kb]; rfl); have kf : ∀ j, w2.frozen? ⟨w.heap.size, j, none⟩ = false := (fun j => frozen_of_row _ _ _ _ _ kb); have KB := Lib.hid kb; clear kb) | skip); have hlo2 : w.heap.size ≤ w2.heap.size := HV.out.b.size; clear h3 hb2)))
    all_goals
      go_wp2
      go_meet
      first
        | exact ⟨_, _, _, _, rfl, rfl, FL1.mkSet HV.out KB.out (by omega) H3.out⟩
        | exact ⟨_, _, _, _, rfl, rfl, FL1.mkAlloc HV.out H3.out⟩
  case rest =>
    obtain ⟨P, a3, n3, cp3, rfl, rfl, hF⟩ := hcut
    have hc := hF.c.cells
    have hv := hF.c.v
    have kd : wc.cell? ⟨pd, 0, none⟩ = some (.int .i64 (D : Int)) := by rw [cell_of_row _ _ _ _ _ _ hv.bd]; rfl
    have ks : wc.cell? ⟨ps, 0, none⟩ = some (.pointer (some ⟨g, 0, none⟩)) := by rw [cell_of_row _ _ _ _ _ _ hv.bs]; rfl
    have kg := hv.ci
    have kp0 : wc.cell? ⟨P, 0, none⟩ = some (.bool false) := by rw [cell_of_row _ _ _ _ _ _ hF.p]; rfl
    have kp1 : wc.cell? ⟨P, 1, none⟩ = some (.slice a3 n3 cp3) := by rw [cell_of_row _ _ _ _ _ _ hF.p]; rfl
    have kfp : ∀ j, wc.frozen? ⟨P, j, none⟩ = false := fun j => frozen_of_row _ _ _ _ _ hF.p
    have HF := Lib.hid hF
    clear hF hv hc
    by_cases hm : n * W < N
    · obtain rfl : er1 = 0 := by rw [HE1.out, if_pos hm]
      have hkd : wc.cell? ⟨pd, 0, none⟩ = some (.int .i64 (D : Int)) := kd
      obtain ⟨er2, he2⟩ : ∃ er2 : Int, er2 = if n * W + D < N then 0 else 2 := ⟨_, rfl⟩
      have HE2 := Lib.hid he2
      clear he2
      have C221 : Hid (∀ (w' : World) (d1 d2 : Value), IntsAt w' d1 (limbs (n * W)) → IntsAt w' d2 (limbs D) → Calls Tryz.prog 221 #[.agg #[.bool false, d1], .agg #[.bool false, d2]] w' fun e w'' => (∃ a n' cp, e = .returned (.tuple #[.agg #[.bool false, .slice a n' cp], .int .i64 er2]) ∧ (n * W + D < N → IntsUp w'.heap.size w'' (.slice a n' cp) (limbs (n * W + D)))) ∧ Below w'.heap.size w' w'') := Lib.hid (fun w' d1 d2 i1 i2 => by
        have hn' := hm
        rw [HN.out] at hn'
        rw [HE2.out, HN.out]
        exact c221 d1 d2 (n * W) D w' hn' (Nat.lt_trans hD big_s) i1 i2)
      go_wp2_with fail
      go_cut [5] (fun s5 wx => s5 = .int .i64 er2 ∧ ∃ (a4 : Option Addr) (n4 cp4 : Nat), FL1 N w pv pw pd ps g i n W D (n * W + D) (.slice a0 (limbs n).length cp0) P (.slice a4 n4 cp4) wx)
      case first =>
        go_region_with
          (first
            | (go_at_call 218; ((with_reducible refine (c218 D _ (by omega)).mono ?_); rintro e w1 ⟨d2, rfl, h2, hbb⟩; have HF : Hid (FL1 N w pv pw pd ps g i n W D (n * W) (.slice a0 (limbs n).length cp0) P (.slice a3 n3 cp3) w1) := Lib.hid (HF.out.drew.below hbb); obtain ⟨a2, cp2, rfl⟩ := row_form h2; have H2 := Lib.hid h2; have kq0 : w1.cell? ⟨P, 0, none⟩ = some (.bool false) := (by rw [cell_of_row _ _ _ _ _ _ HF.out.p]; rfl); have kq1 : w1.cell? ⟨P, 1, none⟩ = some (.slice a3 n3 cp3) := (by rw [cell_of_row _ _ _ _ _ _ HF.out.p]; rfl); clear h2 hbb))
            | (go_at_call 221; ((with_reducible refine (C221.out _ (.slice a3 n3 cp3) (.slice a2 (limbs D).length cp2) (HF.out.r hm).ints H2.out.ints).mono ?_); rintro e w2 ⟨⟨a4, n4, cp4, rfl, h3⟩, hb2⟩; have H3 : Hid (n * W + D < N → IntsUp w.heap.size w2 (.slice a4 n4 cp4) (limbs (n * W + D))) := Lib.hid (fun hm => (h3 hm).le HF.out.c.b.size); have HF := Lib.hid (HF.out.below hb2); have kc0 : w2.cell? ⟨P, 0, none⟩ = some (.bool false) := (by rw [cell_of_row _ _ _ _ _ _ HF.out.p]; rfl); have kc1 : w2.cell? ⟨P, 1, none⟩ = some (.slice a3 n3 cp3) := (by rw [cell_of_row _ _ _ _ _ _ HF.out.p]; rfl); have kf : ∀ j, w2.frozen? ⟨P, j, none⟩ = false := (fun j => frozen_of_row _ _ _ _ _ HF.out.p); clear h3 hb2)))
        all_goals
          go_wp2
          go_meet
          exact ⟨rfl, _, _, _, FL1.mkSet HF.out.c HF.out.p HF.out.lo H3.out⟩
      case rest =>
        clear kp0 kp1 kfp kd hkd ks kg HF
        obtain ⟨rfl, a4, n4, cp4, hF⟩ := hcut
        have hv := hF.c.v
        have l1 := lt_of_blk hF.c.v0.bv
        have l2 := lt_of_blk hF.c.v0.bw
        have l3 := lt_of_blk hF.c.v0.bd
        have k1 : wc.cell? ⟨pv, 0, none⟩ = some (.bool false) := by rw [cell_of_row _ _ _ _ _ _ hv.bv]; rfl
        have k2 : wc.cell? ⟨pv, 1, none⟩ = some (.slice a0 (limbs n).length cp0) := by rw [cell_of_row _ _ _ _ _ _ hv.bv]; rfl
        have k3 : wc.cell? ⟨pd, 0, none⟩ = some (.int .i64 (D : Int)) := by rw [cell_of_row _ _ _ _ _ _ hv.bd]; rfl
        have k4 : wc.cell? ⟨pw, 0, none⟩ = some (.int .i64 (W : Int)) := by rw [cell_of_row _ _ _ _ _ _ hv.bw]; rfl
        have k5 : ∀ j, wc.frozen? ⟨pv, j, none⟩ = false := fun j => frozen_of_row _ _ _ _ _ hv.bv
        have k6 : ∀ j, wc.frozen? ⟨pd, j, none⟩ = false := fun j => frozen_of_row _ _ _ _ _ hv.bd
        have k7 : ∀ j, wc.frozen? ⟨pw, j, none⟩ = false := fun j => frozen_of_row _ _ _ _ _ hv.bw
        have ks : wc.cell? ⟨ps, 0, none⟩ = some (.pointer (some ⟨g, 0, none⟩)) := by rw [cell_of_row _ _ _ _ _ _ hv.bs]; rfl
        have kg := hv.ci
        have kp0 : wc.cell? ⟨P, 0, none⟩ = some (.bool false) := by rw [cell_of_row _ _ _ _ _ _ hF.p]; rfl
        have kp1 : wc.cell? ⟨P, 1, none⟩ = some (.slice a4 n4 cp4) := by rw [cell_of_row _ _ _ _ _ _ hF.p]; rfl
        have HF := Lib.hid hF
        clear hF hv
        by_cases hm2 : n * W + D < N
        · obtain rfl : er2 = 0 := by rw [HE2.out, if_pos hm2]
          have hnl : ¬ (N ≤ n * W + D) := by omega
          obtain ⟨m1, m2⟩ := HF.out.c.v.mid (.slice a4 n4 cp4)
          have g1 : ((wc.setCell ⟨pv, 0, none⟩ (.bool false)).setCell ⟨pv, 1, none⟩ (.slice a4 n4 cp4)).cell? ⟨pd, 0, none⟩ = some (.int .i64 (D : Int)) := by rw [cell_of_row _ _ _ _ _ _ m1]; rfl
          have g2 : ∀ j, ((wc.setCell ⟨pv, 0, none⟩ (.bool false)).setCell ⟨pv, 1, none⟩ (.slice a4 n4 cp4)).frozen? ⟨pd, j, none⟩ = false := fun j => frozen_of_row _ _ _ _ _ m1
          have g3 : (((wc.setCell ⟨pv, 0, none⟩ (.bool false)).setCell ⟨pv, 1, none⟩ (.slice a4 n4 cp4)).setCell ⟨pd, 0, none⟩ (.int .i64 0)).cell? ⟨pw, 0, none⟩ = some (.int .i64 (W : Int)) := by rw [cell_of_row _ _ _ _ _ _ m2]; rfl
          have g4 : ∀ j, (((wc.setCell ⟨pv, 0, none⟩ (.bool false)).setCell ⟨pv, 1, none⟩ (.slice a4 n4 cp4)).setCell ⟨pd, 0, none⟩ (.int .i64 0)).frozen? ⟨pw, j, none⟩ = false := fun j => frozen_of_row _ _ _ _ _ m2
          clear m1 m2
          go_wp2
          go_end0
          exact ⟨fun _ => ⟨rfl, _, HF.out.c.done (HF.out.r hm2)⟩, fun h => absurd h hnl⟩
        · obtain rfl : er2 = 2 := by rw [HE2.out, if_neg hm2]
          go_wp2_with (go_at_call 192; ((with_reducible refine (c192 (i : Int) 23 _).mono ?_); rintro e w' ⟨rfl, rfl⟩))
          exact ⟨rfl, fun h => absurd h hm2, fun _ => ⟨rfl, HF.out.c.b⟩⟩
    · obtain rfl : er1 = 2 := by rw [HE1.out, if_neg hm]
      have hle : N ≤ n * W + D := by omega
      have hnl : ¬ (n * W + D < N) := by omega
      go_wp2_with (go_at_call 192; ((with_reducible refine (c192 (i : Int) 23 _).mono ?_); rintro e w' ⟨rfl, rfl⟩))
      exact ⟨rfl, fun h => absurd h hnl, fun _ => ⟨rfl, HF.out.c.b⟩⟩

theorem c219 (pv pw pd ps g i n W D : Nat) (dv : Value) (w : World) (H : VS pv pw pd ps g i n W D dv w) (hn : n < big) (hW0 : 0 < W) (hW : W < 1000000000) (hD : D < 1000000000) :
    Calls Tryz.prog 219 #[.pointer (some ⟨pv, 0, none⟩), .pointer (some ⟨pw, 0, none⟩), .pointer (some ⟨pd, 0, none⟩), .pointer (some ⟨ps, 0, none⟩)] w fun e w' =>
      (n * W + D < big → e = .returned (.tuple #[]) ∧ ∃ dv', VS pv pw pd ps g i (n * W + D) 1 0 dv' w' ∧ Keep (fun k => k = pv ∨ k = pw ∨ k = pd) w w' ∧ (∀ B, B ≤ pv → B ≤ pw → B ≤ pd → Below B w w')) ∧
      (big ≤ n * W + D → e = .panicked [{ v := .iface 134 (.agg #[.int .i64 (i : Int), .int .i64 23]), recovered := false }] ∧ Below w.heap.size w w') := c219N big rfl pv pw pd ps g i n W D dv w H hn hW0 hW hD
end Go.Proofs.YtagcfgoofiibfaaGreatDoor
namespace Go.Proofs.YtagcfgoofiibfaaGreatDoor
open Go Go.RowKit Go.ChangeMaps

/-- the number from byte k on -/
def valFrom (s : ByteArray) (b : Int) (k n : Nat) : Option Nat := valN b (s.data.toList.drop k) n
theorem valFrom_end (s : ByteArray) (b : Int) (k n : Nat) (h : s.size ≤ k) : valFrom s b k n = some n := by
  unfold valFrom
  rw [List.drop_eq_nil_of_le (by simpa using h)]
  rfl
theorem valFrom_step (s : ByteArray) (b : Int) (k n : Nat) (h : k < s.size) :
    valFrom s b k n = if wrth (bt s k) < 0 ∨ b ≤ wrth (bt s k) then none else valFrom s b (k + 1) (n * b.toNat + (wrth (bt s k)).toNat) := by
  unfold valFrom
  have hl : k < s.data.toList.length := by simpa using h
  rw [List.drop_eq_getElem_cons hl]
  have e : ((s.data.toList[k]'hl).toNat : Int) = bt s k := by
    rw [← bt_get s k h]; rfl
  simp only [valN, e]
theorem valN_mono (b : Int) (hb : 1 ≤ b) : ∀ (l : List UInt8) (n m : Nat), valN b l n = some m → n ≤ m
  | [], n, m, h => by simp only [valN, Option.some.injEq] at h; omega
  | c :: l, n, m, h => by
    simp only [valN] at h
    split at h
    · cases h
    · have h1 := valN_mono b hb l _ m h
      have h2 : n * 1 ≤ n * b.toNat := Nat.mul_le_mul_left n (by omega)
      omega
theorem valF_none {s : ByteArray} {b : Int} {k n : Nat} (hb : 1 ≤ b) (h : valFrom s b 0 0 = valFrom s b k n) (hn : big ≤ n) : valF s b = none := by
  unfold valF
  have e : valN b s.data.toList 0 = valFrom s b 0 0 := rfl
  rw [e, h]
  rcases hv : valFrom s b k n with _ | m
  · rfl
  · have := valN_mono b hb _ n m hv
    simp only [Option.bind_some]
    rw [if_neg (by omega)]
theorem valF_some {s : ByteArray} {b : Int} {n : Nat} (h : valFrom s b 0 0 = some n) (hn : n < big) : valF s b = some (limbs n) := by
  unfold valF
  have e : valN b s.data.toList 0 = valFrom s b 0 0 := rfl
  rw [e, h]
  simp only [Option.bind_some]
  rw [if_pos hn]
theorem valF_bad {s : ByteArray} {b : Int} (h : valFrom s b 0 0 = none) : valF s b = none := by
  unfold valF
  have e : valN b s.data.toList 0 = valFrom s b 0 0 := rfl
  rw [e, h]
  rfl
end Go.Proofs.YtagcfgoofiibfaaGreatDoor
