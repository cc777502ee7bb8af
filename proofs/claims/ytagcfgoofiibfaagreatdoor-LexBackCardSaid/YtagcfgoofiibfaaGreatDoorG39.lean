/- The lexer and what it reaches: part 39 of 41: O6. -/
import Derived.Test.YtagcfgoofiibfaaGreatDoorG23
set_option linter.unusedVariables false
set_option linter.unusedSimpArgs false
namespace Go.Proofs.YtagcfgoofiibfaaGreatDoor
open Go Go.RowKit Go.ChangeMaps

theorem c218_0 (w : World) : Calls Tryz.prog 218 #[.int .i64 0] w fun e w' => ∃ dv, e = .returned (.agg #[.bool false, dv]) ∧ IntsUp w.heap.size w' dv (limbs 0) ∧ Below w.heap.size w w' := c218 0 w (by decide)
theorem wrth_hi (b : Int) (h : b ≤ 255) : wrth b ≤ 255 := by
  unfold wrth; split
  · omega
  · split
    · omega
    · split <;> omega
theorem VS.start {w : World} {g i : Nat} {d0 : Value} {w1 : World} (hg : w.cell? ⟨g, 1, none⟩ = some (.int .i64 (i : Int)))
    (hb : Below ((w.alloc (Obj.cells #[.pointer (some ⟨g, 0, none⟩)] 92)).alloc (Obj.cells #[.bool false, .slice none 0 0] 39)).heap.size ((w.alloc (Obj.cells #[.pointer (some ⟨g, 0, none⟩)] 92)).alloc (Obj.cells #[.bool false, .slice none 0 0] 39)) w1)
    (h0 : IntsAt w1 d0 (limbs 0)) :
    VS w1.heap.size (w1.heap.size + 1 + 1) (w1.heap.size + 1) w.heap.size g i 0 1 0 d0 (((w1.alloc (Obj.cells #[.bool false, d0] 39)).alloc (Obj.cells #[.int .i64 0] 3)).alloc (Obj.cells #[.int .i64 1] 3)) ∧
    (((w1.alloc (Obj.cells #[.bool false, d0] 39)).alloc (Obj.cells #[.int .i64 0] 3)).alloc (Obj.cells #[.int .i64 1] 3)).heap[w.heap.size + 1]? = some (.cells #[.bool false, .slice none 0 0] 39 (0, 0)) ∧
    Below w.heap.size w (((w1.alloc (Obj.cells #[.bool false, d0] 39)).alloc (Obj.cells #[.int .i64 0] 3)).alloc (Obj.cells #[.int .i64 1] 3)) ∧ w.heap.size + 2 ≤ w1.heap.size := by
  have hs := hb.size
  simp at hs
  have hgl : g < w.heap.size := World.block_lt_of_cell? w _ hg
  have b1 : w1.heap[w.heap.size]? = some (.cells #[.pointer (some ⟨g, 0, none⟩)] 92 (0, 0)) := (hb.block _ (by simp; omega)).trans (blk_alloc (blk_new w _ rfl _) _)
  have b2 : w1.heap[w.heap.size + 1]? = some (.cells #[.bool false, .slice none 0 0] 39 (0, 0)) := (hb.block _ (by simp)).trans (blk_new _ _ (by simp) _)
  have hbw : Below w.heap.size w w1 := (((Below.refl _ _).alloc (Nat.le_refl _) _).alloc (by simp) _).trans (hb.mono (by simp; omega))
  have hbe : Below w1.heap.size w1 (((w1.alloc (Obj.cells #[.bool false, d0] 39)).alloc (Obj.cells #[.int .i64 0] 3)).alloc (Obj.cells #[.int .i64 1] 3)) := (((Below.refl _ _).alloc (Nat.le_refl _) _).alloc (by simp) _).alloc (by simp; omega) _
  refine ⟨⟨blk_alloc (blk_alloc (blk_new w1 _ rfl _) _) _, blk_new _ _ (by simp) _, blk_alloc (blk_new _ _ (by simp) _) _, (hbe.block _ (lt_of_blk b1)).trans b1, ?_, h0.below hbe, ?_, by omega, ⟨by omega, by omega, by omega⟩⟩, (hbe.block _ (lt_of_blk b2)).trans b2, hbw.trans (hbe.mono (by omega)), hs⟩
  · exact (hbe.cell (p := ⟨g, 1, none⟩) (by show g < _; omega)).trans ((hbw.cell (p := ⟨g, 1, none⟩) hgl).trans hg)
  · constructor <;> (intro e; have := (h0.lt _ e).2; omega)

theorem IntsAt.setN {w : World} {v : Value} {l : List Int} (h : IntsAt w v l) {b : Nat} (hb : v.ownBlock ≠ some b) (i : Nat) (u : Value) : IntsAt (w.setCell ⟨b, i, none⟩ u) v l := by
  rcases h.2 with h0 | ⟨g, cap, cur, hv, hg0, hg, h4⟩
  · exact ⟨h.1, .inl h0⟩
  · refine ⟨h.1, .inr ⟨g, cap, cur, hv, hg0, ?_, h4⟩⟩
    have hne : g ≠ b := by
      rintro rfl
      rw [hv] at hb
      exact hb rfl
    rw [heap_setCell_other _ _ _ _ hne]
    exact hg
theorem VS.put {pv pw pd ps g i n W D : Nat} {dv : Value} {w : World} (hv : VS pv pw pd ps g i n W D dv w) (X Y : Nat) :
    VS pv pw pd ps g i n Y X dv ((w.setCell ⟨pd, 0, none⟩ (.int .i64 (X : Int))).setCell ⟨pw, 0, none⟩ (.int .i64 (Y : Int))) := by
  obtain ⟨t1, t2⟩ := hv.ne
  have t4 : ps ≠ pw := by rintro rfl; have := hv.bw; rw [hv.bs] at this; injection this with this; injection this with _ this; exact absurd this (by decide)
  have t5 : ps ≠ pd := by rintro rfl; have := hv.bd; rw [hv.bs] at this; injection this with this; injection this with _ this; exact absurd this (by decide)
  refine ⟨?_, ?_, ?_, ?_, ?_, (hv.iv.setN hv.nv.2 0 _).setN hv.nv.1 0 _, hv.nv, hv.nd, hv.ng⟩
  · rw [heap_setCell_other _ _ _ _ t1, heap_setCell_other _ _ _ _ t2]; exact hv.bv
  · refine heap_setCell_same _ _ 0 #[.int .i64 (W : Int)] _ _ ?_
    rw [heap_setCell_other _ _ _ _ hv.nd]; exact hv.bw
  · rw [heap_setCell_other _ _ _ _ hv.nd.symm]; exact heap_setCell_same _ _ 0 #[.int .i64 (D : Int)] _ _ hv.bd
  · rw [heap_setCell_other _ _ _ _ t4, heap_setCell_other _ _ _ _ t5]; exact hv.bs
  · rw [World.cell?_setCell_far _ _ _ _ hv.ng.2.1.symm, World.cell?_setCell_far _ _ _ _ hv.ng.2.2.symm]; exact hv.ci

theorem val_nums (D W bn dn n : Nat) (hD : D < W) (hW : W < 16777216) (h16 : bn ≤ 16) (hd : dn < bn) :
    ∃ X Y : Nat, X + dn < Y ∧ Y < 268435457 ∧ (n * W + D) * bn + dn = n * Y + (X + dn) ∧ wrap64 ((D : Int) * (bn : Int)) = (X : Int) ∧ wrap64 ((W : Int) * (bn : Int)) = (Y : Int) ∧ wrap64 ((X : Int) + (dn : Int)) = ((X + dn : Nat) : Int) := by
  have e1 := Nat.mul_le_mul_right bn hD
  rw [Nat.succ_mul] at e1
  have e2 : W * bn ≤ W * 16 := Nat.mul_le_mul_left W h16
  have e3 : (n * W + D) * bn + dn = n * (W * bn) + (D * bn + dn) := by rw [Nat.add_mul, Nat.mul_assoc, Nat.add_assoc]
  have e4 : (D : Int) * (bn : Int) = ((D * bn : Nat) : Int) := by simp
  have e5 : (W : Int) * (bn : Int) = ((W * bn : Nat) : Int) := by simp
  refine ⟨D * bn, W * bn, ?_, ?_, e3, ?_, ?_, ?_⟩
  · generalize D * bn = x at e1 ⊢
    generalize W * bn = y at e1 ⊢
    omega
  · generalize W * bn = y at e2 ⊢
    omega
  · rw [e4]; apply wrap64_nat
    clear e3 e4 e5
    generalize D * bn = x at e1 ⊢
    generalize W * bn = y at e1 e2
    omega
  · rw [e5]; apply wrap64_nat
    clear e3 e4 e5
    generalize W * bn = y at e2 ⊢
    omega
  · rw [← Int.natCast_add]; apply wrap64_nat
    clear e3 e4 e5
    generalize D * bn = x at e1 ⊢
    generalize W * bn = y at e1 e2
    omega

theorem v_exit {pv pw pd ps g i n W D n3 B : Nat} {dv d3 : Value} {wr w3 : World} (hv : VS pv pw pd ps g i n W D dv wr) (ht : wr.heap[B + 1]? = some (.cells #[.bool false, .slice none 0 0] 39 (0, 0))) (hs : B + 2 ≤ pv)
    (hv3 : VS pv pw pd ps g i n3 1 0 d3 w3) (hk : Keep (fun k => k = pv ∨ k = pw ∨ k = pd) wr w3) (hpw : pw = pv + 1 + 1) (hpd : pd = pv + 1) :
    w3.cell? ⟨pv, 0, none⟩ = some (.bool false) ∧ w3.cell? ⟨pv, 1, none⟩ = some d3 ∧ w3.cell? ⟨B + 1, 0, none⟩ = some (.bool false) ∧ w3.cell? ⟨B + 1, 1, none⟩ = some (.slice none 0 0) ∧ (∀ j, w3.frozen? ⟨B + 1, j, none⟩ = false) := by
  have h := (hk.blk _ (lt_of_blk ht) (by rintro (h | h | h) <;> omega)).trans ht
  refine ⟨?_, ?_, ?_, ?_, fun j => frozen_of_row _ _ _ _ _ h⟩
  · rw [cell_of_row _ _ _ _ _ _ hv3.bv]; rfl
  · rw [cell_of_row _ _ _ _ _ _ hv3.bv]; rfl
  · rw [cell_of_row _ _ _ _ _ _ h]; rfl
  · rw [cell_of_row _ _ _ _ _ _ h]; rfl
theorem v_last {pv pw pd ps g i n3 B : Nat} {d3 : Value} {w wr w3 : World} (hb : Below B w wr) (ht : wr.heap[B + 1]? = some (.cells #[.bool false, .slice none 0 0] 39 (0, 0))) (hs : B + 2 ≤ pv)
    (hv3 : VS pv pw pd ps g i n3 1 0 d3 w3) (hk : Keep (fun k => k = pv ∨ k = pw ∨ k = pd) wr w3) (hpw : pw = pv + 1 + 1) (hpd : pd = pv + 1) (hb3 : Below B wr w3) :
    ((w3.setCell ⟨B + 1, 0, none⟩ (.bool false)).setCell ⟨B + 1, 1, none⟩ d3).cell? ⟨B + 1, 0, none⟩ = some (.bool false) ∧
    ((w3.setCell ⟨B + 1, 0, none⟩ (.bool false)).setCell ⟨B + 1, 1, none⟩ d3).cell? ⟨B + 1, 1, none⟩ = some d3 ∧
    IntsAt ((w3.setCell ⟨B + 1, 0, none⟩ (.bool false)).setCell ⟨B + 1, 1, none⟩ d3) d3 (limbs n3) ∧ Below B w ((w3.setCell ⟨B + 1, 0, none⟩ (.bool false)).setCell ⟨B + 1, 1, none⟩ d3) := by
  have h := (hk.blk _ (lt_of_blk ht) (by rintro (h | h | h) <;> omega)).trans ht
  have h1 := heap_setCell_same _ (B + 1) 0 _ _ (.bool false) h
  have h2 := heap_setCell_same _ (B + 1) 1 _ _ d3 h1
  have hne : d3.ownBlock ≠ some (B + 1) := by
    rcases hv3.iv.2 with ⟨rfl, _⟩ | ⟨b, cap, cur, rfl, _, hg, _⟩
    · intro e; cases e
    · intro e
      injection e with e
      subst e
      rw [h] at hg
      injection hg with hg
      injection hg with _ hg
      exact absurd hg (by decide)
  refine ⟨?_, ?_, (hv3.iv.setN hne _ _).setN hne _ _, (hb.trans hb3).setCell (p := ⟨B + 1, 0, none⟩) (by show B ≤ B + 1; omega) _ |>.setCell (p := ⟨B + 1, 1, none⟩) (by show B ≤ B + 1; omega) _⟩
  · rw [cell_of_row _ _ _ _ _ _ h2]; rfl
  · rw [cell_of_row _ _ _ _ _ _ h2]; rfl
theorem k_next {k m : Nat} (h : k < m ∧ m ≤ 1073741824) : wrap64 ((k : Int) + 1) = ((k + 1 : Nat) : Int) := by unfold wrap64; omega
theorem k_down {k m : Nat} (h : k < m ∧ m ≤ 1073741824) : m - (intOf (.int .i64 ((k + 1 : Nat) : Int))).toNat < m - (intOf (.int .i64 (k : Int))).toNat := by
  show m - (((k + 1 : Nat) : Int)).toNat < m - ((k : Int)).toNat
  omega
set_option maxRecDepth 100000 in
set_option maxHeartbeats 3200000 in
theorem c195 : C195 := by
  intro g i sd b w hb hg hsz
  obtain ⟨bn, rfl, hbn⟩ : ∃ bn : Nat, b = (bn : Int) ∧ 2 ≤ bn ∧ bn ≤ 16 := ⟨b.toNat, by omega, by omega⟩
  clear hb
  have hmf : ∀ (fn : Fn) (first cap : Array Value) (w : World), (Instr.makeFunc fn first cap).run Tryz.prog w = .ok (.func fn first cap) w := fun _ _ _ _ => rfl
  have hgl := World.block_lt_of_cell? w _ hg
  have HG := Lib.hid hg
  clear hg
  go_enter Tryz.func195, Tryz.ntmps195
  go_wp2_with (go_at_call 218; ((with_reducible refine (c218_0 _).mono ?_); rintro e w1 ⟨d0, rfl, h0, hb0⟩; obtain ⟨a0, cp0, rfl⟩ := row_form h0; have H0 := Lib.hid h0; have HB0 := Lib.hid hb0; clear h0 hb0))
  obtain ⟨hv0, ht0, hbb0, hs0⟩ := VS.start HG.out HB0.out H0.out.ints
  go_loopw [17] (fun s17 wr => ∃ (k n W D : Nat) (dv : Value), k ≤ sd.size ∧ s17 = .int .i64 (k : Int) ∧ VS w1.heap.size (w1.heap.size + 1 + 1) (w1.heap.size + 1) w.heap.size g i n W D dv wr ∧ n < big ∧ 0 < W ∧ W < 16777216 ∧ D < W ∧ valFrom sd (bn : Int) 0 0 = valFrom sd (bn : Int) k (n * W + D) ∧ Below w.heap.size w wr ∧ wr.heap[w.heap.size + 1]? = some (.cells #[.bool false, .slice none 0 0] 39 (0, 0)))
    (fun s17 _ => sd.size - (intOf s17).toNat)
  case atStart => exact ⟨0, 0, 1, 0, _, by omega, rfl, hv0, by unfold big; decide +kernel, by omega, by omega, by omega, rfl, hbb0, ht0⟩
  case round =>
    obtain ⟨k, n, W, D, dv, hk, rfl, hv, hn, hW0, hW, hD, hval, hB, ht⟩ := hrel
    have kv1 := hv.ci
    have ks : wr.cell? ⟨w.heap.size, 0, none⟩ = some (.pointer (some ⟨g, 0, none⟩)) := by rw [cell_of_row _ _ _ _ _ _ hv.bs]; rfl
    have kW : wr.cell? ⟨w1.heap.size + 1 + 1, 0, none⟩ = some (.int .i64 (W : Int)) := by rw [cell_of_row _ _ _ _ _ _ hv.bw]; rfl
    have kD : wr.cell? ⟨w1.heap.size + 1, 0, none⟩ = some (.int .i64 (D : Int)) := by rw [cell_of_row _ _ _ _ _ _ hv.bd]; rfl
    have fW : ∀ j, wr.frozen? ⟨w1.heap.size + 1 + 1, j, none⟩ = false := fun j => frozen_of_row _ _ _ _ _ hv.bw
    have fD : ∀ j, wr.frozen? ⟨w1.heap.size + 1, j, none⟩ = false := fun j => frozen_of_row _ _ _ _ _ hv.bd
    have HV := Lib.hid hv
    have HN := Lib.hid hn
    have HB := Lib.hid hB
    have HT := Lib.hid ht
    have HS0 := Lib.hid hs0
    have HVAL := Lib.hid hval
    have b0 := bt_lo sd k
    have b1 := bt_hi sd k
    have bh := wrth_hi (bt sd k) b1
    have hb1 : (1 : Int) ≤ (bn : Int) := by omega
    clear hv hn hB ht hval
    by_cases hlt : k < sd.size
    · have hltz : (k : Int) < (sd.size : Int) := by omega
      have hbt : ((sd[k]'hlt).toNat : Int) = bt sd k := bt_get sd k hlt
      rcases hbad : decide (wrth (bt sd k) < 0 ∨ (bn : Int) ≤ wrth (bt sd k)) with _ | _
      · have hgood : ¬ (wrth (bt sd k) < 0 ∨ (bn : Int) ≤ wrth (bt sd k)) := of_decide_eq_false hbad
        have g1 : ¬ wrth (bt sd k) < 0 := fun h => hgood (.inl h)
        have g2 : ¬ (bn : Int) ≤ wrth (bt sd k) := fun h => hgood (.inr h)
        clear hbad hgood
        obtain ⟨dn, hdn⟩ : ∃ dn : Nat, wrth (bt sd k) = (dn : Int) := ⟨(wrth (bt sd k)).toNat, by omega⟩
        have hstep : valFrom sd (bn : Int) k (n * W + D) = valFrom sd (bn : Int) (k + 1) ((n * W + D) * bn + dn) := by
          rw [valFrom_step _ _ _ _ hlt, if_neg (by rintro (h | h); exact g1 h; exact g2 h), hdn]; rfl
        have hdb : dn < bn := by omega
        have h9 : (0 : Int) ≤ (dn : Int) := by omega
        have h8 : (dn : Int) < (bn : Int) := by omega
        obtain ⟨X, Y, hXY, hYb, htot, q1, q2, q3⟩ := val_nums D W bn dn n hD hW hbn.2 hdb
        rw [htot] at hstep
        have HVAL2 := Lib.hid (HVAL.out.trans hstep)
        rw [hdn] at g1 g2 bh
        clear hstep htot HVAL
        have NUM := Lib.hid (And.intro hXY (And.intro hYb (And.intro hD hW)))
        have QS := Lib.hid (And.intro q1 (And.intro q2 q3))
        have HKS : Hid (k < sd.size ∧ sd.size ≤ 1073741824) := Lib.hid ⟨hlt, hsz⟩
        clear hXY hYb hD hW hW0 q1 q2 q3 hdb bh b0 b1 hbn hs0 hk hsz
        go_wp2_with (first | (go_at_call 196; ((with_reducible refine (c196 (bt sd k) (bt_lo _ _) (bt_hi _ _) _).mono ?_); rintro e w' ⟨rfl, rfl⟩)))
        go_region
        rw [QS.out.1, QS.out.2.2, QS.out.2.1]
        have key : VS w1.heap.size (w1.heap.size + 1 + 1) (w1.heap.size + 1) w.heap.size g i n Y (X + dn) dv (((wr.setCell ⟨w1.heap.size + 1, 0, none⟩ (.int .i64 ((X + dn : Nat) : Int))).setCell ⟨w1.heap.size + 1 + 1, 0, none⟩ (.int .i64 (Y : Int))).drew) ∧ Below w.heap.size w (((wr.setCell ⟨w1.heap.size + 1, 0, none⟩ (.int .i64 ((X + dn : Nat) : Int))).setCell ⟨w1.heap.size + 1 + 1, 0, none⟩ (.int .i64 (Y : Int))).drew) ∧
            (((wr.setCell ⟨w1.heap.size + 1, 0, none⟩ (.int .i64 ((X + dn : Nat) : Int))).setCell ⟨w1.heap.size + 1 + 1, 0, none⟩ (.int .i64 (Y : Int))).drew).heap[w.heap.size + 1]? = some (.cells #[.bool false, .slice none 0 0] 39 (0, 0)) := by
          refine ⟨(HV.out.put (X + dn) Y).below (Dr.below (Dr.here _ 1) _), ?_, ?_⟩
          · have hs := HS0.out
            exact ((HB.out.setCell (p := ⟨w1.heap.size + 1, 0, none⟩) (by show w.heap.size ≤ w1.heap.size + 1; omega) _).setCell (p := ⟨w1.heap.size + 1 + 1, 0, none⟩) (by show w.heap.size ≤ w1.heap.size + 1 + 1; omega) _).drew
          · have hs := HS0.out
            show ((wr.setCell ⟨w1.heap.size + 1, 0, none⟩ (.int .i64 ((X + dn : Nat) : Int))).setCell ⟨w1.heap.size + 1 + 1, 0, none⟩ (.int .i64 (Y : Int))).heap[w.heap.size + 1]? = _
            rw [heap_setCell_other _ _ _ _ (by show w.heap.size + 1 ≠ w1.heap.size + 1 + 1; omega), heap_setCell_other _ _ _ _ (by show w.heap.size + 1 ≠ w1.heap.size + 1; omega)]
            exact HT.out
        generalize hW2 : (((wr.setCell ⟨w1.heap.size + 1, 0, none⟩ (.int .i64 ((X + dn : Nat) : Int))).setCell ⟨w1.heap.size + 1 + 1, 0, none⟩ (.int .i64 (Y : Int))).drew) = W2 at key ⊢
        clear hW2 kv1 ks kW kD fW fD
        obtain ⟨hv2, hB2, ht2⟩ := key
        have kY : W2.cell? ⟨w1.heap.size + 1 + 1, 0, none⟩ = some (.int .i64 (Y : Int)) := by rw [cell_of_row _ _ _ _ _ _ hv2.bw]; rfl
        have HV2 := Lib.hid hv2
        have HB2 := Lib.hid hB2
        have HT2 := Lib.hid ht2
        clear hv2 hB2 ht2
        by_cases hbig : 16777216 ≤ Y
        · have hbz : (16777216 : Int) ≤ (Y : Int) := by omega
          have CC := Lib.hid (c219 w1.heap.size (w1.heap.size + 1 + 1) (w1.heap.size + 1) w.heap.size g i n Y (X + dn) dv W2 HV2.out HN.out (by have := NUM.out; omega) (by have := NUM.out; omega) (by have := NUM.out; omega))
          by_cases hfit : n * Y + (X + dn) < big
          · have HF := Lib.hid hfit
            clear hfit
            go_wp2_with (go_at_call 219; ((with_reducible refine CC.out.mono ?_); intro e w3 hp; obtain ⟨rfl, dv3, hv3, hk3, hb3⟩ := hp.1 HF.out; have HV3 := Lib.hid hv3; have HK3 := Lib.hid hk3; have HB3 := Lib.hid hb3; clear hp hv3 hk3 hb3))
            have hks := HKS.out
            have hwk := k_next hks
            rw [hwk]
            refine ⟨⟨k + 1, n * Y + (X + dn), 1, 0, dv3, hks.1, rfl, HV3.out, HF.out, by have := NUM.out; omega, by have := NUM.out; omega, by have := NUM.out; omega, ?_, ?_, ?_⟩, k_down hks⟩
            · rw [HVAL2.out]; congr 1; omega
            · exact HB2.out.trans (HB3.out w.heap.size (by have := HS0.out; omega) (by have := HS0.out; omega) (by have := HS0.out; omega))
            · exact (HK3.out.blk _ (lt_of_blk HT2.out) (by have := HS0.out; rintro (h | h | h) <;> omega)).trans HT2.out
          · have hfit2 : big ≤ n * Y + (X + dn) := Nat.le_of_not_lt hfit
            have HF := Lib.hid hfit2
            clear hfit hfit2
            go_wp2_with (go_at_call 219; ((with_reducible refine CC.out.mono ?_); intro e w3 hp; obtain ⟨rfl, hb3⟩ := hp.2 HF.out; have HB3 := Lib.hid hb3; clear hp hb3))
            have hno := valF_none hb1 HVAL2.out HF.out
            rw [hno]
            exact ⟨rfl, rfl, HB2.out.trans (HB3.out.mono HB2.out.size)⟩
        · have hbz : ¬ ((16777216 : Int) ≤ (Y : Int)) := by omega
          go_wp2
          have hks := HKS.out
          have hwk := k_next hks
          rw [hwk]
          refine ⟨⟨k + 1, n, Y, X + dn, dv, hks.1, rfl, HV2.out, HN.out, by have := NUM.out; omega, by have := NUM.out; omega, by have := NUM.out; omega, ?_, ?_, ?_⟩, k_down hks⟩
          · exact HVAL2.out
          · exact HB2.out
          · exact HT2.out
      · have hbd : wrth (bt sd k) < 0 ∨ (bn : Int) ≤ wrth (bt sd k) := of_decide_eq_true hbad
        have hnone : valF sd (bn : Int) = none := valF_bad (HVAL.out.trans (by rw [valFrom_step _ _ _ _ hlt, if_pos hbd]))
        clear hbad
        have HNONE := Lib.hid hnone
        clear hnone
        by_cases g1 : wrth (bt sd k) < 0
        · go_wp2_with (first | (go_at_call 196; ((with_reducible refine (c196 (bt sd k) (bt_lo _ _) (bt_hi _ _) _).mono ?_); rintro e w' ⟨rfl, rfl⟩)) | (go_at_call 192; ((with_reducible refine (c192 (i : Int) 23 _).mono ?_); rintro e w' ⟨rfl, rfl⟩)))
          rw [HNONE.out]
          exact ⟨rfl, rfl, HB.out⟩
        · have g2 : (bn : Int) ≤ wrth (bt sd k) := by rcases hbd with h | h; exact absurd h g1; exact h
          go_wp2_with (first | (go_at_call 196; ((with_reducible refine (c196 (bt sd k) (bt_lo _ _) (bt_hi _ _) _).mono ?_); rintro e w' ⟨rfl, rfl⟩)) | (go_at_call 192; ((with_reducible refine (c192 (i : Int) 23 _).mono ?_); rintro e w' ⟨rfl, rfl⟩)))
          rw [HNONE.out]
          exact ⟨rfl, rfl, HB.out⟩
    · have hltz : ¬ ((k : Int) < (sd.size : Int)) := by omega
      have hend : valFrom sd (bn : Int) 0 0 = some (n * W + D) := HVAL.out.trans (valFrom_end _ _ _ _ (by omega))
      have HEND := Lib.hid hend
      clear hend
      have CC := Lib.hid (c219 w1.heap.size (w1.heap.size + 1 + 1) (w1.heap.size + 1) w.heap.size g i n W D dv wr HV.out HN.out hW0 (by omega) (by omega))
      clear kv1 ks kW kD fW fD
      by_cases hfit : n * W + D < big
      · have HF := Lib.hid hfit
        clear hfit hW hD hW0
        go_wp2_with (go_at_call 219; ((with_reducible refine CC.out.mono ?_); intro e w3 hp; obtain ⟨rfl, dv3, hv3, hk3, hb3⟩ := hp.1 HF.out; obtain ⟨a3, cp3, rfl⟩ := row_form hv3.iv; obtain ⟨k0, k1, t0, t1, ft⟩ := v_exit HV.out HT.out HS0.out hv3 hk3 rfl rfl; have HV3 := Lib.hid hv3; have HK3 := Lib.hid hk3; have HB3 := Lib.hid hb3; clear hp hv3 hk3 hb3))
        rw [valF_some HEND.out HF.out]
        obtain ⟨c0, c1, hI, hB3⟩ := v_last HB.out HT.out HS0.out HV3.out HK3.out rfl rfl (HB3.out w.heap.size (by have := HS0.out; omega) (by have := HS0.out; omega) (by have := HS0.out; omega))
        clear k0 k1 t0 t1 ft
        exact bodyPost_ret (v := .agg #[.bool false, .slice a3 (limbs (n * W + D)).length cp3]) (by simp [results, Tryz.results195, go_sem, c0, c1]) rfl ⟨⟨_, rfl, hI⟩, hB3⟩
      · have hfit2 : big ≤ n * W + D := Nat.le_of_not_lt hfit
        have HF := Lib.hid hfit2
        clear hfit hfit2 hW hD hW0
        have hno := valF_none hb1 HVAL.out HF.out
        have HNO := Lib.hid hno
        clear hno
        go_wp2_with (go_at_call 219; ((with_reducible refine CC.out.mono ?_); intro e w3 hp; obtain ⟨rfl, hb3⟩ := hp.2 HF.out; have HB3 := Lib.hid hb3; clear hp hb3))
        rw [HNO.out]
        exact ⟨rfl, rfl, HB.out.trans (HB3.out.mono HB.out.size)⟩
end Go.Proofs.YtagcfgoofiibfaaGreatDoor
