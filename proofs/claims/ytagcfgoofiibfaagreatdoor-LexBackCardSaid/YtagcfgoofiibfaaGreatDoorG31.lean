/- The lexer and what it reaches: part 31 of 41: V1, V2, V3. -/
import Derived.Test.YtagcfgoofiibfaaGreatDoorG30
import Derived.Deep.RegionHeld3
set_option linter.unusedVariables false
set_option linter.unusedSimpArgs false
namespace Go.Proofs.YtagcfgoofiibfaaGreatDoor
open Go Go.RowKit
attribute [local go_sem] Oper.semAt_some

def CmA (l1 l2 : List Int) (w : World) (v1 v2 : Value) (g2 : Option Addr) (cp2 : Nat) (_ : Nat) (pre : List Nat) (x : Nat) (a : Act) (W : World) : Prop := CmI l1 l2 w w.heap.size g2 cp2 pre W ∧ x < l1.length ∧
  a = { tmps := #[v1, v2, undef, .pointer (some ⟨w.heap.size, 0, none⟩), .pointer (some ⟨w.heap.size + 1, 0, none⟩), .int .i64 0, .int .i64 (x : Int), .int .i64 (atL l1 x), undef, v1, .int .i64 (l1.length : Int), v2, .int .i64 (l2.length : Int), .int .i64 0, .int .i64 0, .bool false, undef, v1, .func (.func 216) #[] #[.pointer (some ⟨w.heap.size + 1 + 1, 0, none⟩)], .int .i64 (x : Int), .int .i64 (atL l1 x), undef, undef, undef, undef, undef, undef, undef, undef, undef], defers := [] }

set_option maxRecDepth 100000 in
set_option maxHeartbeats 3200000 in
theorem c173 (v1 v2 : Value) (l1 l2 : List Int) (w : World) (h1 : IntsAt w v1 l1) (h2 : IntsAt w v2 l2) (hl1 : l1.length ≤ 1000000) : Calls Tryz.prog 173 #[v1, v2] w (CmpTo l1 l2 w) := by
  obtain ⟨a1, cp1, rfl⟩ := row_form h1
  obtain ⟨a2, cp2, rfl⟩ := row_form h2
  by_cases hl : l1.length = l2.length
  · have hcmp : Lib.compareInt (l1.length : Int) (l2.length : Int) = 0 := (compareInt_zero _ _).2 (by omega)
    have H1 := Lib.hid h1
    have H2 := Lib.hid h2
    have HL := Lib.hid hl
    have HCMP := Lib.hid hcmp
    clear h1 h2 hl hcmp
    have hf203 : Fence.wide.fn 203 := trivial
    have hf190 : Fence.wide.fn 190 := trivial
    refine (callsIn_wide (n := 5)).1 ?_
    refine callsIn_of_wp_marks Tryz.func173 rfl trivial ?_ rfl
    simp only [Tryz.ntmps173, List.size_toArray, List.length_cons, List.length_nil, Nat.reduceAdd, Nat.reduceSub, Array.replicate_succ, Array.replicate_zero, List.push_toArray, List.append_toArray, List.nil_append, List.cons_append]
    gi_wp2_with (gi_at_call 203; refine (callsIn_wide.2 (Tryz.cmp_Compare_int _ _ _)).mono ?_; rintro e w' ⟨rfl, rfl⟩; rw [HCMP.out])
    gi_wp2_with (gi_at_call 190; refine (callsIn_wide.2 (c190 _ _ _ _)).mono ?_; rintro e w' ⟨rfl, rfl⟩)
    generalize hW : World.alloc _ _ = W0
    have hz : W0.heap.size = w.heap.size + 3 := by rw [← hW]; simp
    have hbl : Below w.heap.size w W0 := by rw [← hW]; exact (((Below.refl _ _).alloc (Nat.le_refl _) _).alloc (by simp) _).alloc (by simp; omega) _
    have b0 : W0.heap[w.heap.size]? = some (.cells #[.slice a2 l2.length cp2] 186 (0, 0)) := by rw [← hW]; exact blk_alloc (blk_alloc (blk_new _ _ rfl _) _) _
    have b1 : W0.heap[w.heap.size + 1]? = some (.cells #[.int .i64 0] 3 (0, 0)) := by rw [← hW]; exact blk_alloc (blk_new _ _ (by simp) _) _
    have b2 : W0.heap[w.heap.size + 1 + 1]? = some (.cells #[.slice a1 l1.length cp1] 186 (0, 0)) := by rw [← hW]; exact blk_new _ _ (by simp) _
    clear hW
    have i1 := H1.out.below hbl
    have i2 := H2.out.below hbl
    have hx1 : l1 ≠ [] → ∃ g, a1 = some ⟨g, 0, none⟩ ∧ g < W0.heap.size ∧ ¬ (g = w.heap.size + 1) ∧ ∀ j, j < l1.length → W0.cell? ⟨g, j, none⟩ = some (.int .i64 (atL l1 j)) := fun hne => by
      rcases H1.out.form with ⟨_, h0⟩ | ⟨g, q, e, _, _, hg, x⟩
      · exact absurd h0 hne
      · injection e with e1 e2 e3
        exact ⟨g, e1, by omega, by omega, fun j hj => (hbl.cell (p := ⟨g, j, none⟩) hg).trans (x j hj)⟩
    have hx2 : l2 ≠ [] → ∃ g, a2 = some ⟨g, 0, none⟩ ∧ g < w.heap.size ∧ ∀ j, j < l2.length → w.cell? ⟨g, j, none⟩ = some (.int .i64 (atL l2 j)) := fun hne => by
      rcases H2.out.form with ⟨_, h0⟩ | ⟨g, q, e, _, _, hg, x⟩
      · exact absurd h0 hne
      · injection e with e1 e2 e3
        exact ⟨g, e1, hg, x⟩
    have HX2 := Lib.hid hx2
    clear hx2 i1 i2
    refine rf_law (by omega) (gf := 216) (lb := #[.pointer (some ⟨w.heap.size + 1 + 1, 0, none⟩)]) (by rfl) (enters_of Tryz.func216 (by kernel_rfl) rfl)
      (c216 _ _ a1 cp1 l1 hl1 (fun r => r = w.heap.size + 1) (by omega) W0 (by rintro r rfl; omega) (by rw [cell_of_row _ _ _ _ _ _ b2]; rfl) hx1) (fun _ => rfl)
      (fun r h => h.elim) (by rintro r rfl; omega)
      (CmI l1 l2 w w.heap.size a2 cp2) (CmX l1 l2 w w.heap.size) ?hI ?hIx ⟨by simp, b0, b1, hbl⟩ (CmA l1 l2 w (.slice a1 l1.length cp1) (.slice a2 l2.length cp2) a2 cp2) ?hA ?assign ?body ?done ?stop
    case hI =>
      rintro pre A A' row ⟨h1, c0, c1, hB⟩ hg hr
      exact ⟨h1, grown_blk hg hr (by omega) c0, grown_blk hg hr (by omega) c1, hB.grown hg hB.size (fun k e => by rcases hr k e with h | h; exact h.elim; omega)⟩
    case hIx =>
      rintro c pre A A' row ⟨h1, r, h2, h3, c1, hB⟩ hg hr
      exact ⟨h1, r, h2, h3, grown_blk hg hr (by omega) c1, hB.grown hg hB.size (fun k e => by rcases hr k e with h | h; exact h.elim; omega)⟩
    case hA =>
      rintro l pre x a' A r o' hl hlr ⟨⟨h1, c0, c1, hB⟩, hx, ha⟩
      exact ⟨⟨h1, blk_putObj o' hlr c0, blk_putObj o' hlr c1, below_putObj o' hB (by have := hbl.size; omega)⟩, hx, ha⟩
    case assign =>
      rintro l pre x W r hl hlr ⟨h1, c0, c1, hB⟩ hlen hgx
      have hWl := lt_of_blk hlr
      gi_wp2
      exact ⟨Keep.refl _ _, ⟨h1, c0, c1, hB⟩, hgx, rfl⟩
    case body =>
      rintro l pre x a' W r hl hlr ⟨⟨h1, c0, c1, hB⟩, hx, rfl⟩ hlen _
      have hl12 := HL.out
      obtain ⟨g, rfl, hg, hxx⟩ := HX2.out (by rintro rfl; rw [List.length_nil] at hl12; omega)
      have k0 : W.cell? ⟨w.heap.size, 0, none⟩ = some (.slice (some ⟨g, 0, none⟩) l2.length cp2) := by rw [cell_of_row _ _ _ _ _ _ c0]; rfl
      have k1 : W.cell? ⟨w.heap.size + 1, 0, none⟩ = some (.int .i64 0) := by rw [cell_of_row _ _ _ _ _ _ c1]; rfl
      have f1 : W.frozen? ⟨w.heap.size + 1, 0, none⟩ = false := frozen_of_row _ _ _ _ _ c1
      have kx : W.cell? ⟨g, x, none⟩ = some (.int .i64 (atL l2 x)) := (hB.cell (p := ⟨g, x, none⟩) hg).trans (hxx x (by omega))
      have q0 : (0 : Int) ≤ (x : Int) := by omega
      have q1 : (x : Int) < (l2.length : Int) := by omega
      have C0 := Lib.hid c0
      have C1 := Lib.hid c1
      have HB := Lib.hid hB
      have HH1 := Lib.hid h1
      have hf203 : Fence.wide.fn 203 := trivial
      clear c0 c1 hB h1 hl12 hxx hx1 b0 b1 b2 hbl hlr
      obtain ⟨q, hq⟩ : ∃ q, Lib.compareInt (atL l1 x) (atL l2 x) = q := ⟨_, rfl⟩
      have HQ := Lib.hid hq
      clear hq
      by_cases hq0 : q = 0
      · subst hq0
        have heq : atL l1 x = atL l2 x := (compareInt_zero _ _).1 HQ.out
        have HEQ := Lib.hid heq
        clear heq
        gi_wp2_with (gi_at_call 203; refine (callsIn_wide.2 (Tryz.cmp_Compare_int _ _ _)).mono ?_; rintro e w' ⟨rfl, rfl⟩; rw [HQ.out])
        exact ⟨Keep.refl _ _, fun j hj => (List.mem_append.1 hj).elim (HH1.out j) (fun e => by simp at e; subst e; exact HEQ.out), C0.out, C1.out, HB.out⟩
      · have hne : l1 ≠ l2 := by
          rintro rfl
          exact hq0 (by rw [← HQ.out]; exact (compareInt_zero _ _).2 rfl)
        have hqb : (q != 0) = true := by simpa using hq0
        have HNE := Lib.hid hne
        have HQ0 := Lib.hid hq0
        clear hne hq0
        gi_wp2_with (gi_at_call 203; refine (callsIn_wide.2 (Tryz.cmp_Compare_int _ _ _)).mono ?_; rintro e w' ⟨rfl, rfl⟩; rw [HQ.out])
        refine ⟨⟨by simp, fun k hk hy => ?_⟩, rfl, q, HQ0.out, HNE.out, blk_set_same C1.out _, ?_⟩
        · rw [heap_setCell_other _ _ _ _ (by rintro rfl; exact hy rfl)]
        · exact HB.out.setCell (p := ⟨w.heap.size + 1, 0, none⟩) (by simp) _
    case done =>
      rintro D xs W hD hxs ⟨h1, c0, c1, hB⟩ hK
      have k1 : W.cell? ⟨w.heap.size + 1, 0, none⟩ = some (.int .i64 0) := by rw [cell_of_row _ _ _ _ _ _ c1]; rfl
      have f1 : W.frozen? ⟨w.heap.size + 1, 0, none⟩ = false := frozen_of_row _ _ _ _ _ c1
      have heq : l1 = l2 := ints_ext HL.out (fun j hj => h1 j (hxs j hj))
      have HEQ := Lib.hid heq
      have C1 := Lib.hid c1
      have HB := Lib.hid hB
      have HK := Lib.hid hK
      clear c0 c1 hB hK b0 b1 b2 hbl hx1 heq h1 hxs
      gi_wp2
      have e1 := blk_set_same C1.out (.int .i64 0)
      have eK := blk_set_other HK.out (b := w.heap.size + 1) (i := 0) (.int .i64 0) (by omega)
      have eB := HB.out.setCell (p := ⟨w.heap.size + 1, 0, none⟩) (by simp) (.int .i64 0)
      refine ⟨by simp, .inl ⟨_, _, rfl, run_takeDeferred eK, ?_⟩⟩
      have r1 : World.cell? _ ⟨w.heap.size + 1, 0, none⟩ = _ := cell_of_row _ _ _ _ _ _ (blk_put_other e1 (.deferred none) (D := D) (by omega))
      refine ⟨.int .i64 0, ?_, ⟨0, rfl, ⟨fun _ => HEQ.out, fun _ => rfl⟩, eB.grown (grownBy_putObj' _ D _) eB.size (fun k e => by cases e; omega)⟩⟩
      simp [results, Tryz.f173, go_sem, r1]
    case stop =>
      rintro D c pre W hD _ ⟨rfl, r, hr0, hne, c1, hB⟩ hK
      gi_wp2
      refine ⟨by simp, .inl ⟨_, _, rfl, run_takeDeferred hK, ?_⟩⟩
      have r1 : World.cell? _ ⟨w.heap.size + 1, 0, none⟩ = _ := cell_of_row _ _ _ _ _ _ (blk_put_other c1 (.deferred none) (D := D) (by omega))
      refine ⟨.int .i64 r, ?_, ⟨r, rfl, ⟨fun h => absurd h hr0, fun h => absurd h hne⟩, hB.grown (grownBy_putObj' _ D _) hB.size (fun k e => by cases e; omega)⟩⟩
      simp [results, Tryz.f173, go_sem, r1]
  · have hcmp : Lib.compareInt (l1.length : Int) (l2.length : Int) ≠ 0 := fun h => hl (by have := (compareInt_zero _ _).1 h; omega)
    have hne : l1 ≠ l2 := by rintro rfl; exact hl rfl
    obtain ⟨r, hr⟩ : ∃ r, Lib.compareInt (l1.length : Int) (l2.length : Int) = r := ⟨_, rfl⟩
    rw [hr] at hcmp
    have hr2 : (r != 0) = true := by simpa using hcmp
    have HR := Lib.hid hr
    have HN := Lib.hid hne
    clear h1 h2 hl hr hne
    go_enter Tryz.func173, Tryz.ntmps173
    go_wp2_with (go_at_call 203; refine (Tryz.cmp_Compare_int _ _ _).mono ?_; rintro e w' ⟨rfl, rfl⟩; rw [HR.out])
    refine bodyPost_ret (v := .int .i64 r) (by simp [results, Tryz.results173, go_sem]) rfl ?_
    exact ⟨r, rfl, ⟨fun h => absurd h hcmp, fun h => absurd h HN.out⟩, ((Below.refl w.heap.size w).alloc (Nat.le_refl _) _).alloc (by simp) _⟩
end Go.Proofs.YtagcfgoofiibfaaGreatDoor
namespace Go.Proofs.YtagcfgoofiibfaaGreatDoor
open Go Go.RowKit

set_option maxRecDepth 100000 in
set_option maxHeartbeats 3200000 in
theorem c111 (v1 v2 : Value) (l1 l2 : List Int) (w : World) (h1 : IntsAt w v1 l1) (h2 : IntsAt w v2 l2) (hl1 : l1.length ≤ 1000000) : Calls Tryz.prog 111 #[.agg #[.bool false, v1], .agg #[.bool false, v2]] w (CmpTo l1 l2 w) := by
  obtain ⟨a1, cp1, rfl⟩ := row_form h1
  obtain ⟨a2, cp2, rfl⟩ := row_form h2
  have HC := Lib.hid (fun X (hX : Below w.heap.size w X) => c173 _ _ l1 l2 X (h1.below hX) (h2.below hX) hl1)
  clear h1 h2
  have KS : Hid (∀ X, Below (w.heap.size + 2) ((w.alloc (.cells #[.bool false, .slice a1 l1.length cp1] 39)).alloc (.cells #[.bool false, .slice a2 l2.length cp2] 39)) X →
      X.cell? ⟨w.heap.size, 0, none⟩ = some (.bool false) ∧ X.cell? ⟨w.heap.size, 1, none⟩ = some (.slice a1 l1.length cp1) ∧ X.cell? ⟨w.heap.size + 1, 0, none⟩ = some (.bool false) ∧ X.cell? ⟨w.heap.size + 1, 1, none⟩ = some (.slice a2 l2.length cp2)) := Lib.hid (fun X hX => by
    have b1 : X.heap[w.heap.size]? = some (.cells #[.bool false, .slice a1 l1.length cp1] 39 (0, 0)) := (hX.block _ (by omega)).trans (blk_alloc (blk_new _ _ rfl _) _)
    have b2 : X.heap[w.heap.size + 1]? = some (.cells #[.bool false, .slice a2 l2.length cp2] 39 (0, 0)) := (hX.block _ (by omega)).trans (blk_new _ _ (by simp) _)
    exact ⟨by rw [cell_of_row _ _ _ _ _ _ b1]; rfl, by rw [cell_of_row _ _ _ _ _ _ b1]; rfl, by rw [cell_of_row _ _ _ _ _ _ b2]; rfl, by rw [cell_of_row _ _ _ _ _ _ b2]; rfl⟩)
  have hW0 : Below w.heap.size w ((w.alloc (.cells #[.bool false, .slice a1 l1.length cp1] 39)).alloc (.cells #[.bool false, .slice a2 l2.length cp2] 39)) := ((Below.refl _ _).alloc (Nat.le_refl _) _).alloc (by simp) _
  have HW0 := Lib.hid hW0
  clear hW0
  have HB0 : Hid (Below (w.heap.size + 2) ((w.alloc (.cells #[.bool false, .slice a1 l1.length cp1] 39)).alloc (.cells #[.bool false, .slice a2 l2.length cp2] 39)) ((w.alloc (.cells #[.bool false, .slice a1 l1.length cp1] 39)).alloc (.cells #[.bool false, .slice a2 l2.length cp2] 39))) := Lib.hid (Below.refl _ _)
  go_enter Tryz.func111, Tryz.ntmps111
  go_wp2
  go_region_held3 (fun w' : World => w'.cell? ⟨w.heap.size, 0, none⟩ = some (.bool false) ∧ w'.cell? ⟨w.heap.size, 1, none⟩ = some (.slice a1 l1.length cp1) ∧ w'.cell? ⟨w.heap.size + 1, 0, none⟩ = some (.bool false) ∧ w'.cell? ⟨w.heap.size + 1, 1, none⟩ = some (.slice a2 l2.length cp2)) (first | exact KS.out _ HB0.out | exact KS.out _ HB0.out.drew)
    (first | (go_at_call 172; ((with_reducible refine (c172 _ _ _).mono ?_); rintro e w' ⟨rfl, hbb⟩; replace HB0 : Hid (Below (w.heap.size + 2) ((w.alloc (.cells #[.bool false, .slice a1 l1.length cp1] 39)).alloc (.cells #[.bool false, .slice a2 l2.length cp2] 39)) w') := Lib.hid (by first | exact HB0.out.trans (hbb.mono (by have := HB0.out.size; simp at this ⊢ <;> omega)) | exact HB0.out.drew.trans (hbb.mono (by have := HB0.out.size; simp at this ⊢ <;> omega))); clear hbb)) | (go_at_call 173; ((with_reducible refine (HC.out _ (by first | exact HW0.out.trans (HB0.out.mono (by omega)) | exact HW0.out.trans (HB0.out.drew.mono (by omega)))).mono ?_); rintro e w' ⟨r, rfl, hr, hbb⟩; have HR := Lib.hid hr; replace HB0 : Hid (Below (w.heap.size + 2) ((w.alloc (.cells #[.bool false, .slice a1 l1.length cp1] 39)).alloc (.cells #[.bool false, .slice a2 l2.length cp2] 39)) w') := Lib.hid (by first | exact HB0.out.trans (hbb.mono (by have := HB0.out.size; simp at this ⊢ <;> omega)) | exact HB0.out.drew.trans (hbb.mono (by have := HB0.out.size; simp at this ⊢ <;> omega))); clear hr hbb)))
  all_goals
    go_wp2
    go_ret
    exact ⟨r, rfl, HR.out, HW0.out.trans (HB0.out.mono (by omega))⟩

set_option maxRecDepth 100000 in
set_option maxHeartbeats 1600000 in
theorem c72 (a b : Tk) (da db : Value) (w : World) (h1 : IntsAt w da a.d) (h2 : IntsAt w db b.d) (hl1 : a.d.length ≤ 1000000) : Calls Tryz.prog 72 #[tokV a da, tokV b db] w fun e w' => e = .returned (.bool (likeF a b)) ∧ Below w.heap.size w w' := by
  obtain ⟨a1, cp1, rfl⟩ := row_form h1
  obtain ⟨a2, cp2, rfl⟩ := row_form h2
  show Calls Tryz.prog 72 #[.agg #[_, _, _, _, _, _, _, _], .agg #[_, _, _, _, _, _, _, _]] w _
  obtain ⟨ak, sa, ad, aat, aen, al, ac⟩ := a
  obtain ⟨bk, sb, bd, bat, ben, bl, bc⟩ := b
  simp only [likeF] at *
  have HC := Lib.hid (fun X Y => c111 _ _ ad bd _ ((h1.alloc X).alloc Y) ((h2.alloc X).alloc Y) hl1)
  clear h1 h2
  by_cases hk : ak = bk
  · by_cases hs : sa = sb
    · subst hk hs
      go_enter Tryz.func72, Tryz.ntmps72
      go_wp2_with (go_at_call 111; ((with_reducible refine (HC.out _ _).mono ?_); rintro e w' ⟨r, rfl, hr, hd⟩; have HD := Lib.hid hd; have HR := Lib.hid hr; clear hd hr))
      go_ret
      refine ⟨ret_bool ?_, (((Below.refl _ _).alloc (Nat.le_refl _) _).alloc (by simp) _).trans (HD.out.mono (by simp; omega))⟩
      have := HR.out
      by_cases h : r = 0
      · have h2 := this.1 h
        subst h h2; simp
      · have h2 : ¬ ad = bd := fun q => h (this.2 q)
        have e1 : (r == 0) = false := by simpa using h
        have e2 : (ad == bd) = false := by simpa using h2
        rw [e1, e2]; simp
    · subst hk
      have hs2 : ¬ sa.toList = sb.toList := fun q => hs (str_eq q)
      go_enter Tryz.func72, Tryz.ntmps72
      go_wp2
      go_ret
      exact ⟨ret_bool (by simp [hs]), (((Below.refl _ _).alloc (Nat.le_refl _) _).alloc (by simp) _)⟩
  · have e1 : (ak == bk) = false := by simpa using hk
    go_enter Tryz.func72, Tryz.ntmps72
    go_wp2
    go_ret
    exact ⟨ret_bool (by rw [e1]; rfl), (((Below.refl _ _).alloc (Nat.le_refl _) _).alloc (by simp) _)⟩
end Go.Proofs.YtagcfgoofiibfaaGreatDoor
namespace Go.Proofs.YtagcfgoofiibfaaGreatDoor
open Go Go.RowKit

theorem TI.below {w w' : World} (h : TI w) (hb : Below w.heap.size w w') : TI w' := Go.Joins.tab_stays (g := 1) (by kernel_rfl) h hb (Nat.le_refl _)

theorem c142_0 (a : Option Addr) (cp : Nat) (w : World) : Calls Tryz.prog 142 #[.agg #[.bool false, .slice a 0 cp]] w fun e w' => e = .returned (.bool true) ∧ Below w.heap.size w w' := by
  go_enter Tryz.func142, Tryz.ntmps142
  go_wp2
  go_ret
  exact ⟨rfl, (Below.refl _ _).alloc (Nat.le_refl _) _⟩

/-- the table's maps, in all later worlds -/
structure TabOk (p cb wb : Nat) (X : World) : Prop where
  k0 : X.cell? ⟨p, 0, none⟩ = some (.map (some cb))
  k1 : X.cell? ⟨p, 1, none⟩ = some (.map (some wb))
  l1 : ∀ k : ByteArray, k.size ≤ maxLen → (Instr.lookup 104 (.map (some wb)) (.string k) false).run Tryz.prog X = .ok (.bool (isWord k)) X
  l3 : ∀ k : ByteArray, k.size ≤ maxLen → (Instr.lookup 103 (.map (some cb)) (.string k) false).run Tryz.prog X = .ok (.string ((canonOf k).getD ByteArray.empty)) X
theorem TabAt.ok {g p : Nat} {w : World} (h : TabAt g p w) : ∃ cb wb, ∀ X, Below g w X → TabOk p cb wb X := by
  obtain ⟨cb, wb, k0, k1, _, _, _, _⟩ := h.lookW ByteArray.empty (by decide)
  refine ⟨cb, wb, fun X hX => ?_⟩
  have hp := h.1
  have e0 := (hX.cell (p := ⟨p, 0, none⟩) hp).trans k0
  have e1 := (hX.cell (p := ⟨p, 1, none⟩) hp).trans k1
  refine ⟨e0, e1, fun k hk => ?_, fun k hk => ?_⟩
  · obtain ⟨cb', wb', k0', k1', _, l1, _, _⟩ := (h.below hX).lookW k hk
    have e := Option.some.inj (Value.map.inj (Option.some.inj (e1.symm.trans k1')))
    subst e
    have := l1 0
    rwa [World.drewN_zero] at this
  · obtain ⟨cb', wb', k0', k1', _, _, _, l3⟩ := (h.below hX).lookW k hk
    have e := Option.some.inj (Value.map.inj (Option.some.inj (e0.symm.trans k0')))
    subst e
    have := l3 0
    rwa [World.drewN_zero] at this

/-- a name or a sign that is valid -/
def ValidNS (t : Tk) : Prop := t.d = [] ∧ ((t.k = 1 ∧ t.s.size ≤ 40 ∧ kindF t.s = 1) ∨ (t.k = 5 ∧ t.s ≠ ByteArray.empty ∧ canonOf t.s = some t.s ∧ t.s.size ≤ 1000000))

theorem ba_nonempty {s : ByteArray} (h : s ≠ ByteArray.empty) : ¬ s.toList = [] := fun e => h (str_eq (by rw [e, ByteArray.toList_eq]; rfl))

set_option maxRecDepth 100000 in
set_option maxHeartbeats 3200000 in
theorem c97 (h24 : C24) (t : Tk) (a : Option Addr) (cp : Nat) (p : Nat) (w : World) (hT : TI w) (hp : TabAt w.heap.size p w) (hv : ValidNS t) : Calls Tryz.prog 97 #[.pointer (some ⟨p, 0, none⟩), tokV t (.slice a 0 cp)] w fun e w' => e = .returned (.bool true) ∧ Below w.heap.size w w' := by
  obtain ⟨tk, ts, td, tat, ten, tl, tc⟩ := t
  obtain ⟨hd, hv⟩ := hv
  simp only [] at hd hv
  subst hd
  show Calls Tryz.prog 97 #[_, .agg #[_, _, _, _, _, _, _, _]] w _
  rcases hv with ⟨rfl, hs, hk⟩ | ⟨rfl, hs, hk, hsz⟩
  · have hs' : (ts.size : Int) ≤ 40 := by omega
    have HK := Lib.hid hk
    have HC := Lib.hid (fun X (hX : Below w.heap.size w X) => c27 h24 ts X (hT.below hX))
    have HB0 : Hid (Below w.heap.size w (w.alloc (.cells #[.int .i64 1, .string ts, .bool false, .slice a 0 cp, .int .i64 (tat : Int), .int .i64 (ten : Int), .int .i64 tl, .int .i64 tc] 41))) := Lib.hid ((Below.refl _ _).alloc (Nat.le_refl _) _)
    clear hk hp hT
    have hbk : (w.alloc (.cells #[.int .i64 1, .string ts, .bool false, .slice a 0 cp, .int .i64 (tat : Int), .int .i64 (ten : Int), .int .i64 tl, .int .i64 tc] 41)).heap[w.heap.size]? = some (.cells #[.int .i64 1, .string ts, .bool false, .slice a 0 cp, .int .i64 (tat : Int), .int .i64 (ten : Int), .int .i64 tl, .int .i64 tc] 41 (0, 0)) := blk_new _ _ rfl _
    have HBK := Lib.hid hbk
    clear hbk
    go_enter Tryz.func97, Tryz.ntmps97
    go_wp2_with (go_at_call 142; ((with_reducible refine (c142_0 _ _ _).mono ?_); rintro e w1 ⟨rfl, hb⟩; have k1 : w1.cell? ⟨w.heap.size, 1, none⟩ = some (.string ts) := (by rw [cell_of_row _ _ _ _ _ _ ((hb.block w.heap.size (by simp)).trans HBK.out)]; rfl); have HB1 : Hid (Below w.heap.size w w1) := Lib.hid (HB0.out.trans (hb.mono (by simp))); clear hb))
    go_wp2_with (go_at_call 27; ((with_reducible refine (HC.out _ HB1.out).mono ?_); rintro e w2 ⟨rfl, hb⟩; rw [HK.out]; have HB2 := Lib.hid hb; clear hb))
    go_ret
    exact ⟨rfl, HB1.out.trans (HB2.out.mono HB1.out.size)⟩
  · obtain ⟨cb, wb, hok⟩ := hp.ok
    have hne : ¬ ts.toList = [] := ba_nonempty hs
    have hne2 : ts.toList.isEmpty = false := by simpa using hne
    have hne3 : (ts.toList == []) = false := by simpa using hne
    have hne4 : (ts.toList != []) = true := by simpa using hne
    have KS : Hid (∀ X, Below (w.heap.size + 1) (w.alloc (.cells #[.int .i64 5, .string ts, .bool false, .slice a 0 cp, .int .i64 (tat : Int), .int .i64 (ten : Int), .int .i64 tl, .int .i64 tc] 41)) X →
        X.cell? ⟨w.heap.size, 1, none⟩ = some (.string ts) ∧ X.cell? ⟨w.heap.size, 2, none⟩ = some (.bool false) ∧ X.cell? ⟨w.heap.size, 3, none⟩ = some (.slice a 0 cp) ∧ X.cell? ⟨p, 0, none⟩ = some (.map (some cb)) ∧ (Instr.lookup 103 (.map (some cb)) (.string ts) false).run Tryz.prog X = .ok (.string ts) X) := Lib.hid (fun X hX => by
      have b1 : X.heap[w.heap.size]? = some (.cells #[.int .i64 5, .string ts, .bool false, .slice a 0 cp, .int .i64 (tat : Int), .int .i64 (ten : Int), .int .i64 tl, .int .i64 tc] 41 (0, 0)) := (hX.block _ (by omega)).trans (blk_new _ _ rfl _)
      have hBX : Below w.heap.size w X := ((Below.refl _ _).alloc (Nat.le_refl _) _).trans (hX.mono (by omega))
      have ok := hok X hBX
      have l3 := ok.l3 ts (by unfold maxLen; omega)
      rw [hk] at l3
      exact ⟨by rw [cell_of_row _ _ _ _ _ _ b1]; rfl, by rw [cell_of_row _ _ _ _ _ _ b1]; rfl, by rw [cell_of_row _ _ _ _ _ _ b1]; rfl, ok.k0, l3⟩)
    have HB0 : Hid (Below (w.heap.size + 1) (w.alloc (.cells #[.int .i64 5, .string ts, .bool false, .slice a 0 cp, .int .i64 (tat : Int), .int .i64 (ten : Int), .int .i64 tl, .int .i64 tc] 41)) (w.alloc (.cells #[.int .i64 5, .string ts, .bool false, .slice a 0 cp, .int .i64 (tat : Int), .int .i64 (ten : Int), .int .i64 tl, .int .i64 tc] 41))) := Lib.hid (Below.refl _ _)
    have HW0 : Hid (Below w.heap.size w (w.alloc (.cells #[.int .i64 5, .string ts, .bool false, .slice a 0 cp, .int .i64 (tat : Int), .int .i64 (ten : Int), .int .i64 tl, .int .i64 tc] 41))) := Lib.hid ((Below.refl _ _).alloc (Nat.le_refl _) _)
    clear hok hk hp hT hs
    go_enter Tryz.func97, Tryz.ntmps97
    go_wp2
    go_region_held3 (fun w' : World => w'.cell? ⟨w.heap.size, 1, none⟩ = some (.string ts) ∧ w'.cell? ⟨w.heap.size, 2, none⟩ = some (.bool false) ∧ w'.cell? ⟨w.heap.size, 3, none⟩ = some (.slice a 0 cp) ∧ w'.cell? ⟨p, 0, none⟩ = some (.map (some cb)) ∧ (Instr.lookup 103 (.map (some cb)) (.string ts) false).run Tryz.prog w' = .ok (.string ts) w') (first | exact KS.out _ HB0.out | exact KS.out _ HB0.out.drew)
      ((go_at_call 142; ((with_reducible refine (c142_0 _ _ _).mono ?_); rintro e w' ⟨rfl, hbb⟩; replace HB0 : Hid (Below (w.heap.size + 1) (w.alloc (.cells #[.int .i64 5, .string ts, .bool false, .slice a 0 cp, .int .i64 (tat : Int), .int .i64 (ten : Int), .int .i64 tl, .int .i64 tc] 41)) w') := Lib.hid (by first | exact HB0.out.trans (hbb.mono (by have := HB0.out.size; simp at this ⊢ <;> omega)) | exact HB0.out.drew.trans (hbb.mono (by have := HB0.out.size; simp at this ⊢ <;> omega))); clear hbb)))
    all_goals
      go_wp2
      go_ret
      exact ⟨rfl, HW0.out.trans (HB0.out.mono (by omega))⟩
end Go.Proofs.YtagcfgoofiibfaaGreatDoor
