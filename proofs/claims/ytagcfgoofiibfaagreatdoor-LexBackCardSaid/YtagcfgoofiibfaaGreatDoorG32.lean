/- The lexer and what it reaches: part 32 of 41: V4, V5, X0. -/
import Derived.Test.YtagcfgoofiibfaaGreatDoorG31
import Derived.Shelf.Strings.BuilderK
set_option linter.unusedVariables false
set_option linter.unusedSimpArgs false
namespace Go.Proofs.YtagcfgoofiibfaaGreatDoor
open Go Go.RowKit

theorem TabAt.up {g p : Nat} {w w' : World} (h : TabAt g p w) (hb : Below g w w') (hg : g ≤ w'.heap.size) : TabAt w'.heap.size p w' := (h.below hb).mono hg

/-- what checked hands back -/
def ChkTo (w : World) (e : Ending) (w' : World) : Prop := ∃ p, e = .returned (.tuple #[.pointer (some ⟨p, 0, none⟩), .int .i64 0]) ∧ TabAt w'.heap.size p w' ∧ Below w.heap.size w w'

set_option maxRecDepth 100000 in
set_option maxHeartbeats 3200000 in
theorem c61 (h24 : C24) (v : Value) (ts : List Tk) (w : World) (hT : TI w) (hr : TokRow w v ts) (hv : ∀ t ∈ ts, ValidNS t) : Calls Tryz.prog 61 #[v] w (ChkTo w) := by
  have HC := Lib.hid (c69 w hT)
  obtain ⟨a0, cp0, rfl, hm0, hc0⟩ := hr.shape
  have hml : ts.length ≤ 9223372036854775807 := by unfold maxLen at hm0; omega
  have HT := Lib.hid hT
  have HR := Lib.hid hr
  have HV := Lib.hid hv
  clear hT hr hv hm0 hc0
  go_enter Tryz.func61, Tryz.ntmps61
  go_wp2_with (go_at_call 69; ((with_reducible refine HC.out.mono ?_); rintro e w1 ⟨p, rfl, hp, hpl, hb1⟩; have HB1 := Lib.hid hb1; have HP := Lib.hid hp; clear hb1 hp))
  go_loopw [10] (fun s10 wr => ∃ k : Nat, k ≤ ts.length ∧ s10 = .int .i64 (k : Int) ∧ Below w1.heap.size w1 wr) (fun s10 _ => ts.length - (intOf s10).toNat)
  case atStart => exact ⟨0, Nat.zero_le _, rfl, Below.refl _ _⟩
  case round =>
    obtain ⟨k, hk, rfl, hB⟩ := hrel
    have HB := Lib.hid hB
    clear hB
    by_cases hlt : k < ts.length
    · obtain ⟨t, ht⟩ : ∃ t, ts[k]? = some t := ⟨_, List.getElem?_eq_getElem hlt⟩
      have hw : Below w.heap.size w wr := HB1.out.trans (HB.out.mono HB1.out.size)
      have hrr := HR.out.below hw
      obtain ⟨b, cap, he, hc1, hm1, hb1, hcl⟩ := hrr.cells (by omega)
      injection he with e1 e2 e3
      subst e1 e3
      obtain ⟨dv, hi, x0, x1, x2, x3, x4, x5, x6, x7⟩ := hcl k t ht
      have hvt := HV.out t (List.mem_of_getElem? ht)
      have htd := hvt.1
      obtain ⟨ad, cpd, rfl⟩ := row_form hi
      have hlen : t.d.length = 0 := by rw [htd]; rfl
      rw [hlen] at x3
      have hTr := HT.out.below hw
      have hPr := HP.out.up HB.out HB.out.size
      have CC := Lib.hid (fun X (hX : Below wr.heap.size wr X) => c97 h24 t ad cpd p X (hTr.below hX) (hPr.up hX hX.size) hvt)
      have b0 : (0 : Int) ≤ (k : Int) := by omega
      have b2 : (k : Int) < (ts.length : Int) := by omega
      have HW := Lib.hid hw
      clear hw hrr hcl hi hvt htd hlen hTr hPr ht e2
      go_wp2_with (go_at_call 97; ((with_reducible refine (CC.out _ ((Below.refl _ _).alloc (Nat.le_refl _) _)).mono ?_); rintro e w2 ⟨rfl, hbb⟩; have HBB := Lib.hid hbb; clear hbb))
      go_roundw
      case rel => exact ⟨k + 1, by omega, by go_num, HB.out.trans (((Below.refl wr.heap.size wr).alloc (Nat.le_refl _) _).trans (HBB.out.mono (by simp)) |>.mono HB.out.size)⟩
      case measure => simp [intOf]; omega
    · have hd : decide (k < ts.length) = false := by simpa using hlt
      go_wp2
      go_ret2
      exact ⟨p, rfl, HP.out.up HB.out HB.out.size, HB1.out.trans (HB.out.mono HB1.out.size)⟩
end Go.Proofs.YtagcfgoofiibfaaGreatDoor
namespace Go.Proofs.YtagcfgoofiibfaaGreatDoor
open Go Go.RowKit

def C68 : Prop := ∀ (s : ByteArray) (p : Nat) (w : World), TabAt w.heap.size p w → s.size ≤ 1073741824 → Calls Tryz.prog 68 #[.pointer (some ⟨p, 0, none⟩), .string s] w (ScanTo s p (scan s) w)

theorem c62 (t : Tk) (dv : Value) (w : World) (hk : t.k = 1 ∨ t.k = 5) : Calls Tryz.prog 62 #[tokV t dv] w fun e w' => e = .returned (.string t.s) ∧ Below w.heap.size w w' := by
  obtain ⟨tk, ts, td, tat, ten, tl, tc⟩ := t
  show Calls Tryz.prog 62 #[.agg #[_, _, _, _, _, _, _, _]] w _
  simp only [] at hk ⊢
  rcases hk with rfl | rfl
  all_goals
    go_enter Tryz.func62, Tryz.ntmps62
    go_wp2
    go_ret
    exact ⟨rfl, (Below.refl _ _).alloc (Nat.le_refl _) _⟩

/-- whether a text is read as some tokens -/
def readF (s : ByteArray) (l : List Tk) : Bool := match scan s with | .ok (ps, _) => likeL ps l | .error _ => false
theorem scan_d {s : ByteArray} {ps : List Tk} {ys : List (Nat × Nat)} (h : scan s = .ok (ps, ys)) : DLim ps := fun t ht => by
  have := scnF_d s _ _ _ _ _ _ (by simp) h t ht; omega
/-- the tokens of a scanner -/
theorem SC.row {g : Nat} {s : ByteArray} {i : Nat} {tb : Value} {ps : List Tk} {ys : List (Nat × Nat)} {w : World} (H : SC g s i tb ps ys w) : ∃ vo, w.cell? ⟨g, 3, none⟩ = some vo ∧ TokRow w vo ps := by
  obtain ⟨vo, vc, xs, h1, h2⟩ := H
  exact ⟨vo, by rw [cell_of_row _ _ _ _ _ _ h1.blk]; rfl, xs, Go.Joins.ownsRow_le h1.ro (Nat.zero_le _), h2⟩

def RdL (a b : List Tk) (w1 : World) (s32 : Value) (wr : World) : Prop := ∃ k : Nat, k ≤ b.length ∧ s32 = .int .i64 (k : Int) ∧ (∀ (j : Nat) (x y : Tk), j < k → a[j]? = some x → b[j]? = some y → likeF x y = true) ∧ Below w1.heap.size w1 wr

set_option maxRecDepth 100000 in
set_option maxHeartbeats 6400000 in
theorem c63 (h68 : C68) (s : ByteArray) (p : Nat) (v : Value) (l : List Tk) (w : World) (HT : TabAt w.heap.size p w) (hr : TokSl w v l) (hsz : s.size ≤ 1073741824) :
    Calls Tryz.prog 63 #[.pointer (some ⟨p, 0, none⟩), .string s, v] w fun e w' => e = .returned (.bool (readF s l)) ∧ Below w.heap.size w w' := by
  have hc := h68 s p w HT hsz
  obtain ⟨r, hrd⟩ : ∃ r, readF s l = r := ⟨_, rfl⟩
  rw [hrd]
  unfold readF at hrd
  rcases hsc : scan s with ⟨a, er⟩ | ⟨ps, ys⟩
  · rw [hsc] at hc hrd
    have he := scan_err s a er hsc
    have he1 : (er != 0) = true := by simp; omega
    obtain ⟨a2, cp2, rfl, _⟩ := hr
    have HC := Lib.hid hc
    have HRD := Lib.hid hrd
    clear hc hrd hsc he HT
    go_enter Tryz.func63, Tryz.ntmps63
    go_wp2_with (go_at_call 68; ((with_reducible refine HC.out.mono ?_); rintro e w1 ⟨rfl, hb1⟩; have HB1 := Lib.hid hb1; clear hb1))
    go_ret
    exact ⟨ret_bool HRD.out, HB1.out⟩
  · have hd := scan_d hsc
    rw [hsc] at hc hrd
    have hrd' : likeL ps l = r := hrd
    have HC := Lib.hid hc
    have HRD := Lib.hid hrd'
    have HR := Lib.hid hr
    have HD := Lib.hid hd
    obtain ⟨a2, cp2, rfl, hmc, hmx, _⟩ := hr
    have hmxl : l.length ≤ 9223372036854775807 := by unfold maxLen at hmx; omega
    clear hc hrd hrd' hsc hd HT hmc
    by_cases hl : ps.length = l.length
    · by_cases hz : l.length = 0
      · have e1 : ps = [] := List.eq_nil_of_length_eq_zero (by omega)
        have e2 : l = [] := List.eq_nil_of_length_eq_zero hz
        subst e1 e2
        clear hl hz
        go_enter Tryz.func63, Tryz.ntmps63
        go_wp2_with (go_at_call 68; ((with_reducible refine HC.out.mono ?_); rintro e w1 ⟨g, i, rfl, hg, hS, hb1⟩; obtain ⟨vo, ko, hvo⟩ := hS.row; obtain ⟨ao, co, rfl, _⟩ := hvo.shape; have HB1 := Lib.hid hb1; clear hb1 hS hvo))
        go_loopw [32] (fun s32 wr => s32 = .int .i64 0 ∧ wr = w1) (fun _ _ => 0)
        case atStart => exact ⟨rfl, rfl⟩
        case round =>
          obtain ⟨rfl, rfl⟩ := hrel
          go_wp2
          go_ret
          exact ⟨ret_bool HRD.out, HB1.out⟩
      · have hn3 : ((ps.length : Int) != (l.length : Int)) = false := by simp [hl]
        have hn4 : ((l.length : Int) != (l.length : Int)) = false := by simp
        have hn : l.length ≤ 9223372036854775807 := hmxl
        have hpos : 0 < l.length := by omega
        have HL := Lib.hid hl
        obtain ⟨a2', q2, e2, _, _, hcell⟩ := HR.out
        injection e2 with e2a e2b e2c
        subst e2a e2c
        obtain ⟨g2, o2, rfl, hg2, _⟩ := hcell hpos
        clear hl hz hmx e2b
        go_enter Tryz.func63, Tryz.ntmps63
        go_wp2_with (go_at_call 68; ((with_reducible refine HC.out.mono ?_); rintro e w1 ⟨g, i, rfl, hg, hS, hb1⟩; obtain ⟨vo, ko, hvo⟩ := hS.row; obtain ⟨g1, cp1, rfl, _, _, hg1, hA⟩ := hvo.cells (by have := HL.out; omega); have HB1 := Lib.hid hb1; have HA := Lib.hid hA; rw [HL.out] at ko; have hgl := World.block_lt_of_cell? w1 _ ko; clear hb1 hS hvo hA))
        go_loopw [32] (RdL ps l w1) (fun s32 _ => l.length - (intOf s32).toNat)
        case atStart => exact ⟨0, Nat.zero_le _, rfl, fun j x y h => by omega, Below.refl _ _⟩
        case round =>
          obtain ⟨k, hk, rfl, heq, hbl⟩ := hrel
          have HEQ := Lib.hid heq
          have HBL := Lib.hid hbl
          clear heq hbl
          by_cases hlt : k < l.length
          · obtain ⟨x, hx⟩ : ∃ x, ps[k]? = some x := ⟨_, List.getElem?_eq_getElem (by have := HL.out; omega)⟩
            obtain ⟨y, hy⟩ : ∃ y, l[k]? = some y := ⟨_, List.getElem?_eq_getElem hlt⟩
            obtain ⟨dx, ix, x0, x1, x2, x3, x4, x5, x6, x7⟩ := HA.out k x hx
            obtain ⟨_, _, e3, _, _, hB⟩ := HR.out.below HB1.out
            injection e3 with e3a e3b e3c
            subst e3a e3c
            obtain ⟨_, _, e4, _, hB⟩ := hB hpos
            injection e4 with e4; injection e4 with e4a e4b e4c
            subst e4a e4b
            obtain ⟨dy, iy, y0, y1, y2, y3, y4, y5, y6, y7⟩ := hB k y hy
            have hg2' : g2 < w1.heap.size := by have := HB1.out.size; omega
            have CC := Lib.hid (fun X (hX : Below w1.heap.size w1 X) => c72 x y dx dy X (ix.below hX) (iy.below hX) (HD.out x (List.mem_of_getElem? hx)))
            have HX := Lib.hid hx
            have HY := Lib.hid hy
            have b0 : (0 : Int) ≤ (k : Int) := by omega
            have b1 : (k : Int) < (l.length : Int) := by omega
            have KS : Hid (∀ W, Below w1.heap.size w1 W → W.cell? ⟨g, 3, none⟩ = some (.slice (some ⟨g1, 0, none⟩) l.length cp1) ∧ W.cell? ⟨g1, k * 8, none⟩ = some (.int .i64 x.k) ∧ W.cell? ⟨g1, k * 8 + 1, none⟩ = some (.string x.s) ∧ W.cell? ⟨g1, k * 8 + 2, none⟩ = some (.bool false) ∧ W.cell? ⟨g1, k * 8 + 3, none⟩ = some dx ∧ W.cell? ⟨g1, k * 8 + 4, none⟩ = some (.int .i64 (x.at_ : Int)) ∧ W.cell? ⟨g1, k * 8 + 5, none⟩ = some (.int .i64 (x.en : Int)) ∧ W.cell? ⟨g1, k * 8 + 6, none⟩ = some (.int .i64 x.line) ∧ W.cell? ⟨g1, k * 8 + 7, none⟩ = some (.int .i64 x.col) ∧ W.cell? ⟨g2, o2 + k * 8, none⟩ = some (.int .i64 y.k) ∧ W.cell? ⟨g2, o2 + k * 8 + 1, none⟩ = some (.string y.s) ∧ W.cell? ⟨g2, o2 + k * 8 + 2, none⟩ = some (.bool false) ∧ W.cell? ⟨g2, o2 + k * 8 + 3, none⟩ = some dy ∧ W.cell? ⟨g2, o2 + k * 8 + 4, none⟩ = some (.int .i64 (y.at_ : Int)) ∧ W.cell? ⟨g2, o2 + k * 8 + 5, none⟩ = some (.int .i64 (y.en : Int)) ∧ W.cell? ⟨g2, o2 + k * 8 + 6, none⟩ = some (.int .i64 y.line) ∧ W.cell? ⟨g2, o2 + k * 8 + 7, none⟩ = some (.int .i64 y.col)) := Lib.hid (fun W hX => by
              have hbc : ∀ (g o : Nat) (u : Value), g < w1.heap.size → w1.cell? ⟨g, o, none⟩ = some u → W.cell? ⟨g, o, none⟩ = some u := fun g o u hg h => (hX.cell (p := ⟨g, o, none⟩) hg).trans h
              exact ⟨hbc _ _ _ hgl ko, hbc _ _ _ hg1 x0, hbc _ _ _ hg1 x1, hbc _ _ _ hg1 x2, hbc _ _ _ hg1 x3, hbc _ _ _ hg1 x4, hbc _ _ _ hg1 x5, hbc _ _ _ hg1 x6, hbc _ _ _ hg1 x7, hbc _ _ _ hg2' y0, hbc _ _ _ hg2' y1, hbc _ _ _ hg2' y2, hbc _ _ _ hg2' y3, hbc _ _ _ hg2' y4, hbc _ _ _ hg2' y5, hbc _ _ _ hg2' y6, hbc _ _ _ hg2' y7⟩)
            have hb2 : k < l.length := hlt
            clear ix iy hx hy x0 x1 x2 x3 x4 x5 x6 x7 y0 y1 y2 y3 y4 y5 y6 y7 e3b e4c hB ko
            obtain ⟨q, hq⟩ : ∃ q, likeF x y = q := ⟨_, rfl⟩
            rw [hq] at CC
            have HQ := Lib.hid hq
            clear hq
            rcases q with _ | _
            · have hno : r = false := by
                rw [← HRD.out]
                rcases hl : likeL ps l with _ | _
                · rfl
                · have := ((likeL_iff ps l).1 hl).2 k x y HX.out HY.out
                  rw [HQ.out] at this; cases this
              have HNO := Lib.hid hno
              clear hno
              go_wp2
              go_region_held3 (fun W : World => W.cell? ⟨g, 3, none⟩ = some (.slice (some ⟨g1, 0, none⟩) l.length cp1) ∧ W.cell? ⟨g1, k * 8, none⟩ = some (.int .i64 x.k) ∧ W.cell? ⟨g1, k * 8 + 1, none⟩ = some (.string x.s) ∧ W.cell? ⟨g1, k * 8 + 2, none⟩ = some (.bool false) ∧ W.cell? ⟨g1, k * 8 + 3, none⟩ = some dx ∧ W.cell? ⟨g1, k * 8 + 4, none⟩ = some (.int .i64 (x.at_ : Int)) ∧ W.cell? ⟨g1, k * 8 + 5, none⟩ = some (.int .i64 (x.en : Int)) ∧ W.cell? ⟨g1, k * 8 + 6, none⟩ = some (.int .i64 x.line) ∧ W.cell? ⟨g1, k * 8 + 7, none⟩ = some (.int .i64 x.col) ∧ W.cell? ⟨g2, o2 + k * 8, none⟩ = some (.int .i64 y.k) ∧ W.cell? ⟨g2, o2 + k * 8 + 1, none⟩ = some (.string y.s) ∧ W.cell? ⟨g2, o2 + k * 8 + 2, none⟩ = some (.bool false) ∧ W.cell? ⟨g2, o2 + k * 8 + 3, none⟩ = some dy ∧ W.cell? ⟨g2, o2 + k * 8 + 4, none⟩ = some (.int .i64 (y.at_ : Int)) ∧ W.cell? ⟨g2, o2 + k * 8 + 5, none⟩ = some (.int .i64 (y.en : Int)) ∧ W.cell? ⟨g2, o2 + k * 8 + 6, none⟩ = some (.int .i64 y.line) ∧ W.cell? ⟨g2, o2 + k * 8 + 7, none⟩ = some (.int .i64 y.col)) (first | exact KS.out _ HBL.out | exact KS.out _ HBL.out.drew | exact KS.out _ HBN.out | exact KS.out _ HBN.out.drew)
                ((go_at_call 72; ((with_reducible refine (CC.out _ (by first | exact HBL.out | exact HBL.out.drew)).mono ?_); rintro e w' ⟨rfl, hbb⟩; have HBN : Hid (Below w1.heap.size w1 w') := Lib.hid (by first | exact HBL.out.trans (hbb.mono HBL.out.size) | exact HBL.out.drew.trans (hbb.mono HBL.out.size)); clear hbb)))
              go_wp2
              go_ret
              exact ⟨ret_bool HNO.out.symm, HB1.out.trans (HBN.out.mono HB1.out.size)⟩
            · skip
              go_wp2
              go_region_held3 (fun W : World => W.cell? ⟨g, 3, none⟩ = some (.slice (some ⟨g1, 0, none⟩) l.length cp1) ∧ W.cell? ⟨g1, k * 8, none⟩ = some (.int .i64 x.k) ∧ W.cell? ⟨g1, k * 8 + 1, none⟩ = some (.string x.s) ∧ W.cell? ⟨g1, k * 8 + 2, none⟩ = some (.bool false) ∧ W.cell? ⟨g1, k * 8 + 3, none⟩ = some dx ∧ W.cell? ⟨g1, k * 8 + 4, none⟩ = some (.int .i64 (x.at_ : Int)) ∧ W.cell? ⟨g1, k * 8 + 5, none⟩ = some (.int .i64 (x.en : Int)) ∧ W.cell? ⟨g1, k * 8 + 6, none⟩ = some (.int .i64 x.line) ∧ W.cell? ⟨g1, k * 8 + 7, none⟩ = some (.int .i64 x.col) ∧ W.cell? ⟨g2, o2 + k * 8, none⟩ = some (.int .i64 y.k) ∧ W.cell? ⟨g2, o2 + k * 8 + 1, none⟩ = some (.string y.s) ∧ W.cell? ⟨g2, o2 + k * 8 + 2, none⟩ = some (.bool false) ∧ W.cell? ⟨g2, o2 + k * 8 + 3, none⟩ = some dy ∧ W.cell? ⟨g2, o2 + k * 8 + 4, none⟩ = some (.int .i64 (y.at_ : Int)) ∧ W.cell? ⟨g2, o2 + k * 8 + 5, none⟩ = some (.int .i64 (y.en : Int)) ∧ W.cell? ⟨g2, o2 + k * 8 + 6, none⟩ = some (.int .i64 y.line) ∧ W.cell? ⟨g2, o2 + k * 8 + 7, none⟩ = some (.int .i64 y.col)) (first | exact KS.out _ HBL.out | exact KS.out _ HBL.out.drew | exact KS.out _ HBN.out | exact KS.out _ HBN.out.drew)
                ((go_at_call 72; ((with_reducible refine (CC.out _ (by first | exact HBL.out | exact HBL.out.drew)).mono ?_); rintro e w' ⟨rfl, hbb⟩; have HBN : Hid (Below w1.heap.size w1 w') := Lib.hid (by first | exact HBL.out.trans (hbb.mono HBL.out.size) | exact HBL.out.drew.trans (hbb.mono HBL.out.size)); clear hbb)))
              go_wp2
              go_roundw
              case rel => exact ⟨k + 1, by omega, by go_num, fun j x' y' hj hx' hy' => by
                rcases Nat.lt_or_ge j k with h | h
                · exact HEQ.out j x' y' h hx' hy'
                · obtain rfl : j = k := by omega
                  rw [HX.out] at hx'; rw [HY.out] at hy'
                  injection hx' with hx'; injection hy' with hy'
                  subst hx' hy'; exact HQ.out, HBN.out⟩
              case measure => simp [intOf]; omega
          · have hd : decide (k < l.length) = false := by simpa using hlt
            go_wp2
            go_ret
            refine ⟨ret_bool ?_, HB1.out.trans (HBL.out.mono HB1.out.size)⟩
            rw [← HRD.out]
            refine ((likeL_iff ps l).2 ⟨HL.out, fun j x y hx hy => HEQ.out j x y ?_ hx hy⟩).symm
            have : j < l.length := by
              rcases Nat.lt_or_ge j l.length with h | h
              · exact h
              · rw [List.getElem?_eq_none h] at hy; cases hy
            omega
    · have e1 : ((ps.length : Int) != (l.length : Int)) = true := by simp; omega
      have hno : r = false := by rw [← HRD.out]; exact likeL_no hl
      have HNO := Lib.hid hno
      clear hl hno
      go_enter Tryz.func63, Tryz.ntmps63
      go_wp2_with (go_at_call 68; ((with_reducible refine HC.out.mono ?_); rintro e w1 ⟨g, i, rfl, hg, hS, hb1⟩; obtain ⟨vo, ko, hvo⟩ := hS.row; obtain ⟨ao, co, rfl, _⟩ := hvo.shape; have HB1 := Lib.hid hb1; clear hb1 hS hvo))
      go_ret
      exact ⟨ret_bool HNO.out.symm, HB1.out⟩
end Go.Proofs.YtagcfgoofiibfaaGreatDoor
namespace Go.Proofs.YtagcfgoofiibfaaGreatDoor
open Go Go.RowKit

theorem Tryz.u80 : Tryz.prog.underlying 80 = some (.pointer 83) := by kernel_rfl
theorem Tryz.u174 : Tryz.prog.underlying 174 = some .unsafePointer := by kernel_rfl
theorem Tryz.u81 : Tryz.prog.underlying 81 = some (.slice 5) := by kernel_rfl
theorem Tryz.size83 : (Tryz.prog.info? 83).map (·.size) = some 2 := by kernel_rfl
theorem Tryz.lies83 : liesAt Tryz.prog Tryz.prog.depth 83 (2 / Tryz.prog.cellsOf 83) 0 83 1 = true := by kernel_rfl

set_option maxRecDepth 100000 in
theorem c100u (b : Nat) (w : World) (h : w.cell? ⟨b, 0, none⟩ = some (.pointer (some ⟨b, 0, none⟩))) :
    Calls Tryz.prog 100 #[.pointer (some ⟨b, 0, none⟩)] w fun e w' => e = .returned (.tuple #[]) ∧ w' = w := by
  obtain ⟨j, hj, hjs⟩ := Option.map_eq_some_iff.1 Tryz.size83
  go_enter Tryz.func100, Tryz.ntmps100
  go_wp2
  rw [Lib.run_neq_ptr_same w _ Tryz.u80 hj]
  go_wp2
  go_end0
  exact ⟨rfl, rfl⟩
set_option maxRecDepth 100000 in
set_option maxHeartbeats 1600000 in
theorem c100f (b : Nat) (w : World) (h : w.cell? ⟨b, 0, none⟩ = some (.pointer none)) (hsh : w.shape? b = some (83, 2)) (hf : w.frozen? ⟨b, 0, none⟩ = false) :
    Calls Tryz.prog 100 #[.pointer (some ⟨b, 0, none⟩)] w fun e w' => e = .returned (.tuple #[]) ∧ w' = w.setCell ⟨b, 0, none⟩ (.pointer (some ⟨b, 0, none⟩)) := by
  obtain ⟨j, hj, hjs⟩ := Option.map_eq_some_iff.1 Tryz.size83
  go_enter Tryz.func100, Tryz.ntmps100
  go_wp2
  rw [Lib.run_to_unsafe w ⟨b, 0, none⟩ Tryz.u80 Tryz.u174 hj (by rw [hjs]; decide) hsh (Nat.zero_lt_succ 1)]
  simp only [Result.andThen]
  rw [Oper.upon_value]
  go_wp2
  rw [run_callFunc_extern Tryz.func147 (by kernel_rfl) (by kernel_rfl) (by kernel_rfl) (e := Extern.AbiNoEscape.same) (by kernel_rfl)]
  rw [Lib.run_noEscape]
  simp only [Result.andThen]
  rw [Oper.upon_value]
  go_wp2
  rw [Lib.run_from_unsafe w ⟨b, 0, none⟩ Tryz.u174 Tryz.u80 hj hsh Tryz.lies83]
  simp only [Result.andThen]
  rw [Oper.upon_value]
  go_wp2
  go_end0
  exact ⟨rfl, rfl⟩
theorem c100 (B b : Nat) (bs : List Value) (w : World) (h : Lib.IsBuilderF 83 5 B b bs w) :
    Calls Tryz.prog 100 #[.pointer (some ⟨b, 0, none⟩)] w fun e w' => e = .returned (.tuple #[]) ∧ (Lib.BuilderAtF 83 5 B b (.pointer (some ⟨b, 0, none⟩)) bs w' ∧ Below B w w' ∧ Lib.OthersKept 5 (some b) w w') := by
  rcases h with h | h
  · refine (c100f b w h.cell0 h.shape h.frozen0).mono ?_
    rintro e w' ⟨rfl, rfl⟩
    exact ⟨rfl, h.used _, (Below.refl B w).setCell (p := ⟨b, 0, none⟩) h.1 _, (Lib.OthersKept.refl _ _ w).setCell ⟨b, 0, none⟩ rfl _⟩
  · refine (c100u b w h.cell0).mono ?_
    rintro e w' ⟨rfl, rfl⟩
    exact ⟨rfl, h, Below.refl B _, Lib.OthersKept.refl _ _ _⟩

set_option maxHeartbeats 2000000 in
set_option maxRecDepth 100000 in
theorem c65 (B b : Nat) (bs : List Value) (c : Int) (w : World) (h : Lib.IsBuilderF 83 5 B b bs w) (hlen : bs.length + 1 ≤ 140737488355328) (hBw : B ≤ w.heap.size) :
    Calls Tryz.prog 65 #[.pointer (some ⟨b, 0, none⟩), .int .u8 c] w fun e w' => e = .returned .nilIface ∧ (Lib.BuilderAtF 83 5 B b (.pointer (some ⟨b, 0, none⟩)) (bs ++ [.int .u8 c]) w' ∧ Below B w w' ∧ Lib.OthersKept 5 (some b) w w') := by
  obtain ⟨i0, hi, hz0, hz1, hz2⟩ := info_parts Tryz.info5
  go_enter Tryz.func65, Tryz.ntmps65
  go_wp2_with (go_at_call 100; refine (c100 B b bs _ h).mono ?_)
  rintro e w1 ⟨rfl, h1, hb1, hk1⟩
  obtain ⟨hB, v, hbk, hown, hne⟩ := h1
  obtain ⟨va, vn, vc, rfl⟩ : ∃ va vn vc, v = .slice va vn vc := (by rcases hown.2 with ⟨hv, _⟩ | ⟨g, cap, cur, fz, hv, _⟩; exact ⟨_, _, _, hv⟩; exact ⟨_, _, _, hv⟩)
  have c0 : w1.cell? ⟨b, 0, none⟩ = some (.pointer (some ⟨b, 0, none⟩)) := (by rw [Lib.cell_of_heap hbk]; rfl)
  have c1 : w1.cell? ⟨b, 1, none⟩ = some (.slice va vn vc) := (by rw [Lib.cell_of_heap hbk]; rfl)
  go_wp2_with (at_builtin; refine wpList_append_ownF _ rfl _ _ 81 rfl B 5 i0 (.int .u8 0) 1 1 Tryz.u81 hi hz0 hz1 hz2 rfl (by decide) _ _ _ rfl (hown.alloc _) ⟨w1.heap.size, 0, none⟩ 1 1 [.int .u8 c] rfl rfl ?c1 ?c2 ?c3 ?c4 ?c5 ?_)
  case c1 =>
    intro j u hj
    match j, hj with
    | 0, hj => simp at hj; subst hj; simp [Addr.add]
  case c2 => intro u hu; simp at hu; subst hu; rfl
  case c3 => unfold maxLen; omega
  case c4 => omega
  case c5 => have := hb1.size; simp; omega
  intro v' w2 hown' hgrow _
  have hlt : b < w1.heap.size := by
    rcases Nat.lt_or_ge b w1.heap.size with h' | h'
    · exact h'
    · simp [Array.getElem?_eq_none h'] at hbk
  have hb2 : w2.heap[b]? = some (.cells #[.pointer (some ⟨b, 0, none⟩), .slice va vn vc] 83 (0, 0)) := by
    rw [hgrow.block b (by simp; omega) (fun e => hne e.symm), Lib.alloc_old w1 _ b hlt]
    exact hbk
  have d0 : w2.cell? ⟨b, 0, none⟩ = some (.pointer (some ⟨b, 0, none⟩)) := by rw [Lib.cell_of_heap hb2]; rfl
  have d1 : w2.cell? ⟨b, 1, none⟩ = some (.slice va vn vc) := by rw [Lib.cell_of_heap hb2]; rfl
  have f1 : w2.frozen? ⟨b, 1, none⟩ = false := Lib.frozen_of_heap hb2 1
  obtain ⟨g, cap, rfl⟩ : ∃ g cap, v' = .slice (some ⟨g, 0, none⟩) (bs.length + 1) cap := by
    rcases hown'.2 with ⟨_, h0⟩ | ⟨g, cap, cur, fz, hv, _⟩
    · omega
    · exact ⟨g, cap, hv⟩
  go_wp2
  go_ret
  refine ⟨rfl, ?_, ?_, ((hk1.alloc _).grown hgrow (Lib.ownsRowF_kind (hown.alloc _))).setCell ⟨b, 1, none⟩ rfl _⟩
  · exact Lib.BuilderAtF.put (T := 83) (e := 5) hB hb2 (bs' := bs ++ [.int .u8 c]) (by simpa using hown') (by decide)
  · exact ((hb1.alloc (by have := hb1.size; omega) _).grown hgrow (by have := hb1.size; simp; omega) (fun k hk => (hown.lt k hk).1)).setCell (p := ⟨b, 1, none⟩) hB _

set_option maxHeartbeats 2000000 in
set_option maxRecDepth 100000 in
theorem c67 (B b : Nat) (bs : List Value) (s : ByteArray) (w : World) (h : Lib.IsBuilderF 83 5 B b bs w) (hlen : bs.length + s.size ≤ 140737488355328) (hBw : B ≤ w.heap.size) :
    Calls Tryz.prog 67 #[.pointer (some ⟨b, 0, none⟩), .string s] w fun e w' => e = .returned (.tuple #[.int .i64 s.size, .nilIface]) ∧ (Lib.BuilderAtF 83 5 B b (.pointer (some ⟨b, 0, none⟩)) (bs ++ Lib.strCells s) w' ∧ Below B w w' ∧ Lib.OthersKept 5 (some b) w w') := by
  obtain ⟨i0, hi, hz0, hz1, hz2⟩ := info_parts Tryz.info5
  go_enter Tryz.func67, Tryz.ntmps67
  go_wp2_with (go_at_call 100; refine (c100 B b bs _ h).mono ?_)
  rintro e w1 ⟨rfl, h1, hb1, hk1⟩
  obtain ⟨hB, v, hbk, hown, hne⟩ := h1
  obtain ⟨va, vn, vc, rfl⟩ : ∃ va vn vc, v = .slice va vn vc := (by rcases hown.2 with ⟨hv, _⟩ | ⟨g, cap, cur, fz, hv, _⟩; exact ⟨_, _, _, hv⟩; exact ⟨_, _, _, hv⟩)
  have c0 : w1.cell? ⟨b, 0, none⟩ = some (.pointer (some ⟨b, 0, none⟩)) := (by rw [Lib.cell_of_heap hbk]; rfl)
  have c1 : w1.cell? ⟨b, 1, none⟩ = some (.slice va vn vc) := (by rw [Lib.cell_of_heap hbk]; rfl)
  go_wp2_with (at_builtin; refine Lib.wpList_append_own_stringF _ rfl _ _ 81 9 rfl B 5 i0 Tryz.u81 Tryz.underlying9 hi hz0 hz1 hz2 _ _ _ rfl hown s rfl ?c3 ?c4 ?c5 ?_)
  case c3 => unfold maxLen; omega
  case c4 => omega
  case c5 => have := hb1.size; omega
  intro v' w2 hown' hgrow _
  have hlt : b < w1.heap.size := by
    rcases Nat.lt_or_ge b w1.heap.size with h' | h'
    · exact h'
    · simp [Array.getElem?_eq_none h'] at hbk
  have hb2 : w2.heap[b]? = some (.cells #[.pointer (some ⟨b, 0, none⟩), .slice va vn vc] 83 (0, 0)) := by
    rw [hgrow.block b hlt (fun e => hne e.symm)]
    exact hbk
  have d0 : w2.cell? ⟨b, 0, none⟩ = some (.pointer (some ⟨b, 0, none⟩)) := by rw [Lib.cell_of_heap hb2]; rfl
  have d1 : w2.cell? ⟨b, 1, none⟩ = some (.slice va vn vc) := by rw [Lib.cell_of_heap hb2]; rfl
  have f1 : w2.frozen? ⟨b, 1, none⟩ = false := Lib.frozen_of_heap hb2 1
  obtain ⟨ao, n', cap, rfl⟩ : ∃ ao n' cap, v' = .slice ao n' cap := by
    rcases hown'.2 with ⟨hv, _⟩ | ⟨g, cap, cur, fz, hv, _⟩
    · exact ⟨_, _, _, hv⟩
    · exact ⟨_, _, _, hv⟩
  go_wp2
  go_ret2
  refine ⟨rfl, ?_, ?_, (hk1.grown hgrow (Lib.ownsRowF_kind hown)).setCell ⟨b, 1, none⟩ rfl _⟩
  · exact Lib.BuilderAtF.put (T := 83) (e := 5) hB hb2 (bs' := bs ++ Lib.strCells s) (by simpa [Lib.strCells_length] using hown') (by decide)
  · exact (hb1.grown hgrow (by have := hb1.size; omega) (fun k hk => (hown.lt k hk).1)).setCell (p := ⟨b, 1, none⟩) hB _
end Go.Proofs.YtagcfgoofiibfaaGreatDoor
