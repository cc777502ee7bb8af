/- The lexer and what it reaches: part 38 of 41: Z0, Z1, W0. -/
import Derived.Test.YtagcfgoofiibfaaGreatDoorG37
set_option linter.unusedVariables false
set_option linter.unusedSimpArgs false
namespace Go.Proofs.YtagcfgoofiibfaaGreatDoor
open Go Go.RowKit

/-- Place's variables: where the next token may stand, the text -/
structure PS where
  line : Int
  col : Int
  t : List UInt8
def PS.c0 (st : PS) (x : Tk) : Int := if 0 < x.line - st.line then 1 else st.col
def PS.step (st : PS) (x : Tk) : PS := ⟨x.line, x.col + x.s.size, st.t ++ ((Lib.repeatL [10] (x.line - st.line).toNat ++ Lib.repeatL [32] (x.col - st.c0 x).toNat) ++ x.s.data.toList)⟩
/-- a token stands where it may, and not far away -/
structure PS.Fits (st : PS) (x : Tk) : Prop where
  a : st.line ≤ x.line
  b : 1 ≤ x.col
  c : x.line = st.line → st.col ≤ x.col
  l0 : 1 ≤ st.line
  l1 : x.line ≤ 1000
  c0 : 1 ≤ st.col
  c1 : st.col ≤ 3000
  c2 : x.col ≤ 1000
  s : x.s.size ≤ 1000
  t : st.t.length ≤ 90000
def PS.at (ts : List Tk) (i : Nat) : PS := (ts.take i).foldl PS.step ⟨1, 1, []⟩
theorem PS.at_succ (ts : List Tk) (i : Nat) (x : Tk) (hx : ts[i]? = some x) : PS.at ts (i + 1) = (PS.at ts i).step x := by
  unfold PS.at
  rw [List.take_add_one, hx]; simp

theorem BuilderAtF_keptO {B b : Nat} {p : Value} {bs : List Value} {w w' : World} {row : Option Nat} (h : Lib.BuilderAtF 83 5 B b p bs w) (hg : w.grownBy w' row) (hr : ∀ k, row = some k → ∃ c T fz, w.heap[k]? = some (.cells c T fz) ∧ T ≠ 83 ∧ T ≠ 5) : Lib.BuilderAtF 83 5 B b p bs w' := by
  obtain ⟨hB, v, hb, hown, hne⟩ := h
  have hlt := lt_of_blk hb
  refine ⟨hB, v, ?_, hown.kept hg ?_, hne⟩
  · rw [hg.block b hlt ?_]; exact hb
    intro e
    obtain ⟨c, T, fz, hc, h1, h2⟩ := hr b e.symm
    rw [hb] at hc; injection hc with hc; injection hc with _ hc; exact h1 hc.symm
  · rcases hv : v.ownBlock with _ | k
    · exact .inl rfl
    · right
      intro e
      obtain ⟨c, T, fz, hc, h1, h2⟩ := hr k e.symm
      obtain ⟨c', fz', hc'⟩ := Lib.ownsRowF_kind hown k hv
      rw [hc] at hc'; injection hc' with hc'; injection hc' with _ hc'; exact h2 hc'
theorem IsBuilderF_keptO {B b : Nat} {bs : List Value} {w w' : World} {row : Option Nat} (h : Lib.IsBuilderF 83 5 B b bs w) (hg : w.grownBy w' row) (hr : ∀ k, row = some k → ∃ c T fz, w.heap[k]? = some (.cells c T fz) ∧ T ≠ 83 ∧ T ≠ 5) : Lib.IsBuilderF 83 5 B b bs w' :=
  h.elim (fun h => .inl (BuilderAtF_keptO h hg hr)) (fun h => .inr (BuilderAtF_keptO h hg hr))

/-- Place's variables in the world: P: the place's block; P + 1: the Builder's -/
structure PW (w0 : World) (P : Nat) (st : PS) (w : World) : Prop where
  bld : Lib.IsBuilderF 83 5 P (P + 1) (Lib.byteCells st.t) w
  pos : w.heap[P]? = some (.cells #[.int .i64 st.line, .int .i64 st.col] 74 (0, 0))
  bel : Below P w0 w
theorem PW.lt {w0 : World} {P : Nat} {st : PS} {w : World} (h : PW w0 P st w) : P + 1 < w.heap.size := h.bld.elim (fun h => h.lt) (fun h => h.lt)
theorem PW.below {w0 : World} {P : Nat} {st : PS} {w w' : World} (h : PW w0 P st w) (hb : Below w.heap.size w w') : PW w0 P st w' := by
  have hg : w.grownBy w' none := ⟨hb.os, hb.tape, hb.output, hb.size, fun k hk _ => hb.block k hk⟩
  exact ⟨IsBuilderF_keptO h.bld hg (fun k e => by cases e), (hb.block P (lt_of_blk h.pos)).trans h.pos, h.bel.trans (hb.mono (by have := h.lt; omega))⟩
theorem PW.alloc {w0 : World} {P : Nat} {st : PS} {w : World} (h : PW w0 P st w) (o : Obj) : PW w0 P st (w.alloc o) := h.below ((Below.refl _ _).alloc (Nat.le_refl _) _)
theorem PW.drew {w0 : World} {P : Nat} {st : PS} {w : World} (h : PW w0 P st w) : PW w0 P st w.drew := h.below (Dr.below (Dr.here w 1) _)
theorem PW.drewN {w0 : World} {P : Nat} {st : PS} {w : World} (h : PW w0 P st w) (n : Nat) : PW w0 P st (w.drewN n) := h.below (Dr.below (Dr.here w n) _)
theorem PW.setCol {w0 : World} {P : Nat} {st : PS} {w : World} (h : PW w0 P st w) (c : Int) : PW w0 P { st with col := c } (w.setCell ⟨P, 1, none⟩ (.int .i64 c)) :=
  ⟨IsBuilderF_keptO h.bld (grown_set w P 1 _) (fun k e => by cases e; exact ⟨_, _, _, h.pos, by decide, by decide⟩), heap_setCell_same _ _ 1 _ _ _ h.pos, h.bel.setCell (p := ⟨P, 1, none⟩) (Nat.le_refl _) _⟩
theorem PW.setLine {w0 : World} {P : Nat} {st : PS} {w : World} (h : PW w0 P st w) (c : Int) : PW w0 P { st with line := c } (w.setCell ⟨P, 0, none⟩ (.int .i64 c)) :=
  ⟨IsBuilderF_keptO h.bld (grown_set w P 0 _) (fun k e => by cases e; exact ⟨_, _, _, h.pos, by decide, by decide⟩), heap_setCell_same _ _ 0 _ _ _ h.pos, h.bel.setCell (p := ⟨P, 0, none⟩) (Nat.le_refl _) _⟩
theorem PW.cells {w0 : World} {P : Nat} {st : PS} {w : World} (h : PW w0 P st w) : w.cell? ⟨P, 0, none⟩ = some (.int .i64 st.line) ∧ w.cell? ⟨P, 1, none⟩ = some (.int .i64 st.col) ∧ ∀ j, w.frozen? ⟨P, j, none⟩ = false :=
  ⟨by rw [cell_of_row _ _ _ _ _ _ h.pos]; rfl, by rw [cell_of_row _ _ _ _ _ _ h.pos]; rfl, fun j => frozen_of_row _ _ _ _ _ h.pos⟩
theorem PW.others {w0 : World} {P : Nat} {st : PS} {t' : List UInt8} {w w' : World} (h : PW w0 P st w) (h1 : Lib.IsBuilderF 83 5 P (P + 1) (Lib.byteCells t') w') (h2 : Below P w w') (h3 : Lib.OthersKept 5 (some (P + 1)) w w') : PW w0 P { st with t := t' } w' :=
  ⟨h1, h3 P _ h.pos (by intro e; injection e with e; omega) (by intro c fz e; injection e with _ e; exact absurd e (by decide)), h.bel.trans h2⟩
/-- blocks that are no bytes and not the Builder's stay -/
def Stays (P : Nat) (w w' : World) : Prop := ∀ k c T fz, w.heap[k]? = some (.cells c T fz) → k ≠ P + 1 → T ≠ 5 → w'.heap[k]? = some (.cells c T fz)
theorem stays_of {P : Nat} {w w' : World} (h3 : Lib.OthersKept 5 (some (P + 1)) w w') : Stays P w w' := fun k c T fz hk hne hT => h3 k _ hk (by intro e; injection e with e; exact hne e) (by intro c fz e; injection e with _ e; exact hT e)
theorem stays_below {P : Nat} {w w' : World} (h : Below w.heap.size w w') : Stays P w w' := fun k c T fz hk _ _ => (h.block k (lt_of_blk hk)).trans hk

def PLen (n : Nat) (w : World) (e : Ending) (w' : World) : Prop := e = .returned (.int .i64 (n : Int)) ∧ w = w'
theorem c66P {w0 : World} {P : Nat} {st : PS} (w : World) (h : PW w0 P st w) (n : Nat) (hn : st.t.length = n) : Calls Tryz.prog 66 #[.pointer (some ⟨P + 1, 0, none⟩)] w fun e w' => e = .returned (.int .i64 (n : Int)) ∧ w = w' := by
  subst hn
  have := Tryz.Builder_Len_f P (P + 1) (Lib.byteCells st.t) w h.bld
  rw [Lib.byteCells_length] at this
  exact this.mono fun _ _ ⟨h1, h2⟩ => ⟨h1, h2.symm⟩
def PStr (w0 : World) (P : Nat) (st : PS) (S : ByteArray) (w : World) (e : Ending) (w' : World) : Prop := e = .returned (.string S) ∧ PW w0 P st w' ∧ Stays P w w'
theorem c64P {w0 : World} {P : Nat} {st : PS} (w : World) (h : PW w0 P st w) (S : ByteArray) (hS : S = ⟨st.t.toArray⟩) : Calls Tryz.prog 64 #[.pointer (some ⟨P + 1, 0, none⟩)] w (PStr w0 P st S w) := by
  subst hS
  refine (Tryz.Builder_String_any_k P (P + 1) st.t w h.bld (by have := h.lt; omega)).mono ?_
  rintro e w' ⟨rfl, h1, h2, h3⟩
  exact ⟨rfl, h.others h1 h2 h3, stays_of h3⟩
def PWr (n : Nat) (w0 : World) (P : Nat) (st : PS) (w : World) (e : Ending) (w' : World) : Prop := e = .returned (.tuple #[.int .i64 (n : Int), .nilIface]) ∧ PW w0 P st w' ∧ Stays P w w'
theorem c67P {w0 : World} {P : Nat} {st : PS} (s : ByteArray) (w : World) (h : PW w0 P st w) (hl : st.t.length + s.size ≤ 140737488355328) : Calls Tryz.prog 67 #[.pointer (some ⟨P + 1, 0, none⟩), .string s] w (PWr s.size w0 P { st with t := st.t ++ s.data.toList } w) := by
  refine (c67 P (P + 1) (Lib.byteCells st.t) s w h.bld (by rw [Lib.byteCells_length]; exact hl) (by have := h.lt; omega)).mono ?_
  rintro e w' ⟨rfl, h1, h2, h3⟩
  rw [strCells_bytes, ← byteCells_app] at h1
  exact ⟨rfl, h.others (.inr h1) h2 h3, stays_of h3⟩
/-- .. and a token's place in a block of its own -/
structure PX (w0 : World) (P : Nat) (st : PS) (Q : Nat) (l c : Int) (w : World) : Prop where
  pw : PW w0 P st w
  q : w.heap[Q]? = some (.cells #[.int .i64 l, .int .i64 c] 74 (0, 0))
  qn : P + 1 < Q
theorem PX.below {w0 : World} {P : Nat} {st : PS} {Q : Nat} {l c : Int} {w w' : World} (h : PX w0 P st Q l c w) (hb : Below w.heap.size w w') : PX w0 P st Q l c w' := ⟨h.pw.below hb, (hb.block Q (lt_of_blk h.q)).trans h.q, h.qn⟩
theorem PX.drew {w0 : World} {P : Nat} {st : PS} {Q : Nat} {l c : Int} {w : World} (h : PX w0 P st Q l c w) : PX w0 P st Q l c w.drew := h.below (Dr.below (Dr.here w 1) _)
theorem PX.drewN {w0 : World} {P : Nat} {st : PS} {Q : Nat} {l c : Int} {w : World} (h : PX w0 P st Q l c w) (n : Nat) : PX w0 P st Q l c (w.drewN n) := h.below (Dr.below (Dr.here w n) _)
theorem PX.stays {w0 : World} {P : Nat} {st st' : PS} {Q : Nat} {l c : Int} {w w' : World} (h : PX w0 P st Q l c w) (h1 : PW w0 P st' w') (h2 : Stays P w w') : PX w0 P st' Q l c w' := ⟨h1, h2 Q _ _ _ h.q (by have := h.qn; omega) (by decide), h.qn⟩
theorem PX.cells {w0 : World} {P : Nat} {st : PS} {Q : Nat} {l c : Int} {w : World} (h : PX w0 P st Q l c w) : w.cell? ⟨Q, 0, none⟩ = some (.int .i64 l) ∧ w.cell? ⟨Q, 1, none⟩ = some (.int .i64 c) ∧ w.cell? ⟨P, 1, none⟩ = some (.int .i64 st.col) ∧ w.cell? ⟨P, 0, none⟩ = some (.int .i64 st.line) :=
  ⟨by rw [cell_of_row _ _ _ _ _ _ h.q]; rfl, by rw [cell_of_row _ _ _ _ _ _ h.q]; rfl, h.pw.cells.2.1, h.pw.cells.1⟩
theorem PX.mk2 {w0 : World} {P : Nat} {st : PS} {w w' : World} (h : PW w0 P st w) (o : Obj) (l c : Int) (hb : Below ((w.alloc o).alloc (.cells #[.int .i64 l, .int .i64 c] 74)).heap.size ((w.alloc o).alloc (.cells #[.int .i64 l, .int .i64 c] 74)) w') : PX w0 P st (w.heap.size + 1) l c w' := by
  have h2 : PX w0 P st (w.heap.size + 1) l c ((w.alloc o).alloc (.cells #[.int .i64 l, .int .i64 c] 74)) := ⟨(h.alloc o).alloc _, blk_new _ _ (by simp) _, by have := h.lt; omega⟩
  exact h2.below hb
theorem PX.mk3 {w0 : World} {P : Nat} {st : PS} {w w' : World} (h : PW w0 P st w) (o : Obj) (l c z : Int) (hb : Below (((w.setCell ⟨P, 1, none⟩ (.int .i64 z)).alloc o).alloc (.cells #[.int .i64 l, .int .i64 c] 74)).heap.size (((w.setCell ⟨P, 1, none⟩ (.int .i64 z)).alloc o).alloc (.cells #[.int .i64 l, .int .i64 c] 74)) w') : PX w0 P { st with col := z } (w.heap.size + 1) l c w' := by
  have h2 := PX.mk2 (h.setCol z) o l c hb
  have e : (w.setCell ⟨P, 1, none⟩ (.int .i64 z)).heap.size = w.heap.size := by simp
  rw [e] at h2
  exact h2
end Go.Proofs.YtagcfgoofiibfaaGreatDoor
namespace Go.Proofs.YtagcfgoofiibfaaGreatDoor
open Go Go.RowKit

theorem repeatL_len (l : List UInt8) : ∀ c, (Lib.repeatL l c).length = l.length * c
  | 0 => rfl
  | c + 1 => by simp only [Lib.repeatL, List.length_append, repeatL_len l c]; rw [Nat.mul_succ]; omega
def RepTo (S : ByteArray) (w : World) (e : Ending) (w' : World) : Prop := e = .returned (.string S) ∧ Below w.heap.size w w'
theorem c34 (s : ByteArray) (z : Int) (c : Nat) (S : ByteArray) (w : World) (hz : z = (c : Int)) (hS : S = ⟨(Lib.repeatL s.data.toList c).toArray⟩) (hc : c ≤ 1000000) (hs : s.size ≤ 1) : Calls Tryz.prog 34 #[.string s, .int .i64 z] w (RepTo S w) := by
  subst hz hS
  exact Tryz.strings_Repeat s c w (by omega) (by
    have : s.size * c ≤ 1 * c := Nat.mul_le_mul_right c hs
    omega)

/-- what Place hands back where all stands as it should -/
def PlcTo (S : ByteArray) (w : World) (e : Ending) (w' : World) : Prop := e = .returned (.tuple #[.string S, .int .i64 0]) ∧ Below w.heap.size w w'

set_option maxRecDepth 100000 in
set_option maxHeartbeats 6400000 in
theorem c32 (h24 : C24) (v : Value) (ts out : List Tk) (S : ByteArray) (w : World) (hT : TI w) (hr : TokRow w v ts) (hv : ∀ t ∈ ts, ValidNS t) (hn : ts.length ≤ 20000)
    (hfit : ∀ (i : Nat) (x : Tk), ts[i]? = some x → (PS.at ts i).Fits x) (hS : S = ⟨(PS.at ts ts.length).t.toArray⟩) (htok : tokens S = .ok out) (hlike : likeL out ts = true)
    (hpos : ∀ (i : Nat) (x y : Tk), out[i]? = some x → ts[i]? = some y → x.line = y.line ∧ x.col = y.col) : Calls Tryz.prog 32 #[v] w (PlcTo S w) := by
  have hck := c61 h24 v ts w hT hr hv
  obtain ⟨a0, cp0, rfl, hm0, hc0⟩ := hr.shape
  have CK := Lib.hid hck
  have HR := Lib.hid hr
  have HV := Lib.hid hv
  have HT := Lib.hid hT
  have H24 := Lib.hid h24
  have HFIT := Lib.hid hfit
  have HS := Lib.hid hS
  have HTOK := Lib.hid htok
  have HLIKE := Lib.hid hlike
  have HPOS := Lib.hid hpos
  clear hck hr hv hT h24 hfit hS htok hlike hpos
  have hbz : ¬ ((20000 : Int) < (ts.length : Int)) := by omega
  go_enter Tryz.func32, Tryz.ntmps32
  go_wp2_with (go_at_call 61; ((with_reducible refine CK.out.mono ?_); rintro e w1 ⟨p, rfl, hp, hb1⟩; have HB1 := Lib.hid hb1; have HP := Lib.hid hp; clear hb1 hp))
  go_loopw [7, 32] (fun s7 s32 wr => ∃ i : Nat, i ≤ ts.length ∧ s7 = .bool false ∧ s32 = .int .i64 (i : Int) ∧ PW w1 w1.heap.size (PS.at ts i) wr) (fun _ s32 _ => ts.length - (intOf s32).toNat)
  case atStart =>
    refine ⟨0, Nat.zero_le _, rfl, rfl, ⟨.inl ⟨by omega, _, blk_new _ _ (by simp) _, ⟨rfl, .inl ⟨rfl, rfl⟩⟩, by intro h; cases h⟩, blk_alloc (blk_new _ _ rfl _) _, ((Below.refl _ _).alloc (Nat.le_refl _) _).alloc (by simp) _⟩⟩
  case round =>
    obtain ⟨i, hi, rfl, rfl, hJ⟩ := hrel
    have HJ := Lib.hid hJ
    have HW : Hid (Below w.heap.size w wr) := Lib.hid (HB1.out.trans (hJ.bel.mono HB1.out.size))
    obtain ⟨pl0, pc0, pf0⟩ := hJ.cells
    have hPlt := hJ.lt
    have ne1 : ¬ (w1.heap.size = wr.heap.size) := by omega
    have ne2 : ¬ (w1.heap.size = wr.heap.size + 1) := by omega
    have ne3 : w1.heap.size < wr.heap.size := by omega
    have ne4 : w1.heap.size < wr.heap.size + 1 := by omega
    clear hJ
    by_cases hlt : i < ts.length
    · obtain ⟨x, hx⟩ : ∃ x, ts[i]? = some x := ⟨_, List.getElem?_eq_getElem hlt⟩
      have hvx := HV.out x (List.mem_of_getElem? hx)
      have hF := HFIT.out i x hx
      obtain ⟨gb, cap, he, hc1, hm1, hgb, hcl⟩ := (HR.out.below HW.out).cells (by omega)
      injection he with e1 e2 e3
      subst e1 e3
      obtain ⟨dv, hiv, x0, x1, x2, x3, x4, x5, x6, x7⟩ := hcl i x hx
      obtain ⟨ad, cpd, rfl⟩ := row_form hiv
      have hk15 : x.k = 1 ∨ x.k = 5 := by rcases hvx.2 with h | h; exact .inl h.1; exact .inr h.1
      obtain ⟨st, hst⟩ : ∃ st, PS.at ts i = st := ⟨_, rfl⟩
      have hsucc := PS.at_succ ts i x hx
      rw [hst] at hF hsucc HJ pl0 pc0
      obtain ⟨fa, fb, fc, fl0, fl1, fc0, fc1, fc2, fs, ft⟩ := hF
      have b0 : (0 : Int) ≤ (i : Int) := by omega
      have b1 : (i : Int) < (ts.length : Int) := by omega
      have HK15 := Lib.hid hk15
      have HSUCC := Lib.hid hsucc
      obtain ⟨n, hn0⟩ : ∃ n, st.t.length = n := ⟨_, rfl⟩
      rw [hn0] at ft
      have HN := Lib.hid hn0
      have g1 : ¬ x.line < st.line := by omega
      have g2 : ¬ x.col < 1 := by omega
      clear hcl hiv hvx hx hk15 e2 hst hsucc hn0
      obtain ⟨ln, hln⟩ : ∃ ln : Nat, x.line - st.line = (ln : Int) := ⟨(x.line - st.line).toNat, by omega⟩
      have hlnb : ln ≤ 1000 := by omega
      by_cases hz : x.line = st.line
      · have z1 : (x.line == st.line) = true := by simpa using hz
        have z2 : ¬ (0 < x.line - st.line) := by omega
        have z4 := fc hz
        have z5 : ¬ (x.col < st.col) := by omega
        have hc0 : st.c0 x = st.col := by unfold PS.c0; rw [if_neg z2]
        obtain ⟨sp, hsp⟩ : ∃ sp : Nat, x.col - st.col = (sp : Int) := ⟨(x.col - st.col).toNat, by omega⟩
        have hspb : sp ≤ 3000 := by omega
        have HLN := Lib.hid hln
        have HSP := Lib.hid hsp
        have HC0 := Lib.hid hc0
        clear hz hln hsp hc0
        go_wp2_with (go_at_call 62; ((with_reducible refine (c62 x _ _ HK15.out).mono ?_); rintro e w3 ⟨rfl, hb3⟩; have HX3 : Hid (PX w1 w1.heap.size st (wr.heap.size + 1) x.line x.col w3) := Lib.hid (PX.mk2 HJ.out _ _ _ hb3); clear hb3))
        have hPQ := HX3.out.qn
        have m1 : IntKind.i64.wrap (x.col - st.col) = x.col - st.col := IntWalk.i64_in _ (by omega)
        have m2 : IntKind.i64.wrap ((n : Int) + (x.line - st.line)) = (n : Int) + (x.line - st.line) := IntWalk.i64_in _ (by omega)
        have m3 : IntKind.i64.wrap ((n : Int) + (x.line - st.line) + x.col) = (n : Int) + (x.line - st.line) + x.col := IntWalk.i64_in _ (by omega)
        have m4 : IntKind.i64.wrap ((n : Int) + (x.line - st.line) + x.col - st.col) = (n : Int) + (x.line - st.line) + x.col - st.col := IntWalk.i64_in _ (by omega)
        have m5 : IntKind.i64.wrap ((n : Int) + (x.line - st.line) + x.col - st.col + (x.s.size : Int)) = (n : Int) + (x.line - st.line) + x.col - st.col + (x.s.size : Int) := IntWalk.i64_in _ (by omega)
        have d1 : decide (100000 < x.line - st.line) = false := by simp; omega
        have d2 : decide (100000 < x.col - st.col) = false := by simp; omega
        have d3 : decide (100000 < (n : Int) + (x.line - st.line) + x.col - st.col + (x.s.size : Int)) = false := by simp; omega
        obtain ⟨kq0, kq1, kp1, kp0⟩ := HX3.out.cells
        try simp only [] at kp1 kp0
        go_quiet ((go_at_call 66; exact quiet_eq (c66P _ (HX3.out.pw.drewN _) n HN.out)))
        obtain ⟨S1, hS1⟩ : ∃ S1 : ByteArray, S1 = ⟨(Lib.repeatL [10] ln).toArray⟩ := ⟨_, rfl⟩
        obtain ⟨S2, hS2⟩ : ∃ S2 : ByteArray, S2 = ⟨(Lib.repeatL [32] sp).toArray⟩ := ⟨_, rfl⟩
        have hs1 : S1.size = ln := by rw [hS1]; show (Lib.repeatL [10] ln).toArray.size = ln; simp [repeatL_len]
        have hs2 : S2.size = sp := by rw [hS2]; show (Lib.repeatL [32] sp).toArray.size = sp; simp [repeatL_len]
        have a1 : S1.size + S2.size ≤ 9223372036854775807 := by omega
        have a2 : ¬ (9223372036854775807 < S1.size + S2.size) := by omega
        have a3 : S1.size + S2.size + x.s.size ≤ 9223372036854775807 := by omega
        have a4 : ¬ (9223372036854775807 < S1.size + S2.size + x.s.size) := by omega
        have a5 : (S1 ++ S2).size + x.s.size ≤ 9223372036854775807 := by rw [ByteArray.size_append]; omega
        have hwb : st.t.length + (S1 ++ S2 ++ x.s).size ≤ 140737488355328 := by rw [ByteArray.size_append, ByteArray.size_append, HN.out]; omega
        have htx : st.t ++ (S1 ++ S2 ++ x.s).data.toList = (st.step x).t := by
          show _ = st.t ++ _
          rw [HC0.out, hS1, hS2]
          have e1 : (x.line - st.line).toNat = ln := by have := HLN.out; omega
          have e2 : (x.col - st.col).toNat = sp := by have := HSP.out; omega
          rw [e1, e2]
          simp [ByteArray.data_append]
        have HTX := Lib.hid htx
        have HWB := Lib.hid hwb
        have HS1 := Lib.hid hS1
        have HS2 := Lib.hid hS2
        have KS : Hid (∀ W, PX w1 w1.heap.size st (wr.heap.size + 1) x.line x.col W → (W.cell? ⟨wr.heap.size + 1, 1, none⟩ = some (.int .i64 x.col) ∧ W.cell? ⟨w1.heap.size, 1, none⟩ = some (.int .i64 st.col))) := Lib.hid (fun W hW => ⟨hW.cells.2.1, hW.cells.2.2.1⟩)
        clear hS1 hS2 hs1 hs2 htx hwb kq0 kq1 kp1 kp0 m2 m3 m4 m5 d1 d2 d3
        go_wp2
        go_region_held3 (fun W : World => W.cell? ⟨wr.heap.size + 1, 1, none⟩ = some (.int .i64 x.col) ∧ W.cell? ⟨w1.heap.size, 1, none⟩ = some (.int .i64 st.col)) (first | exact KS.out _ HX5.out | exact KS.out _ HX5.out.drew | exact KS.out _ HX4.out | exact KS.out _ HX4.out.drew | exact KS.out _ (HX3.out.drewN _) | exact KS.out _ (HX3.out.drewN _).drew | exact ⟨HX7.out.cells.2.1, HX7.out.cells.2.2.1⟩)
          (first | (go_at_call 34; ((with_reducible refine (c34 _ _ sp S2 _ HSP.out HS2.out (by omega) (by decide)).mono ?_); rintro e w5 ⟨rfl, hbb⟩; have HX5 : Hid (PX w1 w1.heap.size st (wr.heap.size + 1) x.line x.col w5) := Lib.hid (by first | exact HX4.out.below hbb | exact HX4.out.drew.below hbb); clear hbb)) | (go_at_call 34; ((with_reducible refine (c34 _ _ ln S1 _ HLN.out HS1.out (by omega) (by decide)).mono ?_); rintro e w4 ⟨rfl, hbb⟩; have HX4 : Hid (PX w1 w1.heap.size st (wr.heap.size + 1) x.line x.col w4) := Lib.hid (by first | exact (HX3.out.drewN _).below hbb | exact (HX3.out.drewN _).drew.below hbb); clear hbb)) | (go_at_call 67; ((with_reducible refine (c67P (w0 := w1) (P := w1.heap.size) (st := st) (S1 ++ S2 ++ x.s) _ (by first | exact HX5.out.pw | exact HX5.out.drew.pw) HWB.out).mono ?_); rintro e w7 ⟨rfl, hj, hst⟩; have HX7 := Lib.hid (HX5.out.stays hj hst); clear hj hst)))
        have r0 := HX7.out.cells.1
        have r1 := HX7.out.cells.2.1
        have r2 := HX7.out.cells.2.2.1
        have r3 := HX7.out.cells.2.2.2
        try simp only [] at r2 r3
        have rf := HX7.out.pw.cells.2.2
        go_wp2
        go_roundw
        case rel =>
          refine ⟨i + 1, by omega, rfl, by go_num, ?_⟩
          rw [HSUCC.out]
          have h9 := (HX7.out.pw.setLine x.line).setCol (x.col + (x.s.size : Int))
          have e9 : ({ line := x.line, col := x.col + (x.s.size : Int), t := st.t ++ (S1 ++ S2 ++ x.s).data.toList } : PS) = st.step x := by rw [HTX.out]; rfl
          rw [← e9]
          exact h9
        case measure => simp [intOf]; omega
      · have z1 : (x.line == st.line) = false := by simpa using hz
        have z2 : 0 < x.line - st.line := by omega
        have z3 : (0 : Int) < x.line - st.line := z2
        have hc0 : st.c0 x = 1 := by unfold PS.c0; rw [if_pos z2]
        obtain ⟨sp, hsp⟩ : ∃ sp : Nat, x.col - 1 = (sp : Int) := ⟨(x.col - 1).toNat, by omega⟩
        have hspb : sp ≤ 3000 := by omega
        have HLN := Lib.hid hln
        have HSP := Lib.hid hsp
        have HC0 := Lib.hid hc0
        clear hz hln hsp hc0
        go_wp2_with (go_at_call 62; ((with_reducible refine (c62 x _ _ HK15.out).mono ?_); rintro e w3 ⟨rfl, hb3⟩; have HX3 : Hid (PX w1 w1.heap.size { st with col := 1 } (wr.heap.size + 1) x.line x.col w3) := Lib.hid (PX.mk3 HJ.out _ _ _ _ hb3); clear hb3))
        have hPQ := HX3.out.qn
        have m1 : IntKind.i64.wrap (x.col - 1) = x.col - 1 := IntWalk.i64_in _ (by omega)
        have m2 : IntKind.i64.wrap ((n : Int) + (x.line - st.line)) = (n : Int) + (x.line - st.line) := IntWalk.i64_in _ (by omega)
        have m3 : IntKind.i64.wrap ((n : Int) + (x.line - st.line) + x.col) = (n : Int) + (x.line - st.line) + x.col := IntWalk.i64_in _ (by omega)
        have m4 : IntKind.i64.wrap ((n : Int) + (x.line - st.line) + x.col - 1) = (n : Int) + (x.line - st.line) + x.col - 1 := IntWalk.i64_in _ (by omega)
        have m5 : IntKind.i64.wrap ((n : Int) + (x.line - st.line) + x.col - 1 + (x.s.size : Int)) = (n : Int) + (x.line - st.line) + x.col - 1 + (x.s.size : Int) := IntWalk.i64_in _ (by omega)
        have d1 : decide (100000 < x.line - st.line) = false := by simp; omega
        have d2 : decide (100000 < x.col - 1) = false := by simp; omega
        have d3 : decide (100000 < (n : Int) + (x.line - st.line) + x.col - 1 + (x.s.size : Int)) = false := by simp; omega
        obtain ⟨kq0, kq1, kp1, kp0⟩ := HX3.out.cells
        try simp only [] at kp1 kp0
        go_quiet ((go_at_call 66; exact quiet_eq (c66P _ (HX3.out.pw.drewN _) n HN.out)))
        obtain ⟨S1, hS1⟩ : ∃ S1 : ByteArray, S1 = ⟨(Lib.repeatL [10] ln).toArray⟩ := ⟨_, rfl⟩
        obtain ⟨S2, hS2⟩ : ∃ S2 : ByteArray, S2 = ⟨(Lib.repeatL [32] sp).toArray⟩ := ⟨_, rfl⟩
        have hs1 : S1.size = ln := by rw [hS1]; show (Lib.repeatL [10] ln).toArray.size = ln; simp [repeatL_len]
        have hs2 : S2.size = sp := by rw [hS2]; show (Lib.repeatL [32] sp).toArray.size = sp; simp [repeatL_len]
        have a1 : S1.size + S2.size ≤ 9223372036854775807 := by omega
        have a2 : ¬ (9223372036854775807 < S1.size + S2.size) := by omega
        have a3 : S1.size + S2.size + x.s.size ≤ 9223372036854775807 := by omega
        have a4 : ¬ (9223372036854775807 < S1.size + S2.size + x.s.size) := by omega
        have a5 : (S1 ++ S2).size + x.s.size ≤ 9223372036854775807 := by rw [ByteArray.size_append]; omega
        have hwb : st.t.length + (S1 ++ S2 ++ x.s).size ≤ 140737488355328 := by rw [ByteArray.size_append, ByteArray.size_append, HN.out]; omega
        have htx : st.t ++ (S1 ++ S2 ++ x.s).data.toList = (st.step x).t := by
          show _ = st.t ++ _
          rw [HC0.out, hS1, hS2]
          have e1 : (x.line - st.line).toNat = ln := by have := HLN.out; omega
          have e2 : (x.col - 1).toNat = sp := by have := HSP.out; omega
          rw [e1, e2]
          simp [ByteArray.data_append]
        have HTX := Lib.hid htx
        have HWB := Lib.hid hwb
        have HS1 := Lib.hid hS1
        have HS2 := Lib.hid hS2
        have KS : Hid (∀ W, PX w1 w1.heap.size { st with col := 1 } (wr.heap.size + 1) x.line x.col W → (W.cell? ⟨wr.heap.size + 1, 1, none⟩ = some (.int .i64 x.col) ∧ W.cell? ⟨w1.heap.size, 1, none⟩ = some (.int .i64 1))) := Lib.hid (fun W hW => ⟨hW.cells.2.1, hW.cells.2.2.1⟩)
        clear hS1 hS2 hs1 hs2 htx hwb kq0 kq1 kp1 kp0 m2 m3 m4 m5 d1 d2 d3
        go_wp2
        go_region_held3 (fun W : World => W.cell? ⟨wr.heap.size + 1, 1, none⟩ = some (.int .i64 x.col) ∧ W.cell? ⟨w1.heap.size, 1, none⟩ = some (.int .i64 1)) (first | exact KS.out _ HX5.out | exact KS.out _ HX5.out.drew | exact KS.out _ HX4.out | exact KS.out _ HX4.out.drew | exact KS.out _ (HX3.out.drewN _) | exact KS.out _ (HX3.out.drewN _).drew | exact ⟨HX7.out.cells.2.1, HX7.out.cells.2.2.1⟩)
          (first | (go_at_call 34; ((with_reducible refine (c34 _ _ sp S2 _ HSP.out HS2.out (by omega) (by decide)).mono ?_); rintro e w5 ⟨rfl, hbb⟩; have HX5 : Hid (PX w1 w1.heap.size { st with col := 1 } (wr.heap.size + 1) x.line x.col w5) := Lib.hid (by first | exact HX4.out.below hbb | exact HX4.out.drew.below hbb); clear hbb)) | (go_at_call 34; ((with_reducible refine (c34 _ _ ln S1 _ HLN.out HS1.out (by omega) (by decide)).mono ?_); rintro e w4 ⟨rfl, hbb⟩; have HX4 : Hid (PX w1 w1.heap.size { st with col := 1 } (wr.heap.size + 1) x.line x.col w4) := Lib.hid (by first | exact (HX3.out.drewN _).below hbb | exact (HX3.out.drewN _).drew.below hbb); clear hbb)) | (go_at_call 67; ((with_reducible refine (c67P (w0 := w1) (P := w1.heap.size) (st := { st with col := 1 }) (S1 ++ S2 ++ x.s) _ (by first | exact HX5.out.pw | exact HX5.out.drew.pw) HWB.out).mono ?_); rintro e w7 ⟨rfl, hj, hst⟩; have HX7 := Lib.hid (HX5.out.stays hj hst); clear hj hst)))
        have r0 := HX7.out.cells.1
        have r1 := HX7.out.cells.2.1
        have r2 := HX7.out.cells.2.2.1
        have r3 := HX7.out.cells.2.2.2
        try simp only [] at r2 r3
        have rf := HX7.out.pw.cells.2.2
        go_wp2
        go_roundw
        case rel =>
          refine ⟨i + 1, by omega, rfl, by go_num, ?_⟩
          rw [HSUCC.out]
          have h9 := (HX7.out.pw.setLine x.line).setCol (x.col + (x.s.size : Int))
          have e9 : ({ line := x.line, col := x.col + (x.s.size : Int), t := st.t ++ (S1 ++ S2 ++ x.s).data.toList } : PS) = st.step x := by rw [HTX.out]; rfl
          rw [← e9]
          exact h9
        case measure => simp [intOf]; omega
    · have hd : decide (i < ts.length) = false := by simpa using hlt
      have hie : i = ts.length := by omega
      rw [hie] at HJ
      have HLL : Hid (out.length = ts.length) := Lib.hid ((likeL_iff out ts).1 HLIKE.out).1
      have hn3 : ((out.length : Int) != (ts.length : Int)) = false := by have := HLL.out; simp [this]
      have hn4 : ((ts.length : Int) != (ts.length : Int)) = false := by simp
      have C24 : Hid (∀ W, TI W → Calls Tryz.prog 24 #[.string S] W (TokTo (.ok out) W)) := Lib.hid (fun W hW => by rw [← HTOK.out]; exact H24.out S W hW)
      clear hie
      go_wp2_with (first | (go_at_call 64; ((with_reducible refine (c64P _ HJ.out S HS.out).mono ?_); rintro e w3 ⟨rfl, hj, hs⟩; have HJ3 := Lib.hid hj; have HW3 : Hid (Below w.heap.size w w3) := Lib.hid (HB1.out.trans (hj.bel.mono HB1.out.size)); clear hj hs)) | (go_at_call 24; ((with_reducible refine (C24.out _ (HT.out.below HW3.out)).mono ?_); rintro e w4 ⟨⟨vo, rfl, hvo⟩, hb4⟩; have HJ4 := Lib.hid (HJ3.out.below hb4); have HVO := Lib.hid hvo; obtain ⟨ao, co, rfl, hco, hco2⟩ := hvo.shape; clear hvo hb4)))
      go_loopw [144] (fun s144 wr => ∃ k : Nat, k ≤ ts.length ∧ s144 = .int .i64 (k : Int) ∧ Below w4.heap.size w4 wr) (fun s144 _ => ts.length - (intOf s144).toNat)
      case atStart => exact ⟨0, Nat.zero_le _, rfl, Below.refl _ _⟩
      case round =>
        obtain ⟨k, hk, rfl, hB⟩ := hrel
        have HBL := Lib.hid hB
        have HJk := Lib.hid (HJ4.out.below hB)
        have HWk : Hid (Below w.heap.size w wr) := Lib.hid (HB1.out.trans (HJk.out.bel.mono HB1.out.size))
        clear hB
        by_cases hltk : k < ts.length
        · obtain ⟨y, hy⟩ : ∃ y, ts[k]? = some y := ⟨_, List.getElem?_eq_getElem hltk⟩
          obtain ⟨x, hx⟩ : ∃ x, out[k]? = some x := ⟨_, List.getElem?_eq_getElem (by have := HLL.out; omega)⟩
          obtain ⟨gb, cap, he, hc1, hm1, hgb, hcl⟩ := (HR.out.below HWk.out).cells (by omega)
          injection he with e1 e2 e3
          subst e1 e3
          obtain ⟨dv, hiv, y0, y1, y2, y3, y4, y5, y6, y7⟩ := hcl k y hy
          obtain ⟨ad, cpd, rfl⟩ := row_form hiv
          obtain ⟨g1, cap1, he1, hc11, hm11, hg1, hcl1⟩ := (HVO.out.below HBL.out).cells (by have := HLL.out; omega)
          injection he1 with f1 f2 f3
          subst f1 f3
          obtain ⟨dx, hix, x0, x1, x2, x3, x4, x5, x6, x7⟩ := hcl1 k x hx
          have hlk := ((likeL_iff out ts).1 HLIKE.out).2 k x y hx hy
          have hpp := HPOS.out k x y hx hy
          have hdl : x.d.length ≤ 1000000 := tokens_d HTOK.out x (List.mem_of_getElem? hx)
          have CC := Lib.hid (fun X (hX : Below wr.heap.size wr X) => c72 x y dx _ X (hix.below hX) (hiv.below hX) hdl)
          have l1 : (x.line != y.line) = false := by simp [hpp.1]
          have l2 : (x.col != y.col) = false := by simp [hpp.2]
          have HLK := Lib.hid hlk
          have b0 : (0 : Int) ≤ (k : Int) := by omega
          have b1 : (k : Int) < (ts.length : Int) := by omega
          have b2 : (k : Int) < (out.length : Int) := by have := HLL.out; omega
          obtain ⟨B17, hB17⟩ : ∃ B, wr.heap.size = B := ⟨_, rfl⟩
          have KS : Hid (∀ W, Below (wr.heap.size + 1) (wr.alloc (.cells #[.int .i64 y.k, .string y.s, .bool false, .slice ad y.d.length cpd, .int .i64 (y.at_ : Int), .int .i64 (y.en : Int), .int .i64 y.line, .int .i64 y.col] 41)) W → W.cell? ⟨g1, k * 8, none⟩ = some (.int .i64 x.k) ∧ W.cell? ⟨g1, k * 8 + 1, none⟩ = some (.string x.s) ∧ W.cell? ⟨g1, k * 8 + 2, none⟩ = some (.bool false) ∧ W.cell? ⟨g1, k * 8 + 3, none⟩ = some (dx) ∧ W.cell? ⟨g1, k * 8 + 4, none⟩ = some (.int .i64 (x.at_ : Int)) ∧ W.cell? ⟨g1, k * 8 + 5, none⟩ = some (.int .i64 (x.en : Int)) ∧ W.cell? ⟨g1, k * 8 + 6, none⟩ = some (.int .i64 x.line) ∧ W.cell? ⟨g1, k * 8 + 7, none⟩ = some (.int .i64 x.col) ∧ W.cell? ⟨B17, 0, none⟩ = some (.int .i64 y.k) ∧ W.cell? ⟨B17, 1, none⟩ = some (.string y.s) ∧ W.cell? ⟨B17, 2, none⟩ = some (.bool false) ∧ W.cell? ⟨B17, 3, none⟩ = some (.slice ad y.d.length cpd) ∧ W.cell? ⟨B17, 4, none⟩ = some (.int .i64 (y.at_ : Int)) ∧ W.cell? ⟨B17, 5, none⟩ = some (.int .i64 (y.en : Int)) ∧ W.cell? ⟨B17, 6, none⟩ = some (.int .i64 y.line) ∧ W.cell? ⟨B17, 7, none⟩ = some (.int .i64 y.col)) := Lib.hid (fun W hX => by
            have hbc : ∀ (g o : Nat) (u : Value), g < wr.heap.size → wr.cell? ⟨g, o, none⟩ = some u → W.cell? ⟨g, o, none⟩ = some u := fun g o u hg h => by
              rw [hX.cell (p := ⟨g, o, none⟩) (by show g < wr.heap.size + 1; omega), World.cell?_alloc_lt _ _ _ hg]; exact h
            have hbk : W.heap[wr.heap.size]? = some (.cells #[.int .i64 y.k, .string y.s, .bool false, .slice ad y.d.length cpd, .int .i64 (y.at_ : Int), .int .i64 (y.en : Int), .int .i64 y.line, .int .i64 y.col] 41 (0, 0)) := (hX.block _ (by omega)).trans (blk_new _ _ rfl _)
            have hbn : ∀ j, W.cell? ⟨B17, j, none⟩ = (#[.int .i64 y.k, .string y.s, .bool false, .slice ad y.d.length cpd, .int .i64 (y.at_ : Int), .int .i64 (y.en : Int), .int .i64 y.line, .int .i64 y.col] : Array Value)[j]? := fun j => by rw [← hB17, cell_of_row _ _ _ _ _ _ hbk]
            exact ⟨hbc _ _ _ hg1 x0, hbc _ _ _ hg1 x1, hbc _ _ _ hg1 x2, hbc _ _ _ hg1 x3, hbc _ _ _ hg1 x4, hbc _ _ _ hg1 x5, hbc _ _ _ hg1 x6, hbc _ _ _ hg1 x7, hbn 0, hbn 1, hbn 2, hbn 3, hbn 4, hbn 5, hbn 6, hbn 7⟩)
          have HB0 : Hid (Below (wr.heap.size + 1) (wr.alloc (.cells #[.int .i64 y.k, .string y.s, .bool false, .slice ad y.d.length cpd, .int .i64 (y.at_ : Int), .int .i64 (y.en : Int), .int .i64 y.line, .int .i64 y.col] 41)) (wr.alloc (.cells #[.int .i64 y.k, .string y.s, .bool false, .slice ad y.d.length cpd, .int .i64 (y.at_ : Int), .int .i64 (y.en : Int), .int .i64 y.line, .int .i64 y.col] 41))) := Lib.hid (Below.refl _ _)
          have HA0 : Hid (Below wr.heap.size wr (wr.alloc (.cells #[.int .i64 y.k, .string y.s, .bool false, .slice ad y.d.length cpd, .int .i64 (y.at_ : Int), .int .i64 (y.en : Int), .int .i64 y.line, .int .i64 y.col] 41))) := Lib.hid ((Below.refl _ _).alloc (Nat.le_refl _) _)
          clear hcl hcl1 hiv hix hx hy hlk hpp x0 x1 x2 x3 x4 x5 x6 x7 e2 f2
          go_wp2
          have HB17 := Lib.hid hB17
          clear hB17
          go_region_held3 (fun W : World => W.cell? ⟨g1, k * 8, none⟩ = some (.int .i64 x.k) ∧ W.cell? ⟨g1, k * 8 + 1, none⟩ = some (.string x.s) ∧ W.cell? ⟨g1, k * 8 + 2, none⟩ = some (.bool false) ∧ W.cell? ⟨g1, k * 8 + 3, none⟩ = some (dx) ∧ W.cell? ⟨g1, k * 8 + 4, none⟩ = some (.int .i64 (x.at_ : Int)) ∧ W.cell? ⟨g1, k * 8 + 5, none⟩ = some (.int .i64 (x.en : Int)) ∧ W.cell? ⟨g1, k * 8 + 6, none⟩ = some (.int .i64 x.line) ∧ W.cell? ⟨g1, k * 8 + 7, none⟩ = some (.int .i64 x.col) ∧ W.cell? ⟨B17, 0, none⟩ = some (.int .i64 y.k) ∧ W.cell? ⟨B17, 1, none⟩ = some (.string y.s) ∧ W.cell? ⟨B17, 2, none⟩ = some (.bool false) ∧ W.cell? ⟨B17, 3, none⟩ = some (.slice ad y.d.length cpd) ∧ W.cell? ⟨B17, 4, none⟩ = some (.int .i64 (y.at_ : Int)) ∧ W.cell? ⟨B17, 5, none⟩ = some (.int .i64 (y.en : Int)) ∧ W.cell? ⟨B17, 6, none⟩ = some (.int .i64 y.line) ∧ W.cell? ⟨B17, 7, none⟩ = some (.int .i64 y.col)) (first | exact KS.out _ HB0.out | exact KS.out _ HB0.out.drew)
            ((go_at_call 72; ((with_reducible refine (CC.out _ (by first | exact HA0.out.trans (HB0.out.mono (by omega)) | exact HA0.out.trans (HB0.out.drew.mono (by omega)))).mono ?_); rintro e w6 ⟨rfl, hbb⟩; rw [HLK.out]; replace HB0 : Hid (Below (wr.heap.size + 1) (wr.alloc (.cells #[.int .i64 y.k, .string y.s, .bool false, .slice ad y.d.length cpd, .int .i64 (y.at_ : Int), .int .i64 (y.en : Int), .int .i64 y.line, .int .i64 y.col] 41)) w6) := Lib.hid (by first | exact HB0.out.trans (hbb.mono (by have := HB0.out.size; simp at this ⊢ <;> omega)) | exact HB0.out.drew.trans (hbb.mono (by have := HB0.out.size; simp at this ⊢ <;> omega))); clear hbb)))
          all_goals
            go_wp2
            go_roundw
            case rel => exact ⟨k + 1, by omega, by go_num, HBL.out.trans ((HA0.out.trans (HB0.out.mono (by omega))).mono HBL.out.size)⟩
            case measure => simp [intOf]; omega
        · have hdk : decide (k < ts.length) = false := by simpa using hltk
          go_wp2_with (go_at_call 64; ((with_reducible refine (c64P _ HJk.out S HS.out).mono ?_); rintro e w5 ⟨rfl, hj, hs⟩; have HJ5 := Lib.hid hj; clear hj hs))
          go_ret2
          exact ⟨rfl, HB1.out.trans (HJ5.out.bel.mono HB1.out.size)⟩
end Go.Proofs.YtagcfgoofiibfaaGreatDoor
namespace Go.Proofs.YtagcfgoofiibfaaGreatDoor
open Go Go.RowKit
def sT0 : List Tk := [⟨5, ⟨#[47, 92]⟩, [], 0, 2, 1, 1⟩, ⟨1, ⟨#[97]⟩, [], 3, 4, 1, 4⟩, ⟨5, ⟨#[47, 92]⟩, [], 6, 11, 2, 9⟩, ⟨4, ⟨#[87, 70, 95]⟩, [], 12, 15, 2, 15⟩, ⟨1, ⟨#[118]⟩, [], 15, 16, 2, 18⟩, ⟨5, ⟨#[40]⟩, [], 16, 17, 2, 19⟩, ⟨1, ⟨#[95, 120]⟩, [], 17, 19, 2, 20⟩, ⟨5, ⟨#[41]⟩, [], 19, 20, 2, 22⟩]
theorem sane_t0 : tokens ⟨#[47, 92, 32, 97, 10, 9, 92, 108, 97, 110, 100, 32, 87, 70, 95, 118, 40, 95, 120, 41]⟩ = .ok sT0 := by kernel_rfl
def sE0 : List Tk := [⟨5, ⟨#[47, 92]⟩, [], 0, 0, 0, 0⟩, ⟨1, ⟨#[97]⟩, [], 0, 0, 0, 0⟩, ⟨5, ⟨#[47, 92]⟩, [], 0, 0, 0, 0⟩, ⟨4, ⟨#[87, 70, 95]⟩, [], 0, 0, 0, 0⟩, ⟨1, ⟨#[118]⟩, [], 0, 0, 0, 0⟩, ⟨5, ⟨#[40]⟩, [], 0, 0, 0, 0⟩, ⟨1, ⟨#[95, 120]⟩, [], 0, 0, 0, 0⟩, ⟨5, ⟨#[41]⟩, [], 0, 0, 0, 0⟩]
theorem sane_l0 : likeL sT0 sE0 = true := by kernel_rfl
theorem sane_c0 : cutF ⟨#[83, 92, 84]⟩ [⟨1, ⟨#[83]⟩, [], 0, 0, 0, 0⟩, ⟨5, ⟨#[92]⟩, [], 0, 0, 0, 0⟩, ⟨1, ⟨#[84]⟩, [], 0, 0, 0, 0⟩] = true := by kernel_rfl
theorem sane_c1 : cutF ⟨#[49, 46, 46, 51]⟩ [⟨2, ByteArray.empty, [1], 0, 0, 0, 0⟩, ⟨5, ⟨#[46, 46]⟩, [], 0, 0, 0, 0⟩, ⟨2, ByteArray.empty, [3], 0, 0, 0, 0⟩] = true := by kernel_rfl
theorem sane_c2 : cutF ⟨#[40, 43, 41, 49, 32, 40, 42, 40, 42, 41, 42, 41, 32, 42, 41, 50]⟩ [⟨5, ⟨#[40, 43, 41]⟩, [], 0, 0, 0, 0⟩, ⟨2, ByteArray.empty, [1], 0, 0, 0, 0⟩, ⟨2, ByteArray.empty, [2], 0, 0, 0, 0⟩] = true := by kernel_rfl
theorem sane_c3 : cutF ⟨#[92, 104, 70, 70, 32, 92, 111, 49, 55, 32, 92, 98, 49, 48, 49, 32, 92, 111, 112, 108, 117, 115, 32, 92, 111, 32, 120]⟩ [⟨2, ByteArray.empty, [255], 0, 0, 0, 0⟩, ⟨2, ByteArray.empty, [15], 0, 0, 0, 0⟩, ⟨2, ByteArray.empty, [5], 0, 0, 0, 0⟩, ⟨5, ⟨#[40, 43, 41]⟩, [], 0, 0, 0, 0⟩, ⟨5, ⟨#[92, 111]⟩, [], 0, 0, 0, 0⟩, ⟨1, ⟨#[120]⟩, [], 0, 0, 0, 0⟩] = true := by kernel_rfl
theorem sane_r0 : tokens ⟨#[97, 32, 95, 95]⟩ = .error (2, 20) := by kernel_rfl
theorem sane_r1 : tokens ⟨#[34, 97]⟩ = .error (0, 21) := by kernel_rfl
theorem sane_r2 : tokens ⟨#[40, 42, 32, 40, 42, 32, 42, 41]⟩ = .error (0, 22) := by kernel_rfl
theorem sane_r3 : tokens ⟨#[92, 98, 49, 50]⟩ = .error (0, 23) := by kernel_rfl
theorem sane_k0 : kindF ⟨#[87, 70, 95]⟩ = 4 := by kernel_rfl
theorem sane_k1 : kindF ⟨#[87, 70, 95, 120]⟩ = 0 := by kernel_rfl
theorem sane_k2 : kindF ⟨#[45, 45, 45]⟩ = 0 := by kernel_rfl
theorem sane_n0 : (canonOf ⟨#[92, 108, 101, 113]⟩).getD ByteArray.empty = ⟨#[60, 61]⟩ := by kernel_rfl
theorem sane_n1 : (canonOf ⟨#[108, 101, 113]⟩).getD ByteArray.empty = ⟨#[]⟩ := by kernel_rfl
theorem sane_j0 : joinF [⟨1, ⟨#[97]⟩, [], 0, 0, 0, 0⟩, ⟨1, ⟨#[98]⟩, [], 0, 0, 0, 0⟩, ⟨5, ⟨#[61]⟩, [], 0, 0, 0, 0⟩, ⟨5, ⟨#[61]⟩, [], 0, 0, 0, 0⟩] = some [97, 32, 98, 61, 32, 61] := by kernel_rfl
theorem sane_j1 : joinF [⟨5, ⟨#[40]⟩, [], 0, 0, 0, 0⟩, ⟨5, ⟨#[43]⟩, [], 0, 0, 0, 0⟩, ⟨5, ⟨#[41]⟩, [], 0, 0, 0, 0⟩] = some [40, 43, 32, 41] := by kernel_rfl
theorem sane_s0 : stripF ⟨#[97, 40, 42, 98, 42, 41, 99]⟩ = .ok ⟨#[97, 32, 32, 32, 32, 32, 99]⟩ := by kernel_rfl
def sP : List Tk := [⟨1, ⟨#[97]⟩, [], 0, 0, 2, 3⟩, ⟨5, ⟨#[43]⟩, [], 0, 0, 2, 4⟩]
def sPo : List Tk := [⟨1, ⟨#[97]⟩, [], 3, 4, 2, 3⟩, ⟨5, ⟨#[43]⟩, [], 4, 5, 2, 4⟩]
theorem sane_p0 : (⟨(PS.at sP sP.length).t.toArray⟩ : ByteArray) = ⟨#[10, 32, 32, 97, 43]⟩ := by kernel_rfl
theorem sane_p1 : tokens ⟨#[10, 32, 32, 97, 43]⟩ = .ok sPo := by kernel_rfl
theorem sane_p2 : likeL sPo sP = true := by kernel_rfl
theorem sane_w : wordsS.length = 35 := by (unfold wordsS; rw [List.length_mergeSort]; kernel_rfl)
theorem sane_g : [92, 108, 111, 114] ∈ signsS := by (unfold signsS; rw [List.mem_mergeSort]; exact List.contains_iff_mem.1 (by kernel_rfl : (signsL.map (·.1)).contains [92, 108, 111, 114] = true))
end Go.Proofs.YtagcfgoofiibfaaGreatDoor
