/- The law LexPlacedJ: its walk and its statement: NJ0, NI0, NI1, NI2. -/
import Derived.Test.YtagcfgoofiibfaaGreatDoorLexPlacedN
import Derived.Test.YtagcfgoofiibfaaGreatDoorG38
import Derived.Test.YtagcfgoofiibfaaGreatDoorLexPlacedP
set_option linter.unusedVariables false
set_option linter.unusedSimpArgs false
set_option linter.unusedVariables false
namespace Go.Proofs.YtagcfgoofiibfaaGreatDoor
open Go Go.RowKit

/-- what Place hands back where it finds no text -/
def PlcNo (w : World) (e : Ending) (w' : World) : Prop := e = .returned (.tuple #[.string ⟨#[]⟩, .int .i64 26]) ∧ Below w.heap.size w w'
/-- what Place hands back: a text or none -/
def PlcR : Bool → ByteArray → World → Ending → World → Prop
  | true, S, w => PlcTo S w
  | false, _, w => PlcNo w
/-- how Place ends: a token stands too far ahead; the text is not read; it is read as more or fewer tokens; it is read as so many -/
inductive PlEnd (ts : List Tk) (m : Nat) (S : ByteArray) : Bool → Prop
  | cf (y : Tk) : ts[m]? = some y → Cf (PS.gat ts m) y → PlEnd ts m S false
  | er (a : Nat) (er : Int) : m = ts.length → er ≠ 0 → tokens S = .error (a, er) → PlEnd ts m S false
  | ln (out : List Tk) : m = ts.length → out.length ≠ ts.length → tokens S = .ok out → PlEnd ts m S false
  | rd (out : List Tk) (n : Nat) (b : Bool) : m = ts.length → tokens S = .ok out → out.length = ts.length → n ≤ ts.length →
    (∀ (i : Nat) (x y : Tk), i < n → out[i]? = some x → ts[i]? = some y → likeF x y = true ∧ x.line = y.line ∧ x.col = y.col) →
    ((n = ts.length ∧ b = true) ∨ (n < ts.length ∧ b = false ∧ ∀ (x y : Tk), out[n]? = some x → ts[n]? = some y → likeF x y = false ∨ x.line ≠ y.line ∨ x.col ≠ y.col)) → PlEnd ts m S b

set_option maxRecDepth 100000 in
set_option maxHeartbeats 6400000 in
theorem c32any (v : Value) (ts : List Tk) (m : Nat) (S : ByteArray) (b : Bool) (w : World) (hT : TI w) (hPw : TP w) (hr : TokRow w v ts) (hv : ∀ t ∈ ts, ValidT t) (hn : ts.length ≤ 20000) (hmn : m ≤ ts.length)
    (hfit : ∀ (i : Nat) (x : Tk), i < m → ts[i]? = some x → (PS.gat ts i).GFits x) (hS : S = ⟨(PS.gat ts ts.length).t.toArray⟩) (hend : PlEnd ts m S b) : Calls Tryz.prog 32 #[v] w (PlcR b S w) := by
  have hck := c61g ValidT says97 v ts w hT hPw hr hv
  have h24 : C24 := H24
  obtain ⟨a0, cp0, rfl, hm0, hc0⟩ := hr.shape
  have CK := Lib.hid hck
  have HR := Lib.hid hr
  have HV := Lib.hid hv
  have HTPw := Lib.hid hPw
  have HT := Lib.hid hT
  have H24 := Lib.hid h24
  have HFIT := Lib.hid hfit
  have HS := Lib.hid hS
  have HEND := Lib.hid hend
  have HMN := Lib.hid hmn
  clear hck hr hv hT hPw h24 hfit hS hend hmn
  have hbz : ¬ ((20000 : Int) < (ts.length : Int)) := by omega
  go_enter Tryz.func32, Tryz.ntmps32
  go_wp2_with (go_at_call 61; ((with_reducible refine CK.out.mono ?_); rintro e w1 ⟨p, rfl, hp, hb1⟩; have HB1 := Lib.hid hb1; have HP := Lib.hid hp; clear hb1 hp))
  go_loopw [7, 32] (fun s7 s32 wr => ∃ i : Nat, i ≤ m ∧ s7 = .bool false ∧ s32 = .int .i64 (i : Int) ∧ PW w1 w1.heap.size (PS.gat ts i) wr) (fun _ s32 _ => ts.length - (intOf s32).toNat)
  case atStart =>
    refine ⟨0, Nat.zero_le _, rfl, rfl, ⟨.inl ⟨by omega, _, blk_new _ _ (by simp) _, ⟨rfl, .inl ⟨rfl, rfl⟩⟩, by intro h; cases h⟩, blk_alloc (blk_new _ _ rfl _) _, ((Below.refl _ _).alloc (Nat.le_refl _) _).alloc (by simp) _⟩⟩
  case round =>
    obtain ⟨i, hi, rfl, rfl, hJ⟩ := hrel
    have HJ := Lib.hid hJ
    have HW : Hid (Below w.heap.size w wr) := Lib.hid (HB1.out.trans (hJ.bel.mono HB1.out.size))
    obtain ⟨pl0, pc0, pf0⟩ := hJ.cells
    have hPlt := hJ.lt
    have ne1 : ¬ (w1.heap.size = wr.heap.size) := by omega
    have ne2 : ¬ (w1.heap.size = wr.heap.size + 1) := by omega
    have ne3 : w1.heap.size < wr.heap.size := by omega
    have ne4 : w1.heap.size < wr.heap.size + 1 := by omega
    clear hJ
    by_cases hlt : i < m
    · have hltn : i < ts.length := by have := HMN.out; omega
      obtain ⟨x, hx⟩ : ∃ x, ts[i]? = some x := ⟨_, List.getElem?_eq_getElem hltn⟩
      have hvx := HV.out x (List.mem_of_getElem? hx)
      have hF := HFIT.out i x hlt hx
      obtain ⟨gb, cap, he, hc1, hm1, hgb, hcl⟩ := HR.out.cells (by omega)
      injection he with e1 e2 e3
      subst e1 e3
      obtain ⟨dv, hivW, y0, y1, y2, y3, y4, y5, y6, y7⟩ := hcl i x hx
      have x0 := (HW.out.cell (by exact hgb)).trans y0
      have x1 := (HW.out.cell (by exact hgb)).trans y1
      have x2 := (HW.out.cell (by exact hgb)).trans y2
      have x3 := (HW.out.cell (by exact hgb)).trans y3
      have x4 := (HW.out.cell (by exact hgb)).trans y4
      have x5 := (HW.out.cell (by exact hgb)).trans y5
      have x6 := (HW.out.cell (by exact hgb)).trans y6
      have x7 := (HW.out.cell (by exact hgb)).trans y7
      clear y0 y1 y2 y3 y4 y5 y6 y7
      obtain ⟨ad, cpd, rfl⟩ := row_form hivW
      obtain ⟨E, hE⟩ : ∃ E, spellF x = E := ⟨_, rfl⟩
      have C62 : Hid (∀ X, Below w.heap.size w X → Calls Tryz.prog 62 #[.agg #[.int .i64 x.k, .string x.s, .bool false, .slice ad x.d.length cpd, .int .i64 (x.at_ : Int), .int .i64 (x.en : Int), .int .i64 x.line, .int .i64 x.col]] X fun e w' => e = .returned (.string E) ∧ Below X.heap.size X w') := Lib.hid (fun X hX => by
        have h := says62 x _ X hvx (hivW.below hX) (HTPw.out.below hX)
        rw [hE] at h; exact h)
      obtain ⟨st, hst⟩ : ∃ st, PS.gat ts i = st := ⟨_, rfl⟩
      have hsucc := PS.gat_succ ts i x hx
      rw [hst] at hF hsucc HJ pl0 pc0
      obtain ⟨fa, fb, fc, fl0, fl1, fc0, fc1, fc2, fs, ft⟩ := hF
      rw [hE] at fs
      have b0 : (0 : Int) ≤ (i : Int) := by omega
      have b1 : (i : Int) < (ts.length : Int) := by omega
      have HEE := Lib.hid hE
      have HSUCC := Lib.hid hsucc
      obtain ⟨n, hn0⟩ : ∃ n, st.t.length = n := ⟨_, rfl⟩
      rw [hn0] at ft
      have HN := Lib.hid hn0
      have g1 : ¬ x.line < st.line := by omega
      have g2 : ¬ x.col < 1 := by omega
      clear hcl hivW hvx hx e2 hst hsucc hn0 hE
      obtain ⟨ln, hln⟩ : ∃ ln : Nat, x.line - st.line = (ln : Int) := ⟨(x.line - st.line).toNat, by omega⟩
      have hlnb : ln ≤ 4000 := by omega
      by_cases hz : x.line = st.line
      · have z1 : (x.line == st.line) = true := by simpa using hz
        have z2 : ¬ (0 < x.line - st.line) := by omega
        have z4 := fc hz
        have z5 : ¬ (x.col < st.col) := by omega
        have hc0 : st.c0 x = st.col := by unfold PS.c0; rw [if_neg z2]
        obtain ⟨sp, hsp⟩ : ∃ sp : Nat, x.col - st.col = (sp : Int) := ⟨(x.col - st.col).toNat, by omega⟩
        have hspb : sp ≤ 30000 := by omega
        have HLN := Lib.hid hln
        have HSP := Lib.hid hsp
        have HC0 := Lib.hid hc0
        clear hz hln hsp hc0
        go_wp2_with (go_at_call 62; ((with_reducible refine (C62.out _ (by first | exact (HW.out.alloc HW.out.size _).alloc (HW.out.alloc HW.out.size _).size _ | exact ((HW.out.setCell (p := ⟨w1.heap.size, 1, none⟩) HB1.out.size _).alloc (HW.out.setCell (p := ⟨w1.heap.size, 1, none⟩) HB1.out.size _).size _).alloc ((HW.out.setCell (p := ⟨w1.heap.size, 1, none⟩) HB1.out.size _).alloc (HW.out.setCell (p := ⟨w1.heap.size, 1, none⟩) HB1.out.size _).size _).size _)).mono ?_); rintro e w3 ⟨rfl, hb3⟩; have HX3 : Hid (PX w1 w1.heap.size st (wr.heap.size + 1) x.line x.col w3) := Lib.hid (PX.mk2 HJ.out _ _ _ hb3); clear hb3))
        have hPQ := HX3.out.qn
        have m1 : IntKind.i64.wrap (x.col - st.col) = x.col - st.col := IntWalk.i64_in _ (by omega)
        have m2 : IntKind.i64.wrap ((n : Int) + (x.line - st.line)) = (n : Int) + (x.line - st.line) := IntWalk.i64_in _ (by omega)
        have m3 : IntKind.i64.wrap ((n : Int) + (x.line - st.line) + x.col) = (n : Int) + (x.line - st.line) + x.col := IntWalk.i64_in _ (by omega)
        have m4 : IntKind.i64.wrap ((n : Int) + (x.line - st.line) + x.col - st.col) = (n : Int) + (x.line - st.line) + x.col - st.col := IntWalk.i64_in _ (by omega)
        have m5 : IntKind.i64.wrap ((n : Int) + (x.line - st.line) + x.col - st.col + (E.size : Int)) = (n : Int) + (x.line - st.line) + x.col - st.col + (E.size : Int) := IntWalk.i64_in _ (by omega)
        have d1 : decide (100000 < x.line - st.line) = false := by simp; omega
        have d2 : decide (100000 < x.col - st.col) = false := by simp; omega
        have d3 : decide (100000 < (n : Int) + (x.line - st.line) + x.col - st.col + (E.size : Int)) = false := by simp; omega
        obtain ⟨kq0, kq1, kp1, kp0⟩ := HX3.out.cells
        try simp only [] at kp1 kp0
        go_quiet ((go_at_call 66; exact quiet_eq (c66P _ (HX3.out.pw.drewN _) n HN.out)))
        obtain ⟨S1, hS1⟩ : ∃ S1 : ByteArray, S1 = ⟨(Lib.repeatL [10] ln).toArray⟩ := ⟨_, rfl⟩
        obtain ⟨S2, hS2⟩ : ∃ S2 : ByteArray, S2 = ⟨(Lib.repeatL [32] sp).toArray⟩ := ⟨_, rfl⟩
        have hs1 : S1.size = ln := by rw [hS1]; show (Lib.repeatL [10] ln).toArray.size = ln; simp [repeatL_len]
        have hs2 : S2.size = sp := by rw [hS2]; show (Lib.repeatL [32] sp).toArray.size = sp; simp [repeatL_len]
        have a1 : S1.size + S2.size ≤ 9223372036854775807 := by omega
        have a2 : ¬ (9223372036854775807 < S1.size + S2.size) := by omega
        have a3 : S1.size + S2.size + E.size ≤ 9223372036854775807 := by omega
        have a4 : ¬ (9223372036854775807 < S1.size + S2.size + E.size) := by omega
        have a5 : (S1 ++ S2).size + E.size ≤ 9223372036854775807 := by rw [ByteArray.size_append]; omega
        have hwb : st.t.length + (S1 ++ S2 ++ E).size ≤ 140737488355328 := by rw [ByteArray.size_append, ByteArray.size_append, HN.out]; omega
        have htx : st.t ++ (S1 ++ S2 ++ E).data.toList = (st.gstep x).t := by
          show _ = st.t ++ ((Lib.repeatL [10] (x.line - st.line).toNat ++ Lib.repeatL [32] (x.col - st.c0 x).toNat) ++ (spellF x).data.toList)
          rw [HC0.out, hS1, hS2, HEE.out]
          have e1 : (x.line - st.line).toNat = ln := by have := HLN.out; omega
          have e2 : (x.col - st.col).toNat = sp := by have := HSP.out; omega
          rw [e1, e2]
          simp [ByteArray.data_append]
        have HTX := Lib.hid htx
        have HWB := Lib.hid hwb
        have HS1 := Lib.hid hS1
        have HS2 := Lib.hid hS2
        have KS : Hid (∀ W, PX w1 w1.heap.size st (wr.heap.size + 1) x.line x.col W → (W.cell? ⟨wr.heap.size + 1, 1, none⟩ = some (.int .i64 x.col) ∧ W.cell? ⟨w1.heap.size, 1, none⟩ = some (.int .i64 st.col))) := Lib.hid (fun W hW => ⟨hW.cells.2.1, hW.cells.2.2.1⟩)
        clear hS1 hS2 hs1 hs2 htx hwb kq0 kq1 kp1 kp0 m2 m3 m4 m5 d1 d2 d3
        go_wp2
        go_region_held3 (fun W : World => W.cell? ⟨wr.heap.size + 1, 1, none⟩ = some (.int .i64 x.col) ∧ W.cell? ⟨w1.heap.size, 1, none⟩ = some (.int .i64 st.col)) (first | exact KS.out _ HX5.out | exact KS.out _ HX5.out.drew | exact KS.out _ HX4.out | exact KS.out _ HX4.out.drew | exact KS.out _ (HX3.out.drewN _) | exact KS.out _ (HX3.out.drewN _).drew | exact ⟨HX7.out.cells.2.1, HX7.out.cells.2.2.1⟩)
          (first | (go_at_call 34; ((with_reducible refine (c34 _ _ sp S2 _ HSP.out HS2.out (by omega) (by decide)).mono ?_); rintro e w5 ⟨rfl, hbb⟩; have HX5 : Hid (PX w1 w1.heap.size st (wr.heap.size + 1) x.line x.col w5) := Lib.hid (by first | exact HX4.out.below hbb | exact HX4.out.drew.below hbb); clear hbb)) | (go_at_call 34; ((with_reducible refine (c34 _ _ ln S1 _ HLN.out HS1.out (by omega) (by decide)).mono ?_); rintro e w4 ⟨rfl, hbb⟩; have HX4 : Hid (PX w1 w1.heap.size st (wr.heap.size + 1) x.line x.col w4) := Lib.hid (by first | exact (HX3.out.drewN _).below hbb | exact (HX3.out.drewN _).drew.below hbb); clear hbb)) | (go_at_call 67; ((with_reducible refine (c67P (w0 := w1) (P := w1.heap.size) (st := st) (S1 ++ S2 ++ E) _ (by first | exact HX5.out.pw | exact HX5.out.drew.pw) HWB.out).mono ?_); rintro e w7 ⟨rfl, hj, hst⟩; have HX7 := Lib.hid (HX5.out.stays hj hst); clear hj hst)))
        have r0 := HX7.out.cells.1
        have r1 := HX7.out.cells.2.1
        have r2 := HX7.out.cells.2.2.1
        have r3 := HX7.out.cells.2.2.2
        try simp only [] at r2 r3
        have rf := HX7.out.pw.cells.2.2
        go_wp2
        go_roundw
        case rel =>
          refine ⟨i + 1, by omega, rfl, by go_num, ?_⟩
          rw [HSUCC.out]
          have h9 := (HX7.out.pw.setLine x.line).setCol (x.col + (E.size : Int))
          have e9 : ({ line := x.line, col := x.col + (E.size : Int), t := st.t ++ (S1 ++ S2 ++ E).data.toList } : PS) = st.gstep x := by rw [HTX.out, ← HEE.out]; rfl
          rw [← e9]
          exact h9
        case measure => simp [intOf]; omega
      · have z1 : (x.line == st.line) = false := by simpa using hz
        have z2 : 0 < x.line - st.line := by omega
        have z3 : (0 : Int) < x.line - st.line := z2
        have hc0 : st.c0 x = 1 := by unfold PS.c0; rw [if_pos z2]
        obtain ⟨sp, hsp⟩ : ∃ sp : Nat, x.col - 1 = (sp : Int) := ⟨(x.col - 1).toNat, by omega⟩
        have hspb : sp ≤ 30000 := by omega
        have HLN := Lib.hid hln
        have HSP := Lib.hid hsp
        have HC0 := Lib.hid hc0
        clear hz hln hsp hc0
        go_wp2_with (go_at_call 62; ((with_reducible refine (C62.out _ (by first | exact (HW.out.alloc HW.out.size _).alloc (HW.out.alloc HW.out.size _).size _ | exact ((HW.out.setCell (p := ⟨w1.heap.size, 1, none⟩) HB1.out.size _).alloc (HW.out.setCell (p := ⟨w1.heap.size, 1, none⟩) HB1.out.size _).size _).alloc ((HW.out.setCell (p := ⟨w1.heap.size, 1, none⟩) HB1.out.size _).alloc (HW.out.setCell (p := ⟨w1.heap.size, 1, none⟩) HB1.out.size _).size _).size _)).mono ?_); rintro e w3 ⟨rfl, hb3⟩; have HX3 : Hid (PX w1 w1.heap.size { st with col := 1 } (wr.heap.size + 1) x.line x.col w3) := Lib.hid (PX.mk3 HJ.out _ _ _ _ hb3); clear hb3))
        have hPQ := HX3.out.qn
        have m1 : IntKind.i64.wrap (x.col - 1) = x.col - 1 := IntWalk.i64_in _ (by omega)
        have m2 : IntKind.i64.wrap ((n : Int) + (x.line - st.line)) = (n : Int) + (x.line - st.line) := IntWalk.i64_in _ (by omega)
        have m3 : IntKind.i64.wrap ((n : Int) + (x.line - st.line) + x.col) = (n : Int) + (x.line - st.line) + x.col := IntWalk.i64_in _ (by omega)
        have m4 : IntKind.i64.wrap ((n : Int) + (x.line - st.line) + x.col - 1) = (n : Int) + (x.line - st.line) + x.col - 1 := IntWalk.i64_in _ (by omega)
        have m5 : IntKind.i64.wrap ((n : Int) + (x.line - st.line) + x.col - 1 + (E.size : Int)) = (n : Int) + (x.line - st.line) + x.col - 1 + (E.size : Int) := IntWalk.i64_in _ (by omega)
        have d1 : decide (100000 < x.line - st.line) = false := by simp; omega
        have d2 : decide (100000 < x.col - 1) = false := by simp; omega
        have d3 : decide (100000 < (n : Int) + (x.line - st.line) + x.col - 1 + (E.size : Int)) = false := by simp; omega
        obtain ⟨kq0, kq1, kp1, kp0⟩ := HX3.out.cells
        try simp only [] at kp1 kp0
        go_quiet ((go_at_call 66; exact quiet_eq (c66P _ (HX3.out.pw.drewN _) n HN.out)))
        obtain ⟨S1, hS1⟩ : ∃ S1 : ByteArray, S1 = ⟨(Lib.repeatL [10] ln).toArray⟩ := ⟨_, rfl⟩
        obtain ⟨S2, hS2⟩ : ∃ S2 : ByteArray, S2 = ⟨(Lib.repeatL [32] sp).toArray⟩ := ⟨_, rfl⟩
        have hs1 : S1.size = ln := by rw [hS1]; show (Lib.repeatL [10] ln).toArray.size = ln; simp [repeatL_len]
        have hs2 : S2.size = sp := by rw [hS2]; show (Lib.repeatL [32] sp).toArray.size = sp; simp [repeatL_len]
        have a1 : S1.size + S2.size ≤ 9223372036854775807 := by omega
        have a2 : ¬ (9223372036854775807 < S1.size + S2.size) := by omega
        have a3 : S1.size + S2.size + E.size ≤ 9223372036854775807 := by omega
        have a4 : ¬ (9223372036854775807 < S1.size + S2.size + E.size) := by omega
        have a5 : (S1 ++ S2).size + E.size ≤ 9223372036854775807 := by rw [ByteArray.size_append]; omega
        have hwb : st.t.length + (S1 ++ S2 ++ E).size ≤ 140737488355328 := by rw [ByteArray.size_append, ByteArray.size_append, HN.out]; omega
        have htx : st.t ++ (S1 ++ S2 ++ E).data.toList = (st.gstep x).t := by
          show _ = st.t ++ ((Lib.repeatL [10] (x.line - st.line).toNat ++ Lib.repeatL [32] (x.col - st.c0 x).toNat) ++ (spellF x).data.toList)
          rw [HC0.out, hS1, hS2, HEE.out]
          have e1 : (x.line - st.line).toNat = ln := by have := HLN.out; omega
          have e2 : (x.col - 1).toNat = sp := by have := HSP.out; omega
          rw [e1, e2]
          simp [ByteArray.data_append]
        have HTX := Lib.hid htx
        have HWB := Lib.hid hwb
        have HS1 := Lib.hid hS1
        have HS2 := Lib.hid hS2
        have KS : Hid (∀ W, PX w1 w1.heap.size { st with col := 1 } (wr.heap.size + 1) x.line x.col W → (W.cell? ⟨wr.heap.size + 1, 1, none⟩ = some (.int .i64 x.col) ∧ W.cell? ⟨w1.heap.size, 1, none⟩ = some (.int .i64 1))) := Lib.hid (fun W hW => ⟨hW.cells.2.1, hW.cells.2.2.1⟩)
        clear hS1 hS2 hs1 hs2 htx hwb kq0 kq1 kp1 kp0 m2 m3 m4 m5 d1 d2 d3
        go_wp2
        go_region_held3 (fun W : World => W.cell? ⟨wr.heap.size + 1, 1, none⟩ = some (.int .i64 x.col) ∧ W.cell? ⟨w1.heap.size, 1, none⟩ = some (.int .i64 1)) (first | exact KS.out _ HX5.out | exact KS.out _ HX5.out.drew | exact KS.out _ HX4.out | exact KS.out _ HX4.out.drew | exact KS.out _ (HX3.out.drewN _) | exact KS.out _ (HX3.out.drewN _).drew | exact ⟨HX7.out.cells.2.1, HX7.out.cells.2.2.1⟩)
          (first | (go_at_call 34; ((with_reducible refine (c34 _ _ sp S2 _ HSP.out HS2.out (by omega) (by decide)).mono ?_); rintro e w5 ⟨rfl, hbb⟩; have HX5 : Hid (PX w1 w1.heap.size { st with col := 1 } (wr.heap.size + 1) x.line x.col w5) := Lib.hid (by first | exact HX4.out.below hbb | exact HX4.out.drew.below hbb); clear hbb)) | (go_at_call 34; ((with_reducible refine (c34 _ _ ln S1 _ HLN.out HS1.out (by omega) (by decide)).mono ?_); rintro e w4 ⟨rfl, hbb⟩; have HX4 : Hid (PX w1 w1.heap.size { st with col := 1 } (wr.heap.size + 1) x.line x.col w4) := Lib.hid (by first | exact (HX3.out.drewN _).below hbb | exact (HX3.out.drewN _).drew.below hbb); clear hbb)) | (go_at_call 67; ((with_reducible refine (c67P (w0 := w1) (P := w1.heap.size) (st := { st with col := 1 }) (S1 ++ S2 ++ E) _ (by first | exact HX5.out.pw | exact HX5.out.drew.pw) HWB.out).mono ?_); rintro e w7 ⟨rfl, hj, hst⟩; have HX7 := Lib.hid (HX5.out.stays hj hst); clear hj hst)))
        have r0 := HX7.out.cells.1
        have r1 := HX7.out.cells.2.1
        have r2 := HX7.out.cells.2.2.1
        have r3 := HX7.out.cells.2.2.2
        try simp only [] at r2 r3
        have rf := HX7.out.pw.cells.2.2
        go_wp2
        go_roundw
        case rel =>
          refine ⟨i + 1, by omega, rfl, by go_num, ?_⟩
          rw [HSUCC.out]
          have h9 := (HX7.out.pw.setLine x.line).setCol (x.col + (E.size : Int))
          have e9 : ({ line := x.line, col := x.col + (E.size : Int), t := st.t ++ (S1 ++ S2 ++ E).data.toList } : PS) = st.gstep x := by rw [HTX.out, ← HEE.out]; rfl
          rw [← e9]
          exact h9
        case measure => simp [intOf]; omega
    · have him : i = m := by omega
      rcases HEND.out with ⟨y, hm, hbad⟩ | ⟨a, er, hmn2, her, htok⟩ | ⟨out, hmn2, hln, htok⟩ | ⟨out, n, _, hmn2, htok, hln, hnn, hpos, hfin⟩
      · obtain ⟨gb, cap, he, hc1, hm1, hgb, hcl⟩ := HR.out.cells (by have := (List.getElem?_eq_some_iff.1 hm).1; omega)
        injection he with e1 e2 e3
        subst e1 e3
        have hx : ts[i]? = some y := by rw [him]; exact hm
        have hin : i < ts.length := (List.getElem?_eq_some_iff.1 hx).1
        obtain ⟨dv, hivW, y0, y1, y2, y3, y4, y5, y6, y7⟩ := hcl i y hx
        have x0 := (HW.out.cell (by exact hgb)).trans y0
        have x1 := (HW.out.cell (by exact hgb)).trans y1
        have x2 := (HW.out.cell (by exact hgb)).trans y2
        have x3 := (HW.out.cell (by exact hgb)).trans y3
        have x4 := (HW.out.cell (by exact hgb)).trans y4
        have x5 := (HW.out.cell (by exact hgb)).trans y5
        have x6 := (HW.out.cell (by exact hgb)).trans y6
        have x7 := (HW.out.cell (by exact hgb)).trans y7
        clear y0 y1 y2 y3 y4 y5 y6 y7
        obtain ⟨ad, cpd, rfl⟩ := row_form hivW
        obtain ⟨st, hst⟩ : ∃ st, PS.gat ts i = st := ⟨_, rfl⟩
        have hb : y.line < (PS.gat ts m).line ∨ (y.line = (PS.gat ts m).line ∧ 1 ≤ y.col ∧ y.col < (PS.gat ts m).col) := hbad
        rw [← him, hst] at hb
        rw [hst] at HJ pl0 pc0
        have b0 : (0 : Int) ≤ (i : Int) := by omega
        have b1 : (i : Int) < (ts.length : Int) := by omega
        have hbel : Below w.heap.size w wr := HW.out
        have HBZ := Lib.hid hbel
        clear hcl hivW hx e2 hst him hbel hbad hm
        rcases hb with q1 | ⟨q1, q2, q3⟩
        · go_wp2
          go_ret2
          exact ⟨rfl, (HBZ.out.alloc HBZ.out.size _).alloc (HBZ.out.alloc HBZ.out.size _).size _⟩
        · have g1 : ¬ y.line < st.line := by omega
          have g2 : ¬ y.col < 1 := by omega
          have z1 : (y.line == st.line) = true := by simpa using q1
          clear q1 q2
          go_wp2
          go_ret2
          exact ⟨rfl, (HBZ.out.alloc HBZ.out.size _).alloc (HBZ.out.alloc HBZ.out.size _).size _⟩
      · have HTOK := Lib.hid htok
        have hie : i = ts.length := by omega
        rw [hie] at HJ
        have hd : decide (i < ts.length) = false := by simp; omega
        have hn3 : (er != 0) = true := by simpa using her
        have C24 : Hid (∀ W, TI W → Calls Tryz.prog 24 #[.string S] W (TokTo (.error (a, er)) W)) := Lib.hid (fun W hW => by rw [← HTOK.out]; exact H24.out S W hW)
        clear hie him hlt htok her hmn2
        go_wp2_with (first | (go_at_call 64; ((with_reducible refine (c64P _ HJ.out S HS.out).mono ?_); rintro e w3 ⟨rfl, hj, hs⟩; have HJ3 := Lib.hid hj; have HW3 : Hid (Below w.heap.size w w3) := Lib.hid (HB1.out.trans (hj.bel.mono HB1.out.size)); clear hj hs)) | (go_at_call 24; ((with_reducible refine (C24.out _ (HT.out.below HW3.out)).mono ?_); rintro e w4 ⟨rfl, hb4⟩; have HW4 := Lib.hid (HW3.out.trans (hb4.mono HW3.out.size)); clear hb4)))
        go_ret2
        exact ⟨rfl, HW4.out⟩
      · have HTOK := Lib.hid htok
        have hie : i = ts.length := by omega
        rw [hie] at HJ
        have hd : decide (i < ts.length) = false := by simp; omega
        have hn3 : ((out.length : Int) != (ts.length : Int)) = true := by
          have : ¬ (out.length : Int) = (ts.length : Int) := by omega
          simpa using this
        have C24 : Hid (∀ W, TI W → Calls Tryz.prog 24 #[.string S] W (TokTo (.ok out) W)) := Lib.hid (fun W hW => by rw [← HTOK.out]; exact H24.out S W hW)
        clear hie him hlt htok hln hmn2
        go_wp2_with (first | (go_at_call 64; ((with_reducible refine (c64P _ HJ.out S HS.out).mono ?_); rintro e w3 ⟨rfl, hj, hs⟩; have HJ3 := Lib.hid hj; have HW3 : Hid (Below w.heap.size w w3) := Lib.hid (HB1.out.trans (hj.bel.mono HB1.out.size)); clear hj hs)) | (go_at_call 24; ((with_reducible refine (C24.out _ (HT.out.below HW3.out)).mono ?_); rintro e w4 ⟨⟨vo, rfl, hvo⟩, hb4⟩; have HW4 := Lib.hid (HW3.out.trans (hb4.mono HW3.out.size)); obtain ⟨ao, co, rfl, hco, hco2⟩ := hvo.shape; clear hvo hb4)))
        go_ret2
        exact ⟨rfl, HW4.out⟩
      · have HTOK := Lib.hid htok
        have hie : i = ts.length := by omega
        rw [hie] at HJ
        have hd : decide (i < ts.length) = false := by simp; omega
        have HLL := Lib.hid hln
        have hn3 : ((out.length : Int) != (ts.length : Int)) = false := by have := HLL.out; simp [this]
        have hn4 : ((ts.length : Int) != (ts.length : Int)) = false := by simp
        have C24 : Hid (∀ W, TI W → Calls Tryz.prog 24 #[.string S] W (TokTo (.ok out) W)) := Lib.hid (fun W hW => by rw [← HTOK.out]; exact H24.out S W hW)
        have HNN := Lib.hid hnn
        have HPOS := Lib.hid hpos
        have HFIN := Lib.hid hfin
        clear hie him hlt htok hln hmn2 hnn hpos hfin
        go_wp2_with (first | (go_at_call 64; ((with_reducible refine (c64P _ HJ.out S HS.out).mono ?_); rintro e w3 ⟨rfl, hj, hs⟩; have HJ3 := Lib.hid hj; have HW3 : Hid (Below w.heap.size w w3) := Lib.hid (HB1.out.trans (hj.bel.mono HB1.out.size)); clear hj hs)) | (go_at_call 24; ((with_reducible refine (C24.out _ (HT.out.below HW3.out)).mono ?_); rintro e w4 ⟨⟨vo, rfl, hvo⟩, hb4⟩; have HJ4 := Lib.hid (HJ3.out.below hb4); have HVO := Lib.hid hvo; obtain ⟨ao, co, rfl, hco, hco2⟩ := hvo.shape; clear hvo hb4)))
        go_loopw [144] (fun s144 wr => ∃ k : Nat, k ≤ n ∧ s144 = .int .i64 (k : Int) ∧ Below w4.heap.size w4 wr) (fun s144 _ => ts.length - (intOf s144).toNat)
        case atStart => exact ⟨0, Nat.zero_le _, rfl, Below.refl _ _⟩
        case round =>
          obtain ⟨k, hk, rfl, hB⟩ := hrel
          have HBL := Lib.hid hB
          have HJk := Lib.hid (HJ4.out.below hB)
          have HWk : Hid (Below w.heap.size w wr) := Lib.hid (HB1.out.trans (HJk.out.bel.mono HB1.out.size))
          clear hB
          by_cases hkt : k < ts.length
          · obtain ⟨y, hy⟩ : ∃ y, ts[k]? = some y := ⟨_, List.getElem?_eq_getElem hkt⟩
            obtain ⟨x, hx⟩ : ∃ x, out[k]? = some x := ⟨_, List.getElem?_eq_getElem (by have := HLL.out; omega)⟩
            obtain ⟨gb, cap, he, hc1, hm1, hgb, hcl⟩ := (HR.out.below HWk.out).cells (by omega)
            injection he with e1 e2 e3
            subst e1 e3
            obtain ⟨dv, hiv, y0, y1, y2, y3, y4, y5, y6, y7⟩ := hcl k y hy
            obtain ⟨ad, cpd, rfl⟩ := row_form hiv
            obtain ⟨g1, cap1, he1, hc11, hm11, hg1, hcl1⟩ := (HVO.out.below HBL.out).cells (by have := HLL.out; omega)
            injection he1 with f1 f2 f3
            subst f1 f3
            obtain ⟨dx, hix, x0, x1, x2, x3, x4, x5, x6, x7⟩ := hcl1 k x hx
            have hdl : x.d.length ≤ 1000000 := tokens_d HTOK.out x (List.mem_of_getElem? hx)
            have CC := Lib.hid (fun X (hX : Below wr.heap.size wr X) => c72 x y dx _ X (hix.below hX) (hiv.below hX) hdl)
            have hway : (k < n ∧ likeF x y = true ∧ x.line = y.line ∧ x.col = y.col) ∨ (b = false ∧ (likeF x y = false ∨ (likeF x y = true ∧ x.line ≠ y.line) ∨ (likeF x y = true ∧ x.line = y.line ∧ x.col ≠ y.col))) := by
              by_cases hkn : k < n
              · exact .inl ⟨hkn, HPOS.out k x y hkn hx hy⟩
              · rcases HFIN.out with ⟨hf, _⟩ | ⟨hf, hbf, hq⟩
                · omega
                · have hkn2 : k = n := by omega
                  subst hkn2
                  refine .inr ⟨hbf, ?_⟩
                  have h3 := hq x y hx hy
                  rcases hlk : likeF x y with _ | _
                  · exact .inl rfl
                  · by_cases h1 : x.line = y.line
                    · by_cases h2 : x.col = y.col
                      · rcases h3 with h3 | h3 | h3
                        · rw [hlk] at h3; cases h3
                        · exact absurd h1 h3
                        · exact absurd h2 h3
                      · exact .inr (.inr ⟨rfl, h1, h2⟩)
                    · exact .inr (.inl ⟨rfl, h1⟩)
            have b0 : (0 : Int) ≤ (k : Int) := by omega
            have b1 : (k : Int) < (ts.length : Int) := by omega
            have b2 : (k : Int) < (out.length : Int) := by have := HLL.out; omega
            obtain ⟨B17, hB17⟩ : ∃ B, wr.heap.size = B := ⟨_, rfl⟩
            have KS : Hid (∀ W, Below (wr.heap.size + 1) (wr.alloc (.cells #[.int .i64 y.k, .string y.s, .bool false, .slice ad y.d.length cpd, .int .i64 (y.at_ : Int), .int .i64 (y.en : Int), .int .i64 y.line, .int .i64 y.col] 41)) W → W.cell? ⟨g1, k * 8, none⟩ = some (.int .i64 x.k) ∧ W.cell? ⟨g1, k * 8 + 1, none⟩ = some (.string x.s) ∧ W.cell? ⟨g1, k * 8 + 2, none⟩ = some (.bool false) ∧ W.cell? ⟨g1, k * 8 + 3, none⟩ = some (dx) ∧ W.cell? ⟨g1, k * 8 + 4, none⟩ = some (.int .i64 (x.at_ : Int)) ∧ W.cell? ⟨g1, k * 8 + 5, none⟩ = some (.int .i64 (x.en : Int)) ∧ W.cell? ⟨g1, k * 8 + 6, none⟩ = some (.int .i64 x.line) ∧ W.cell? ⟨g1, k * 8 + 7, none⟩ = some (.int .i64 x.col) ∧ W.cell? ⟨B17, 0, none⟩ = some (.int .i64 y.k) ∧ W.cell? ⟨B17, 1, none⟩ = some (.string y.s) ∧ W.cell? ⟨B17, 2, none⟩ = some (.bool false) ∧ W.cell? ⟨B17, 3, none⟩ = some (.slice ad y.d.length cpd) ∧ W.cell? ⟨B17, 4, none⟩ = some (.int .i64 (y.at_ : Int)) ∧ W.cell? ⟨B17, 5, none⟩ = some (.int .i64 (y.en : Int)) ∧ W.cell? ⟨B17, 6, none⟩ = some (.int .i64 y.line) ∧ W.cell? ⟨B17, 7, none⟩ = some (.int .i64 y.col)) := Lib.hid (fun W hX => by
              have hbc : ∀ (g o : Nat) (u : Value), g < wr.heap.size → wr.cell? ⟨g, o, none⟩ = some u → W.cell? ⟨g, o, none⟩ = some u := fun g o u hg h => by
                rw [hX.cell (p := ⟨g, o, none⟩) (by show g < wr.heap.size + 1; omega), World.cell?_alloc_lt _ _ _ hg]; exact h
              have hbk : W.heap[wr.heap.size]? = some (.cells #[.int .i64 y.k, .string y.s, .bool false, .slice ad y.d.length cpd, .int .i64 (y.at_ : Int), .int .i64 (y.en : Int), .int .i64 y.line, .int .i64 y.col] 41 (0, 0)) := (hX.block _ (by omega)).trans (blk_new _ _ rfl _)
              have hbn : ∀ j, W.cell? ⟨B17, j, none⟩ = (#[.int .i64 y.k, .string y.s, .bool false, .slice ad y.d.length cpd, .int .i64 (y.at_ : Int), .int .i64 (y.en : Int), .int .i64 y.line, .int .i64 y.col] : Array Value)[j]? := fun j => by rw [← hB17, cell_of_row _ _ _ _ _ _ hbk]
              exact ⟨hbc _ _ _ hg1 x0, hbc _ _ _ hg1 x1, hbc _ _ _ hg1 x2, hbc _ _ _ hg1 x3, hbc _ _ _ hg1 x4, hbc _ _ _ hg1 x5, hbc _ _ _ hg1 x6, hbc _ _ _ hg1 x7, hbn 0, hbn 1, hbn 2, hbn 3, hbn 4, hbn 5, hbn 6, hbn 7⟩)
            have HB0 : Hid (Below (wr.heap.size + 1) (wr.alloc (.cells #[.int .i64 y.k, .string y.s, .bool false, .slice ad y.d.length cpd, .int .i64 (y.at_ : Int), .int .i64 (y.en : Int), .int .i64 y.line, .int .i64 y.col] 41)) (wr.alloc (.cells #[.int .i64 y.k, .string y.s, .bool false, .slice ad y.d.length cpd, .int .i64 (y.at_ : Int), .int .i64 (y.en : Int), .int .i64 y.line, .int .i64 y.col] 41))) := Lib.hid (Below.refl _ _)
            have HA0 : Hid (Below wr.heap.size wr (wr.alloc (.cells #[.int .i64 y.k, .string y.s, .bool false, .slice ad y.d.length cpd, .int .i64 (y.at_ : Int), .int .i64 (y.en : Int), .int .i64 y.line, .int .i64 y.col] 41))) := Lib.hid ((Below.refl _ _).alloc (Nat.le_refl _) _)
            clear hcl hcl1 hiv hix hx hy x0 x1 x2 x3 x4 x5 x6 x7 e2 f2
            have HMS := Lib.hid hkt
            rcases hway with ⟨hkn, hlk, hl, hc⟩ | ⟨rfl, hlk | ⟨hlk, hl⟩ | ⟨hlk, hl, hc⟩⟩
            · have HLK := Lib.hid hlk
              have l1 : (x.line != y.line) = false := by simp [hl]
              have l2 : (x.col != y.col) = false := by simp [hc]
              clear hlk hl hc
              go_wp2
              have HB17 := Lib.hid hB17
              clear hB17
              go_region_held3 (fun W : World => W.cell? ⟨g1, k * 8, none⟩ = some (.int .i64 x.k) ∧ W.cell? ⟨g1, k * 8 + 1, none⟩ = some (.string x.s) ∧ W.cell? ⟨g1, k * 8 + 2, none⟩ = some (.bool false) ∧ W.cell? ⟨g1, k * 8 + 3, none⟩ = some (dx) ∧ W.cell? ⟨g1, k * 8 + 4, none⟩ = some (.int .i64 (x.at_ : Int)) ∧ W.cell? ⟨g1, k * 8 + 5, none⟩ = some (.int .i64 (x.en : Int)) ∧ W.cell? ⟨g1, k * 8 + 6, none⟩ = some (.int .i64 x.line) ∧ W.cell? ⟨g1, k * 8 + 7, none⟩ = some (.int .i64 x.col) ∧ W.cell? ⟨B17, 0, none⟩ = some (.int .i64 y.k) ∧ W.cell? ⟨B17, 1, none⟩ = some (.string y.s) ∧ W.cell? ⟨B17, 2, none⟩ = some (.bool false) ∧ W.cell? ⟨B17, 3, none⟩ = some (.slice ad y.d.length cpd) ∧ W.cell? ⟨B17, 4, none⟩ = some (.int .i64 (y.at_ : Int)) ∧ W.cell? ⟨B17, 5, none⟩ = some (.int .i64 (y.en : Int)) ∧ W.cell? ⟨B17, 6, none⟩ = some (.int .i64 y.line) ∧ W.cell? ⟨B17, 7, none⟩ = some (.int .i64 y.col)) (first | exact KS.out _ HB0.out | exact KS.out _ HB0.out.drew)
                ((go_at_call 72; ((with_reducible refine (CC.out _ (by first | exact HA0.out.trans (HB0.out.mono (by omega)) | exact HA0.out.trans (HB0.out.drew.mono (by omega)))).mono ?_); rintro e w6 ⟨rfl, hbb⟩; rw [HLK.out]; replace HB0 : Hid (Below (wr.heap.size + 1) (wr.alloc (.cells #[.int .i64 y.k, .string y.s, .bool false, .slice ad y.d.length cpd, .int .i64 (y.at_ : Int), .int .i64 (y.en : Int), .int .i64 y.line, .int .i64 y.col] 41)) w6) := Lib.hid (by first | exact HB0.out.trans (hbb.mono (by have := HB0.out.size; simp at this ⊢ <;> omega)) | exact HB0.out.drew.trans (hbb.mono (by have := HB0.out.size; simp at this ⊢ <;> omega))); clear hbb)))
              all_goals
                go_wp2
                go_roundw
                case rel => exact ⟨k + 1, by omega, by go_num, HBL.out.trans ((HA0.out.trans (HB0.out.mono (by omega))).mono HBL.out.size)⟩
                case measure => have := HMS.out; simp [intOf]; omega
            · have HLK := Lib.hid hlk
              clear hlk
              go_wp2
              have HB17 := Lib.hid hB17
              clear hB17
              refine wp_region_held_drew (S := (fun W : World => W.cell? ⟨g1, k * 8, none⟩ = some (.int .i64 x.k) ∧ W.cell? ⟨g1, k * 8 + 1, none⟩ = some (.string x.s) ∧ W.cell? ⟨g1, k * 8 + 2, none⟩ = some (.bool false) ∧ W.cell? ⟨g1, k * 8 + 3, none⟩ = some (dx) ∧ W.cell? ⟨g1, k * 8 + 4, none⟩ = some (.int .i64 (x.at_ : Int)) ∧ W.cell? ⟨g1, k * 8 + 5, none⟩ = some (.int .i64 (x.en : Int)) ∧ W.cell? ⟨g1, k * 8 + 6, none⟩ = some (.int .i64 x.line) ∧ W.cell? ⟨g1, k * 8 + 7, none⟩ = some (.int .i64 x.col) ∧ W.cell? ⟨B17, 0, none⟩ = some (.int .i64 y.k) ∧ W.cell? ⟨B17, 1, none⟩ = some (.string y.s) ∧ W.cell? ⟨B17, 2, none⟩ = some (.bool false) ∧ W.cell? ⟨B17, 3, none⟩ = some (.slice ad y.d.length cpd) ∧ W.cell? ⟨B17, 4, none⟩ = some (.int .i64 (y.at_ : Int)) ∧ W.cell? ⟨B17, 5, none⟩ = some (.int .i64 (y.en : Int)) ∧ W.cell? ⟨B17, 6, none⟩ = some (.int .i64 y.line) ∧ W.cell? ⟨B17, 7, none⟩ = some (.int .i64 y.col))) (by kernel_rfl) (KS.out _ HB0.out.drew) (fun hS => ?_)
              refine takeD (i := 0) (d := 149) (v := _) rfl (by rfl) (by kernel_rfl) (by kernel_rfl) (by kernel_rfl) (fun _ _ _ h => h) (Or.inl ⟨by rfl, by (intro w hSw; obtain ⟨q0, q1, q2, q3, q4, q5, q6, q7, q8, q9, q10, q11, q12, q13, q14, q15⟩ := hSw; go_simp; try with_reducible rfl)⟩) hS ?_
              simp only [List.setIfInBounds_toArray, List.set_cons_zero, List.set_cons_succ]
              refine takeD (i := 1) (d := 150) (v := _) rfl (by rfl) (by kernel_rfl) (by kernel_rfl) (by kernel_rfl) (fun _ _ _ h => h) (Or.inl ⟨by rfl, by (intro w hSw; obtain ⟨q0, q1, q2, q3, q4, q5, q6, q7, q8, q9, q10, q11, q12, q13, q14, q15⟩ := hSw; go_simp; try with_reducible rfl)⟩) hS ?_
              simp only [List.setIfInBounds_toArray, List.set_cons_zero, List.set_cons_succ]
              refine takeD (i := 2) (d := 151) (v := _) rfl (by rfl) (by kernel_rfl) (by kernel_rfl) (by kernel_rfl) (fun _ _ _ h => h) (Or.inl ⟨by rfl, by (intro w hSw; obtain ⟨q0, q1, q2, q3, q4, q5, q6, q7, q8, q9, q10, q11, q12, q13, q14, q15⟩ := hSw; go_simp; try with_reducible rfl)⟩) hS ?_
              simp only [List.setIfInBounds_toArray, List.set_cons_zero, List.set_cons_succ]
              refine takeD (i := 3) (d := 152) (v := _) rfl (by rfl) (by kernel_rfl) (by kernel_rfl) (by kernel_rfl) (fun _ _ _ h => h) (Or.inl ⟨by rfl, by (intro w hSw; obtain ⟨q0, q1, q2, q3, q4, q5, q6, q7, q8, q9, q10, q11, q12, q13, q14, q15⟩ := hSw; go_simp; try with_reducible rfl)⟩) hS ?_
              simp only [List.setIfInBounds_toArray, List.set_cons_zero, List.set_cons_succ]
              refine takeD (i := 4) (d := 153) (v := _) rfl (by rfl) (by kernel_rfl) (by kernel_rfl) (by kernel_rfl) (fun _ _ _ h => h) (Or.inl ⟨by rfl, by (intro w hSw; obtain ⟨q0, q1, q2, q3, q4, q5, q6, q7, q8, q9, q10, q11, q12, q13, q14, q15⟩ := hSw; go_simp; try with_reducible rfl)⟩) hS ?_
              simp only [List.setIfInBounds_toArray, List.set_cons_zero, List.set_cons_succ]
              refine wpAnyH_ready (rs := [5]) (by kernel_rfl) (by simp) (AllReadyH.cons rfl (fun K hK => ?_) AllReadyH.nil)
              go_simp
              (go_at_call 72; ((with_reducible refine (CC.out _ (by first | exact HA0.out.trans (HB0.out.mono (by omega)) | exact HA0.out.trans (HB0.out.drew.mono (by omega)))).mono ?_); rintro e w6 ⟨rfl, hbb⟩; rw [HLK.out]; replace HB0 : Hid (Below (wr.heap.size + 1) (wr.alloc (.cells #[.int .i64 y.k, .string y.s, .bool false, .slice ad y.d.length cpd, .int .i64 (y.at_ : Int), .int .i64 (y.en : Int), .int .i64 y.line, .int .i64 y.col] 41)) w6) := Lib.hid (by first | exact HB0.out.trans (hbb.mono (by have := HB0.out.size; simp at this ⊢ <;> omega)) | exact HB0.out.drew.trans (hbb.mono (by have := HB0.out.size; simp at this ⊢ <;> omega))); clear hbb))
              refine hK.out _ _ (KS.out _ HB0.out) (fun hS => ?_)
              clear hK K
              try simp only [Act.put, List.setIfInBounds_toArray, List.set_cons_zero, List.set_cons_succ]
              refine takeD (i := 6) (d := 155) (v := _) rfl (by rfl) (by kernel_rfl) (by kernel_rfl) (by kernel_rfl) (fun _ _ _ h => h) (Or.inl ⟨by rfl, by (intro w hSw; obtain ⟨q0, q1, q2, q3, q4, q5, q6, q7, q8, q9, q10, q11, q12, q13, q14, q15⟩ := hSw; go_simp; try with_reducible rfl)⟩) hS ?_
              simp only [List.setIfInBounds_toArray, List.set_cons_zero, List.set_cons_succ]
              refine takeD (i := 7) (d := 156) (v := _) rfl (by rfl) (by kernel_rfl) (by kernel_rfl) (by kernel_rfl) (fun _ _ _ h => h) (Or.inl ⟨by rfl, by (intro w hSw; obtain ⟨q0, q1, q2, q3, q4, q5, q6, q7, q8, q9, q10, q11, q12, q13, q14, q15⟩ := hSw; go_simp; try with_reducible rfl)⟩) hS ?_
              simp only [List.setIfInBounds_toArray, List.set_cons_zero, List.set_cons_succ]
              refine takeD (i := 8) (d := 157) (v := undef) rfl (by rfl) (by kernel_rfl) (by kernel_rfl) (by kernel_rfl) (fun _ _ _ h => h) (Or.inr ⟨by rfl, rfl⟩) hS ?_
              simp only [List.setIfInBounds_toArray, List.set_cons_zero, List.set_cons_succ]
              refine takeD (i := 9) (d := 158) (v := undef) rfl (by rfl) (by kernel_rfl) (by kernel_rfl) (by kernel_rfl) (fun _ _ _ h => h) (Or.inr ⟨by rfl, rfl⟩) hS ?_
              simp only [List.setIfInBounds_toArray, List.set_cons_zero, List.set_cons_succ]
              refine takeD (i := 10) (d := 159) (v := undef) rfl (by rfl) (by kernel_rfl) (by kernel_rfl) (by kernel_rfl) (fun _ _ _ h => h) (Or.inr ⟨by rfl, rfl⟩) hS ?_
              simp only [List.setIfInBounds_toArray, List.set_cons_zero, List.set_cons_succ]
              refine takeD (i := 11) (d := 160) (v := undef) rfl (by rfl) (by kernel_rfl) (by kernel_rfl) (by kernel_rfl) (fun _ _ _ h => h) (Or.inr ⟨by rfl, rfl⟩) hS ?_
              simp only [List.setIfInBounds_toArray, List.set_cons_zero, List.set_cons_succ]
              refine takeD (i := 12) (d := 161) (v := undef) rfl (by rfl) (by kernel_rfl) (by kernel_rfl) (by kernel_rfl) (fun _ _ _ h => h) (Or.inr ⟨by rfl, rfl⟩) hS ?_
              simp only [List.setIfInBounds_toArray, List.set_cons_zero, List.set_cons_succ]
              refine takeD (i := 13) (d := 162) (v := undef) rfl (by rfl) (by kernel_rfl) (by kernel_rfl) (by kernel_rfl) (fun _ _ _ h => h) (Or.inr ⟨by rfl, rfl⟩) hS ?_
              simp only [List.setIfInBounds_toArray, List.set_cons_zero, List.set_cons_succ]
              refine takeD (i := 14) (d := 163) (v := undef) rfl (by rfl) (by kernel_rfl) (by kernel_rfl) (by kernel_rfl) (fun _ _ _ h => h) (Or.inr ⟨by rfl, rfl⟩) hS ?_
              simp only [List.setIfInBounds_toArray, List.set_cons_zero, List.set_cons_succ]
              refine takeD (i := 15) (d := 164) (v := undef) rfl (by rfl) (by kernel_rfl) (by kernel_rfl) (by kernel_rfl) (fun _ _ _ h => h) (Or.inr ⟨by rfl, rfl⟩) hS ?_
              simp only [List.setIfInBounds_toArray, List.set_cons_zero, List.set_cons_succ]
              refine takeD (i := 16) (d := 165) (v := _) rfl (by rfl) (by kernel_rfl) (by kernel_rfl) (by kernel_rfl) (fun _ _ _ h => h) (Or.inl ⟨by rfl, by (intro w hSw; obtain ⟨q0, q1, q2, q3, q4, q5, q6, q7, q8, q9, q10, q11, q12, q13, q14, q15⟩ := hSw; go_simp; try with_reducible rfl)⟩) hS ?_
              simp only [List.setIfInBounds_toArray, List.set_cons_zero, List.set_cons_succ]
              refine takeD (i := 17) (d := 166) (v := _) rfl (by rfl) (by kernel_rfl) (by kernel_rfl) (by kernel_rfl) (fun _ _ _ h => h) (Or.inl ⟨by rfl, by (intro w hSw; obtain ⟨q0, q1, q2, q3, q4, q5, q6, q7, q8, q9, q10, q11, q12, q13, q14, q15⟩ := hSw; go_simp; try with_reducible rfl)⟩) hS ?_
              simp only [List.setIfInBounds_toArray, List.set_cons_zero, List.set_cons_succ]
              refine takeD (i := 18) (d := 167) (v := undef) rfl (by rfl) (by kernel_rfl) (by kernel_rfl) (by kernel_rfl) (fun _ _ _ h => h) (Or.inr ⟨by rfl, rfl⟩) hS ?_
              simp only [List.setIfInBounds_toArray, List.set_cons_zero, List.set_cons_succ]
              refine takeD (i := 19) (d := 168) (v := undef) rfl (by rfl) (by kernel_rfl) (by kernel_rfl) (by kernel_rfl) (fun _ _ _ h => h) (Or.inr ⟨by rfl, rfl⟩) hS ?_
              simp only [List.setIfInBounds_toArray, List.set_cons_zero, List.set_cons_succ]
              refine takeD (i := 20) (d := 169) (v := undef) rfl (by rfl) (by kernel_rfl) (by kernel_rfl) (by kernel_rfl) (fun _ _ _ h => h) (Or.inr ⟨by rfl, rfl⟩) hS ?_
              simp only [List.setIfInBounds_toArray, List.set_cons_zero, List.set_cons_succ]
              refine takeD (i := 21) (d := 170) (v := undef) rfl (by rfl) (by kernel_rfl) (by kernel_rfl) (by kernel_rfl) (fun _ _ _ h => h) (Or.inr ⟨by rfl, rfl⟩) hS ?_
              simp only [List.setIfInBounds_toArray, List.set_cons_zero, List.set_cons_succ]
              refine takeD (i := 22) (d := 171) (v := undef) rfl (by rfl) (by kernel_rfl) (by kernel_rfl) (by kernel_rfl) (fun _ _ _ h => h) (Or.inr ⟨by rfl, rfl⟩) hS ?_
              simp only [List.setIfInBounds_toArray, List.set_cons_zero, List.set_cons_succ]
              refine takeD (i := 23) (d := 172) (v := undef) rfl (by rfl) (by kernel_rfl) (by kernel_rfl) (by kernel_rfl) (fun _ _ _ h => h) (Or.inr ⟨by rfl, rfl⟩) hS ?_
              simp only [List.setIfInBounds_toArray, List.set_cons_zero, List.set_cons_succ]
              refine takeD (i := 24) (d := 173) (v := undef) rfl (by rfl) (by kernel_rfl) (by kernel_rfl) (by kernel_rfl) (fun _ _ _ h => h) (Or.inr ⟨by rfl, rfl⟩) hS ?_
              simp only [List.setIfInBounds_toArray, List.set_cons_zero, List.set_cons_succ]
              refine takeD (i := 25) (d := 174) (v := undef) rfl (by rfl) (by kernel_rfl) (by kernel_rfl) (by kernel_rfl) (fun _ _ _ h => h) (Or.inr ⟨by rfl, rfl⟩) hS ?_
              simp only [List.setIfInBounds_toArray, List.set_cons_zero, List.set_cons_succ]
              refine takeD (i := 26) (d := 175) (v := _) rfl (by rfl) (by kernel_rfl) (by kernel_rfl) (by kernel_rfl) (fun _ _ _ h => h) (Or.inl ⟨by rfl, by (intro w hSw; obtain ⟨q0, q1, q2, q3, q4, q5, q6, q7, q8, q9, q10, q11, q12, q13, q14, q15⟩ := hSw; go_simp; try with_reducible rfl)⟩) hS ?_
              simp only [List.setIfInBounds_toArray, List.set_cons_zero, List.set_cons_succ]
              refine wpAnyH_done (by kernel_rfl) ?_ _
              go_wp2
              go_ret2
              exact ⟨rfl, HWk.out.trans ((HA0.out.trans (HB0.out.mono (by omega))).mono HWk.out.size)⟩
            · have HLK := Lib.hid hlk
              have l1 : (x.line != y.line) = true := by simpa using hl
              clear hlk hl
              go_wp2
              have HB17 := Lib.hid hB17
              clear hB17
              refine wp_region_held_drew (S := (fun W : World => W.cell? ⟨g1, k * 8, none⟩ = some (.int .i64 x.k) ∧ W.cell? ⟨g1, k * 8 + 1, none⟩ = some (.string x.s) ∧ W.cell? ⟨g1, k * 8 + 2, none⟩ = some (.bool false) ∧ W.cell? ⟨g1, k * 8 + 3, none⟩ = some (dx) ∧ W.cell? ⟨g1, k * 8 + 4, none⟩ = some (.int .i64 (x.at_ : Int)) ∧ W.cell? ⟨g1, k * 8 + 5, none⟩ = some (.int .i64 (x.en : Int)) ∧ W.cell? ⟨g1, k * 8 + 6, none⟩ = some (.int .i64 x.line) ∧ W.cell? ⟨g1, k * 8 + 7, none⟩ = some (.int .i64 x.col) ∧ W.cell? ⟨B17, 0, none⟩ = some (.int .i64 y.k) ∧ W.cell? ⟨B17, 1, none⟩ = some (.string y.s) ∧ W.cell? ⟨B17, 2, none⟩ = some (.bool false) ∧ W.cell? ⟨B17, 3, none⟩ = some (.slice ad y.d.length cpd) ∧ W.cell? ⟨B17, 4, none⟩ = some (.int .i64 (y.at_ : Int)) ∧ W.cell? ⟨B17, 5, none⟩ = some (.int .i64 (y.en : Int)) ∧ W.cell? ⟨B17, 6, none⟩ = some (.int .i64 y.line) ∧ W.cell? ⟨B17, 7, none⟩ = some (.int .i64 y.col))) (by kernel_rfl) (KS.out _ HB0.out.drew) (fun hS => ?_)
              refine takeD (i := 0) (d := 149) (v := _) rfl (by rfl) (by kernel_rfl) (by kernel_rfl) (by kernel_rfl) (fun _ _ _ h => h) (Or.inl ⟨by rfl, by (intro w hSw; obtain ⟨q0, q1, q2, q3, q4, q5, q6, q7, q8, q9, q10, q11, q12, q13, q14, q15⟩ := hSw; go_simp; try with_reducible rfl)⟩) hS ?_
              simp only [List.setIfInBounds_toArray, List.set_cons_zero, List.set_cons_succ]
              refine takeD (i := 1) (d := 150) (v := _) rfl (by rfl) (by kernel_rfl) (by kernel_rfl) (by kernel_rfl) (fun _ _ _ h => h) (Or.inl ⟨by rfl, by (intro w hSw; obtain ⟨q0, q1, q2, q3, q4, q5, q6, q7, q8, q9, q10, q11, q12, q13, q14, q15⟩ := hSw; go_simp; try with_reducible rfl)⟩) hS ?_
              simp only [List.setIfInBounds_toArray, List.set_cons_zero, List.set_cons_succ]
              refine takeD (i := 2) (d := 151) (v := _) rfl (by rfl) (by kernel_rfl) (by kernel_rfl) (by kernel_rfl) (fun _ _ _ h => h) (Or.inl ⟨by rfl, by (intro w hSw; obtain ⟨q0, q1, q2, q3, q4, q5, q6, q7, q8, q9, q10, q11, q12, q13, q14, q15⟩ := hSw; go_simp; try with_reducible rfl)⟩) hS ?_
              simp only [List.setIfInBounds_toArray, List.set_cons_zero, List.set_cons_succ]
              refine takeD (i := 3) (d := 152) (v := _) rfl (by rfl) (by kernel_rfl) (by kernel_rfl) (by kernel_rfl) (fun _ _ _ h => h) (Or.inl ⟨by rfl, by (intro w hSw; obtain ⟨q0, q1, q2, q3, q4, q5, q6, q7, q8, q9, q10, q11, q12, q13, q14, q15⟩ := hSw; go_simp; try with_reducible rfl)⟩) hS ?_
              simp only [List.setIfInBounds_toArray, List.set_cons_zero, List.set_cons_succ]
              refine takeD (i := 4) (d := 153) (v := _) rfl (by rfl) (by kernel_rfl) (by kernel_rfl) (by kernel_rfl) (fun _ _ _ h => h) (Or.inl ⟨by rfl, by (intro w hSw; obtain ⟨q0, q1, q2, q3, q4, q5, q6, q7, q8, q9, q10, q11, q12, q13, q14, q15⟩ := hSw; go_simp; try with_reducible rfl)⟩) hS ?_
              simp only [List.setIfInBounds_toArray, List.set_cons_zero, List.set_cons_succ]
              refine wpAnyH_ready (rs := [5]) (by kernel_rfl) (by simp) (AllReadyH.cons rfl (fun K hK => ?_) AllReadyH.nil)
              go_simp
              (go_at_call 72; ((with_reducible refine (CC.out _ (by first | exact HA0.out.trans (HB0.out.mono (by omega)) | exact HA0.out.trans (HB0.out.drew.mono (by omega)))).mono ?_); rintro e w6 ⟨rfl, hbb⟩; rw [HLK.out]; replace HB0 : Hid (Below (wr.heap.size + 1) (wr.alloc (.cells #[.int .i64 y.k, .string y.s, .bool false, .slice ad y.d.length cpd, .int .i64 (y.at_ : Int), .int .i64 (y.en : Int), .int .i64 y.line, .int .i64 y.col] 41)) w6) := Lib.hid (by first | exact HB0.out.trans (hbb.mono (by have := HB0.out.size; simp at this ⊢ <;> omega)) | exact HB0.out.drew.trans (hbb.mono (by have := HB0.out.size; simp at this ⊢ <;> omega))); clear hbb))
              refine hK.out _ _ (KS.out _ HB0.out) (fun hS => ?_)
              clear hK K
              try simp only [Act.put, List.setIfInBounds_toArray, List.set_cons_zero, List.set_cons_succ]
              refine takeD (i := 6) (d := 155) (v := _) rfl (by rfl) (by kernel_rfl) (by kernel_rfl) (by kernel_rfl) (fun _ _ _ h => h) (Or.inl ⟨by rfl, by (intro w hSw; obtain ⟨q0, q1, q2, q3, q4, q5, q6, q7, q8, q9, q10, q11, q12, q13, q14, q15⟩ := hSw; go_simp; try with_reducible rfl)⟩) hS ?_
              simp only [List.setIfInBounds_toArray, List.set_cons_zero, List.set_cons_succ]
              refine takeD (i := 7) (d := 156) (v := _) rfl (by rfl) (by kernel_rfl) (by kernel_rfl) (by kernel_rfl) (fun _ _ _ h => h) (Or.inl ⟨by rfl, by (intro w hSw; obtain ⟨q0, q1, q2, q3, q4, q5, q6, q7, q8, q9, q10, q11, q12, q13, q14, q15⟩ := hSw; go_simp; try with_reducible rfl)⟩) hS ?_
              simp only [List.setIfInBounds_toArray, List.set_cons_zero, List.set_cons_succ]
              refine takeD (i := 8) (d := 157) (v := _) rfl (by rfl) (by kernel_rfl) (by kernel_rfl) (by kernel_rfl) (fun _ _ _ h => h) (Or.inl ⟨by rfl, by (intro w hSw; obtain ⟨q0, q1, q2, q3, q4, q5, q6, q7, q8, q9, q10, q11, q12, q13, q14, q15⟩ := hSw; go_simp; try with_reducible rfl)⟩) hS ?_
              simp only [List.setIfInBounds_toArray, List.set_cons_zero, List.set_cons_succ]
              refine takeD (i := 9) (d := 158) (v := _) rfl (by rfl) (by kernel_rfl) (by kernel_rfl) (by kernel_rfl) (fun _ _ _ h => h) (Or.inl ⟨by rfl, by (intro w hSw; obtain ⟨q0, q1, q2, q3, q4, q5, q6, q7, q8, q9, q10, q11, q12, q13, q14, q15⟩ := hSw; go_simp; try with_reducible rfl)⟩) hS ?_
              simp only [List.setIfInBounds_toArray, List.set_cons_zero, List.set_cons_succ]
              refine takeD (i := 10) (d := 159) (v := _) rfl (by rfl) (by kernel_rfl) (by kernel_rfl) (by kernel_rfl) (fun _ _ _ h => h) (Or.inl ⟨by rfl, by (intro w hSw; obtain ⟨q0, q1, q2, q3, q4, q5, q6, q7, q8, q9, q10, q11, q12, q13, q14, q15⟩ := hSw; go_simp; try with_reducible rfl)⟩) hS ?_
              simp only [List.setIfInBounds_toArray, List.set_cons_zero, List.set_cons_succ]
              refine takeD (i := 11) (d := 160) (v := _) rfl (by rfl) (by kernel_rfl) (by kernel_rfl) (by kernel_rfl) (fun _ _ _ h => h) (Or.inl ⟨by rfl, by (intro w hSw; obtain ⟨q0, q1, q2, q3, q4, q5, q6, q7, q8, q9, q10, q11, q12, q13, q14, q15⟩ := hSw; go_simp; try with_reducible rfl)⟩) hS ?_
              simp only [List.setIfInBounds_toArray, List.set_cons_zero, List.set_cons_succ]
              refine takeD (i := 12) (d := 161) (v := _) rfl (by rfl) (by kernel_rfl) (by kernel_rfl) (by kernel_rfl) (fun _ _ _ h => h) (Or.inl ⟨by rfl, by (intro w hSw; obtain ⟨q0, q1, q2, q3, q4, q5, q6, q7, q8, q9, q10, q11, q12, q13, q14, q15⟩ := hSw; go_simp; try with_reducible rfl)⟩) hS ?_
              simp only [List.setIfInBounds_toArray, List.set_cons_zero, List.set_cons_succ]
              refine takeD (i := 13) (d := 162) (v := _) rfl (by rfl) (by kernel_rfl) (by kernel_rfl) (by kernel_rfl) (fun _ _ _ h => h) (Or.inl ⟨by rfl, by (intro w hSw; obtain ⟨q0, q1, q2, q3, q4, q5, q6, q7, q8, q9, q10, q11, q12, q13, q14, q15⟩ := hSw; go_simp; try with_reducible rfl)⟩) hS ?_
              simp only [List.setIfInBounds_toArray, List.set_cons_zero, List.set_cons_succ]
              refine takeD (i := 14) (d := 163) (v := _) rfl (by rfl) (by kernel_rfl) (by kernel_rfl) (by kernel_rfl) (fun _ _ _ h => h) (Or.inl ⟨by rfl, by (intro w hSw; obtain ⟨q0, q1, q2, q3, q4, q5, q6, q7, q8, q9, q10, q11, q12, q13, q14, q15⟩ := hSw; go_simp; try with_reducible rfl)⟩) hS ?_
              simp only [List.setIfInBounds_toArray, List.set_cons_zero, List.set_cons_succ]
              refine takeD (i := 15) (d := 164) (v := _) rfl (by rfl) (by kernel_rfl) (by kernel_rfl) (by kernel_rfl) (fun _ _ _ h => h) (Or.inl ⟨by rfl, by (intro w hSw; obtain ⟨q0, q1, q2, q3, q4, q5, q6, q7, q8, q9, q10, q11, q12, q13, q14, q15⟩ := hSw; go_simp; try with_reducible rfl)⟩) hS ?_
              simp only [List.setIfInBounds_toArray, List.set_cons_zero, List.set_cons_succ]
              refine takeD (i := 16) (d := 165) (v := _) rfl (by rfl) (by kernel_rfl) (by kernel_rfl) (by kernel_rfl) (fun _ _ _ h => h) (Or.inl ⟨by rfl, by (intro w hSw; obtain ⟨q0, q1, q2, q3, q4, q5, q6, q7, q8, q9, q10, q11, q12, q13, q14, q15⟩ := hSw; go_simp; try with_reducible rfl)⟩) hS ?_
              simp only [List.setIfInBounds_toArray, List.set_cons_zero, List.set_cons_succ]
              refine takeD (i := 17) (d := 166) (v := _) rfl (by rfl) (by kernel_rfl) (by kernel_rfl) (by kernel_rfl) (fun _ _ _ h => h) (Or.inl ⟨by rfl, by (intro w hSw; obtain ⟨q0, q1, q2, q3, q4, q5, q6, q7, q8, q9, q10, q11, q12, q13, q14, q15⟩ := hSw; go_simp; try with_reducible rfl)⟩) hS ?_
              simp only [List.setIfInBounds_toArray, List.set_cons_zero, List.set_cons_succ]
              refine takeD (i := 18) (d := 167) (v := undef) rfl (by rfl) (by kernel_rfl) (by kernel_rfl) (by kernel_rfl) (fun _ _ _ h => h) (Or.inr ⟨by rfl, rfl⟩) hS ?_
              simp only [List.setIfInBounds_toArray, List.set_cons_zero, List.set_cons_succ]
              refine takeD (i := 19) (d := 168) (v := undef) rfl (by rfl) (by kernel_rfl) (by kernel_rfl) (by kernel_rfl) (fun _ _ _ h => h) (Or.inr ⟨by rfl, rfl⟩) hS ?_
              simp only [List.setIfInBounds_toArray, List.set_cons_zero, List.set_cons_succ]
              refine takeD (i := 20) (d := 169) (v := undef) rfl (by rfl) (by kernel_rfl) (by kernel_rfl) (by kernel_rfl) (fun _ _ _ h => h) (Or.inr ⟨by rfl, rfl⟩) hS ?_
              simp only [List.setIfInBounds_toArray, List.set_cons_zero, List.set_cons_succ]
              refine takeD (i := 21) (d := 170) (v := undef) rfl (by rfl) (by kernel_rfl) (by kernel_rfl) (by kernel_rfl) (fun _ _ _ h => h) (Or.inr ⟨by rfl, rfl⟩) hS ?_
              simp only [List.setIfInBounds_toArray, List.set_cons_zero, List.set_cons_succ]
              refine takeD (i := 22) (d := 171) (v := undef) rfl (by rfl) (by kernel_rfl) (by kernel_rfl) (by kernel_rfl) (fun _ _ _ h => h) (Or.inr ⟨by rfl, rfl⟩) hS ?_
              simp only [List.setIfInBounds_toArray, List.set_cons_zero, List.set_cons_succ]
              refine takeD (i := 23) (d := 172) (v := undef) rfl (by rfl) (by kernel_rfl) (by kernel_rfl) (by kernel_rfl) (fun _ _ _ h => h) (Or.inr ⟨by rfl, rfl⟩) hS ?_
              simp only [List.setIfInBounds_toArray, List.set_cons_zero, List.set_cons_succ]
              refine takeD (i := 24) (d := 173) (v := undef) rfl (by rfl) (by kernel_rfl) (by kernel_rfl) (by kernel_rfl) (fun _ _ _ h => h) (Or.inr ⟨by rfl, rfl⟩) hS ?_
              simp only [List.setIfInBounds_toArray, List.set_cons_zero, List.set_cons_succ]
              refine takeD (i := 25) (d := 174) (v := undef) rfl (by rfl) (by kernel_rfl) (by kernel_rfl) (by kernel_rfl) (fun _ _ _ h => h) (Or.inr ⟨by rfl, rfl⟩) hS ?_
              simp only [List.setIfInBounds_toArray, List.set_cons_zero, List.set_cons_succ]
              refine takeD (i := 26) (d := 175) (v := _) rfl (by rfl) (by kernel_rfl) (by kernel_rfl) (by kernel_rfl) (fun _ _ _ h => h) (Or.inl ⟨by rfl, by (intro w hSw; obtain ⟨q0, q1, q2, q3, q4, q5, q6, q7, q8, q9, q10, q11, q12, q13, q14, q15⟩ := hSw; go_simp; try with_reducible rfl)⟩) hS ?_
              simp only [List.setIfInBounds_toArray, List.set_cons_zero, List.set_cons_succ]
              refine wpAnyH_done (by kernel_rfl) ?_ _
              go_wp2
              go_ret2
              exact ⟨rfl, HWk.out.trans ((HA0.out.trans (HB0.out.mono (by omega))).mono HWk.out.size)⟩
            · have HLK := Lib.hid hlk
              have l1 : (x.line != y.line) = false := by simp [hl]
              have l2 : (x.col != y.col) = true := by simpa using hc
              clear hlk hl hc
              go_wp2
              have HB17 := Lib.hid hB17
              clear hB17
              go_region_held3 (fun W : World => W.cell? ⟨g1, k * 8, none⟩ = some (.int .i64 x.k) ∧ W.cell? ⟨g1, k * 8 + 1, none⟩ = some (.string x.s) ∧ W.cell? ⟨g1, k * 8 + 2, none⟩ = some (.bool false) ∧ W.cell? ⟨g1, k * 8 + 3, none⟩ = some (dx) ∧ W.cell? ⟨g1, k * 8 + 4, none⟩ = some (.int .i64 (x.at_ : Int)) ∧ W.cell? ⟨g1, k * 8 + 5, none⟩ = some (.int .i64 (x.en : Int)) ∧ W.cell? ⟨g1, k * 8 + 6, none⟩ = some (.int .i64 x.line) ∧ W.cell? ⟨g1, k * 8 + 7, none⟩ = some (.int .i64 x.col) ∧ W.cell? ⟨B17, 0, none⟩ = some (.int .i64 y.k) ∧ W.cell? ⟨B17, 1, none⟩ = some (.string y.s) ∧ W.cell? ⟨B17, 2, none⟩ = some (.bool false) ∧ W.cell? ⟨B17, 3, none⟩ = some (.slice ad y.d.length cpd) ∧ W.cell? ⟨B17, 4, none⟩ = some (.int .i64 (y.at_ : Int)) ∧ W.cell? ⟨B17, 5, none⟩ = some (.int .i64 (y.en : Int)) ∧ W.cell? ⟨B17, 6, none⟩ = some (.int .i64 y.line) ∧ W.cell? ⟨B17, 7, none⟩ = some (.int .i64 y.col)) (first | exact KS.out _ HB0.out | exact KS.out _ HB0.out.drew)
                ((go_at_call 72; ((with_reducible refine (CC.out _ (by first | exact HA0.out.trans (HB0.out.mono (by omega)) | exact HA0.out.trans (HB0.out.drew.mono (by omega)))).mono ?_); rintro e w6 ⟨rfl, hbb⟩; rw [HLK.out]; replace HB0 : Hid (Below (wr.heap.size + 1) (wr.alloc (.cells #[.int .i64 y.k, .string y.s, .bool false, .slice ad y.d.length cpd, .int .i64 (y.at_ : Int), .int .i64 (y.en : Int), .int .i64 y.line, .int .i64 y.col] 41)) w6) := Lib.hid (by first | exact HB0.out.trans (hbb.mono (by have := HB0.out.size; simp at this ⊢ <;> omega)) | exact HB0.out.drew.trans (hbb.mono (by have := HB0.out.size; simp at this ⊢ <;> omega))); clear hbb)))
              all_goals
                go_wp2
                go_ret2
                exact ⟨rfl, HWk.out.trans ((HA0.out.trans (HB0.out.mono (by omega))).mono HWk.out.size)⟩
          · obtain rfl : b = true := by rcases HFIN.out with ⟨_, h⟩ | ⟨h, _⟩; exact h; exact absurd h (by omega)
            have hkl : k = ts.length := by have := HNN.out; omega
            have hdk : decide (k < ts.length) = false := by simpa using hkt
            go_wp2_with (go_at_call 64; ((with_reducible refine (c64P _ HJk.out S HS.out).mono ?_); rintro e w5 ⟨rfl, hj, hs⟩; have HJ5 := Lib.hid hj; clear hj hs))
            go_ret2
            exact ⟨rfl, HB1.out.trans (HJ5.out.bel.mono HB1.out.size)⟩
end Go.Proofs.YtagcfgoofiibfaaGreatDoor
set_option linter.unusedVariables false
namespace Go.Proofs.YtagcfgoofiibfaaGreatDoor
open Go Go.RowKit

/-- whether a token is spelled otherwise in the text -/
def missF (s : ByteArray) (x : Tk) : Bool := !((s.extract x.at_ x.en).toList == (spellF x).toList)

set_option maxRecDepth 100000 in
set_option maxHeartbeats 3200000 in
theorem c74 (s : ByteArray) (x : Tk) (dv : Value) (b : Nat) (w : World) (hx : ValidT x) (hi : IntsAt w dv x.d) (hT : TI w) (hP : TP w) (hb : w.cell? ⟨b, 0, none⟩ = some (.string s)) (h1 : x.at_ ≤ x.en) (h2 : x.en ≤ s.size) (h3 : s.size ≤ 3000) :
    Calls Tryz.prog 74 #[tokV x dv, .pointer (some ⟨b, 0, none⟩)] w fun e w' => e = .returned (.bool (missF s x)) ∧ Below w.heap.size w w' := by
  obtain ⟨a, cp, rfl⟩ := row_form hi
  have C37 : Hid (∀ X, Below w.heap.size w X → Calls Tryz.prog 37 #[tokV x (.slice a x.d.length cp)] X fun e w' => e = .returned (.tuple #[.string (spellF x), .int .i64 0]) ∧ Below X.heap.size X w') := Lib.hid (fun X hX => c37 ValidT says97 says62 x _ X hx (hi.below hX) (hT.below hX) (hP.below hX))
  obtain ⟨E, hE⟩ : ∃ E, spellF x = E := ⟨_, rfl⟩
  rw [hE] at C37
  have hm : missF s x = !((s.extract x.at_ x.en).toList == E.toList) := by unfold missF; rw [hE]
  rw [hm]
  have hlt := lt_of_cell hb
  obtain ⟨k, ts, td, a_, e_, l_, c_⟩ := x
  simp only [] at h1 h2 C37 hi ⊢
  have HB0 : Hid (Below w.heap.size w (w.alloc (.cells #[.int .i64 k, .string ts, .bool false, .slice a td.length cp, .int .i64 (a_ : Int), .int .i64 (e_ : Int), .int .i64 l_, .int .i64 c_] 41 (0, 0)))) := Lib.hid ((Below.refl _ _).alloc (Nat.le_refl _) _)
  have KB : Hid (∀ X, Below w.heap.size w X → X.cell? ⟨b, 0, none⟩ = some (.string s)) := Lib.hid (fun X hX => (hX.cell (p := ⟨b, 0, none⟩) hlt).trans hb)
  have g1 : ¬ ((a_ : Int) < 0) := by omega
  have g2 : ¬ ((s.size : Int) < (e_ : Int)) := by omega
  have g3 : ¬ ((e_ : Int) < (a_ : Int)) := by omega
  clear hx hi hT hP hb hE hm hlt
  show Calls Tryz.prog 74 #[.agg #[_, _, _, _, _, _, _, _], _] w _
  go_enter Tryz.func74, Tryz.ntmps74
  go_wp2_with (go_at_call 37; ((with_reducible refine (C37.out _ HB0.out).mono ?_); rintro e w1 ⟨rfl, hbb⟩; have k3 := one_blk w _ 41 hbb 4 _ rfl; have k4 := one_blk w _ 41 hbb 5 _ rfl; have hb1 := HB0.out.trans (hbb.mono HB0.out.size); have kb := KB.out _ hb1; have HB1 := Lib.hid hb1; clear hb1 hbb))
  have d1 : decide ((a_ : Int) < 0) = false := by simp
  have d2 : decide (s.size < e_) = false := by simp; omega
  have d3 : decide (e_ < a_) = false := by simp; omega
  go_ret
  refine ⟨?_, HB1.out⟩
  show Ending.returned (Value.bool (decide ((a_ : Int) < 0) || decide (s.size < e_) || decide (e_ < a_) || !((s.extract a_ e_).toList == E.toList))) = _
  rw [d1, d2, d3]
  rfl
end Go.Proofs.YtagcfgoofiibfaaGreatDoor
set_option linter.unusedVariables false
namespace Go.Proofs.YtagcfgoofiibfaaGreatDoor
open Go Go.RowKit

/-- the first token that is spelled otherwise -/
def MissTo (s : ByteArray) (ts : List Tk) (w : World) (e : Ending) (w' : World) : Prop := ∃ r : Int, e = .returned (.int .i64 r) ∧ decide (0 ≤ r) = ts.any (missF s) ∧ Below w.heap.size w w'

set_option maxRecDepth 100000 in
set_option maxHeartbeats 3200000 in
theorem c112 (s : ByteArray) (v : Value) (ts : List Tk) (b : Nat) (w : World) (hr : TokRow w v ts) (hv : ∀ t ∈ ts, ValidT t ∧ t.at_ ≤ t.en ∧ t.en ≤ s.size) (hT : TI w) (hP : TP w) (hb : w.cell? ⟨b, 0, none⟩ = some (.string s)) (h3 : s.size ≤ 3000) :
    Calls Tryz.prog 112 #[v, .func (.func 74) #[] #[.pointer (some ⟨b, 0, none⟩)]] w (MissTo s ts w) := by
  obtain ⟨a0, cp0, rfl, hm0, hc0⟩ := hr.shape
  have hml : ts.length ≤ 9223372036854775807 := by unfold maxLen at hm0; omega
  have HR := Lib.hid hr
  have C74 : Hid (∀ (x : Tk) (dv : Value) (X : World), x ∈ ts → IntsAt X dv x.d → Below w.heap.size w X → Calls Tryz.prog 74 #[tokV x dv, .pointer (some ⟨b, 0, none⟩)] X fun e w' => e = .returned (.bool (missF s x)) ∧ Below X.heap.size X w') := Lib.hid (fun x dv X hx hi hX => c74 s x dv b X (hv x hx).1 hi (hT.below hX) (hP.below hX) ((hX.cell (p := ⟨b, 0, none⟩) (lt_of_cell hb)).trans hb) (hv x hx).2.1 (hv x hx).2.2 h3)
  clear hr hv hT hP hb h3 hm0 hc0
  go_enter Tryz.func112, Tryz.ntmps112
  go_wp2
  go_loopw [8] (fun s8 wr => ∃ k : Nat, k ≤ ts.length ∧ s8 = .int .i64 (k : Int) ∧ (∀ (j : Nat) (x : Tk), j < k → ts[j]? = some x → missF s x = false) ∧ Below w.heap.size w wr) (fun s8 _ => ts.length - (intOf s8).toNat)
  case atStart => exact ⟨0, Nat.zero_le _, rfl, fun j x hj => by omega, Below.refl _ _⟩
  case round =>
    obtain ⟨k, hk, rfl, hnm, hB⟩ := hrel
    have HB := Lib.hid hB
    have HNM := Lib.hid hnm
    clear hB hnm
    by_cases hlt : k < ts.length
    · obtain ⟨x, hx⟩ : ∃ x, ts[k]? = some x := ⟨_, List.getElem?_eq_getElem hlt⟩
      obtain ⟨gb, cap, he, hc1, hm1, hgb, hcl⟩ := (HR.out.below HB.out).cells (by omega)
      injection he with e1 e2 e3
      subst e1 e3
      obtain ⟨dv, hiv, x0, x1, x2, x3, x4, x5, x6, x7⟩ := hcl k x hx
      obtain ⟨ad, cpd, rfl⟩ := row_form hiv
      have b0 : (0 : Int) ≤ (k : Int) := by omega
      have b1 : (k : Int) < (ts.length : Int) := by omega
      have hwk : wrap64 ((k : Int) + 1) = (k : Int) + 1 := by unfold wrap64; omega
      obtain ⟨M, hM⟩ : ∃ M, missF s x = M := ⟨_, rfl⟩
      have CC := C74.out x _ wr (List.mem_of_getElem? hx) hiv HB.out
      rw [hM] at CC
      have HCC := Lib.hid CC
      have HX := Lib.hid hx
      have HM := Lib.hid hM
      clear hcl hiv hx e2 CC hM
      rcases M with _ | _
      · go_wp2_with (go_at_call 74; ((with_reducible refine HCC.out.mono ?_); rintro e w1 ⟨rfl, hbb⟩; have HB1 := Lib.hid hbb; clear hbb))
        go_roundw
        case rel =>
          refine ⟨k + 1, by omega, by go_num, fun j y hj hy => ?_, HB.out.trans (HB1.out.mono HB.out.size)⟩
          by_cases hjk : j = k
          · subst hjk
            rw [HX.out] at hy
            injection hy with hy
            rw [← hy]; exact HM.out
          · exact HNM.out j y (by omega) hy
        case measure =>
          show ts.length - ((k : Int) + 1).toNat < ts.length - (k : Int).toNat
          have e1 : ((k : Int) + 1).toNat = k + 1 := by omega
          have e2 : (k : Int).toNat = k := by omega
          rw [e1, e2]; exact Nat.sub_lt_sub_left hlt (Nat.lt_succ_self k)
      · go_wp2_with (go_at_call 74; ((with_reducible refine HCC.out.mono ?_); rintro e w1 ⟨rfl, hbb⟩; have HB1 := Lib.hid hbb; clear hbb))
        go_ret
        refine ⟨_, rfl, ?_, HB.out.trans (HB1.out.mono HB.out.size)⟩
        have ha : ts.any (missF s) = true := List.any_eq_true.2 ⟨x, List.mem_of_getElem? HX.out, HM.out⟩
        rw [ha]; simp
    · have hd : decide (k < ts.length) = false := by simpa using hlt
      go_wp2
      go_ret
      refine ⟨_, rfl, ?_, HB.out⟩
      have ha : ts.any (missF s) = false := by
        rw [List.any_eq_false]
        intro x hx
        obtain ⟨j, hj, hje⟩ := List.mem_iff_getElem.1 hx
        have := HNM.out j x (by omega) (by rw [← hje]; exact List.getElem?_eq_getElem hj)
        rw [this]; decide
      rw [ha]; decide

theorem c73 (s : ByteArray) (v : Value) (ts : List Tk) (b : Nat) (w : World) (hr : TokRow w v ts) (hv : ∀ t ∈ ts, ValidT t ∧ t.at_ ≤ t.en ∧ t.en ≤ s.size) (hT : TI w) (hP : TP w) (hb : w.cell? ⟨b, 0, none⟩ = some (.string s)) (h3 : s.size ≤ 3000) :
    Calls Tryz.prog 73 #[v, .func (.func 74) #[] #[.pointer (some ⟨b, 0, none⟩)]] w fun e w' => e = .returned (.bool (ts.any (missF s))) ∧ Below w.heap.size w w' := by
  obtain ⟨a0, cp0, rfl, _, _⟩ := hr.shape
  have K := Lib.hid (c112 s _ ts b w hr hv hT hP hb h3)
  clear hr hv hT hP hb h3
  go_enter Tryz.func73, Tryz.ntmps73
  go_wp2_with (go_at_call 112; ((with_reducible refine K.out.mono ?_); rintro e w1 ⟨r, rfl, hq, hbb⟩; have HQ := Lib.hid hq; have HB := Lib.hid hbb; clear hq hbb))
  go_ret
  refine ⟨?_, HB.out⟩
  rw [← HQ.out]
  rfl
end Go.Proofs.YtagcfgoofiibfaaGreatDoor
set_option linter.unusedVariables false
namespace Go.Proofs.YtagcfgoofiibfaaGreatDoor
open Go Go.RowKit

/-- fits -/
theorem c33 (s : ByteArray) (v : Value) (ts : List Tk) (w : World) (hr : TokRow w v ts) (hv : ∀ t ∈ ts, ValidT t ∧ t.at_ ≤ t.en ∧ t.en ≤ s.size) (hT : TI w) (hP : TP w) (h3 : s.size ≤ 3000) :
    Calls Tryz.prog 33 #[.string s, v] w fun e w' => e = .returned (.bool (!ts.any (missF s))) ∧ Below w.heap.size w w' := by
  obtain ⟨a0, cp0, rfl, _, _⟩ := hr.shape
  have hB : Below w.heap.size w (w.alloc (.cells #[.string s] 9 (0, 0))) := (Below.refl _ _).alloc (Nat.le_refl _) _
  have hc : (w.alloc (.cells #[.string s] 9 (0, 0))).cell? ⟨w.heap.size, 0, none⟩ = some (.string s) := by
    rw [cell_of_row _ _ _ _ _ _ (blk_new w _ rfl _)]; rfl
  have K := Lib.hid (c73 s _ ts w.heap.size _ (hr.below hB) hv (hT.below hB) (hP.below hB) hc h3)
  have HB := Lib.hid hB
  obtain ⟨A, hA⟩ : ∃ A, ts.any (missF s) = A := ⟨_, rfl⟩
  rw [hA] at K ⊢
  clear hr hv hT hP hB hc h3 hA
  go_enter Tryz.func33, Tryz.ntmps33
  go_wp2_with (go_at_call 73; ((with_reducible refine K.out.mono ?_); rintro e w1 ⟨rfl, hbb⟩; have HB1 := Lib.hid (HB.out.trans (hbb.mono HB.out.size)); clear hbb))
  go_ret
  exact ⟨rfl, HB1.out⟩
end Go.Proofs.YtagcfgoofiibfaaGreatDoor
