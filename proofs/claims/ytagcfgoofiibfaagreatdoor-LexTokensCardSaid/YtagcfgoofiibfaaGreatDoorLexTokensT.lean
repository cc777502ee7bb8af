/- The law LexTokensT: its walk and its statement: RC0, RC1, RC2, RC3, RC4. -/
import Derived.Test.YtagcfgoofiibfaaGreatDoorLexTokensS
import Derived.Test.YtagcfgoofiibfaaGreatDoorLexTokensR
import Derived.Test.YtagcfgoofiibfaaGreatDoorG35
import Derived.Test.YtagcfgoofiibfaaGreatDoorG34
import Derived.Test.YtagcfgoofiibfaaGreatDoorLexTokensP
set_option linter.unusedVariables false
set_option linter.unusedSimpArgs false
set_option linter.unusedVariables false
namespace Go.Proofs.YtagcfgoofiibfaaGreatDoor
open Go Go.RowKit

/-- a token's cells -/
abbrev tkCells (k : Int) (s : ByteArray) (dv : Value) : Array Value := #[.int .i64 k, .string s, .bool false, dv, .int .i64 0, .int .i64 0, .int .i64 0, .int .i64 0]
/-- what the reference's readers of a token hand back -/
def NxtTo (r : Except Int Tk) (w : World) (e : Ending) (w' : World) : Prop :=
  (match r with
    | .ok p => ∃ a cp, e = .returned (.tuple #[.agg (tkCells p.k p.s (.slice a p.d.length cp)), .int .i64 (p.en : Int), .int .i64 0]) ∧ IntsUp w.heap.size w' (.slice a p.d.length cp) p.d
    | .error er => ∃ (kz : Int) (sz : ByteArray) (z : Int), e = .returned (.tuple #[.agg (tkCells kz sz (.slice none 0 0)), .int .i64 z, .int .i64 er])) ∧ Below w.heap.size w w'
def dgA (W : ByteArray) : Bool := W.data.toList.all fun b => dgt (b.toNat : Int)
def ltA (W : ByteArray) : Bool := W.data.toList.any fun b => ltr (b.toNat : Int)
/-- the token of a run -/
def wordF (W : ByteArray) : Except Int Tk :=
  if dgA W then (match valF W 10 with
    | none => .error 23
    | some d => .ok ⟨2, ByteArray.empty, d, 0, W.size, 0, 0⟩)
  else if 3 ≤ W.size ∧ ((W.extract 0 3).toList = [87, 70, 95] ∨ (W.extract 0 3).toList = [83, 70, 95]) then .ok ⟨4, W.extract 0 3, [], 0, 3, 0, 0⟩
  else if W.toList = [95] then .ok ⟨5, W, [], 0, 1, 0, 0⟩
  else if isWord W then .ok ⟨4, W, [], 0, W.size, 0, 0⟩
  else if ltA W = false then .error 20
  else if 40 < W.size then .error 24
  else .ok ⟨1, W, [], 0, W.size, 0, 0⟩
/-- how many of the first bytes -/
def cntP (p : Int → Bool) (W : ByteArray) (k : Nat) : Nat := (W.data.toList.take k).countP fun b => p (b.toNat : Int)
theorem cntP_step (p : Int → Bool) (W : ByteArray) (k : Nat) (h : k < W.size) : cntP p W (k + 1) = cntP p W k + (if p (bt W k) then 1 else 0) := by
  unfold cntP
  have hk : W.data.toList[k]? = some (W.data.toList.getD k 0) := by
    rw [List.getD_eq_getElem?_getD, List.getElem?_eq_getElem (by rw [Array.length_toList]; exact h)]; rfl
  rw [List.take_add_one, hk, Option.toList_some, List.countP_append, List.countP_singleton]
  rfl
theorem cntP_le (p : Int → Bool) (W : ByteArray) (k : Nat) : cntP p W k ≤ k := by
  unfold cntP
  exact Nat.le_trans List.countP_le_length (by rw [List.length_take]; omega)
theorem cntP_dg (W : ByteArray) : (cntP dgt W W.size = W.size) ↔ dgA W = true := by
  unfold cntP dgA
  have hl : W.data.toList.length = W.size := Array.length_toList
  rw [← hl, List.take_length, List.countP_eq_length, List.all_eq_true]
theorem cntP_lt (W : ByteArray) : (cntP ltr W W.size = 0) ↔ ltA W = false := by
  unfold cntP ltA
  have hl : W.data.toList.length = W.size := Array.length_toList
  rw [← hl, List.take_length, List.countP_eq_zero, List.any_eq_false]
/-- a block of a token's turned whole -/
def st8 (W : World) (P : Nat) (a b c d e f g h : Value) : World := (((((((W.setCell ⟨P, 0, none⟩ a).setCell ⟨P, 1, none⟩ b).setCell ⟨P, 2, none⟩ c).setCell ⟨P, 3, none⟩ d).setCell ⟨P, 4, none⟩ e).setCell ⟨P, 5, none⟩ f).setCell ⟨P, 6, none⟩ g).setCell ⟨P, 7, none⟩ h
theorem IntsUp.st8 {B : Nat} {W : World} {v : Value} {l : List Int} (h : IntsUp B W v l) {P : Nat} (hP : P < B) (a b c d e f g i : Value) : IntsUp B (st8 W P a b c d e f g i) v l :=
  (((((((h.set hP 0 a).set hP 1 b).set hP 2 c).set hP 3 d).set hP 4 e).set hP 5 f).set hP 6 g).set hP 7 i
theorem below_st8 {B : Nat} {w W : World} (h : Below B w W) {P : Nat} (hP : B ≤ P) (a b c d e f g i : Value) : Below B w (st8 W P a b c d e f g i) :=
  (((((((h.setCell (p := ⟨P, 0, none⟩) hP a).setCell (p := ⟨P, 1, none⟩) hP b).setCell (p := ⟨P, 2, none⟩) hP c).setCell (p := ⟨P, 3, none⟩) hP d).setCell (p := ⟨P, 4, none⟩) hP e).setCell (p := ⟨P, 5, none⟩) hP f).setCell (p := ⟨P, 6, none⟩) hP g).setCell (p := ⟨P, 7, none⟩) hP i
theorem st8_blk {W : World} {P : Nat} {a' b' c' d' e' f' g' i' : Value} (h : W.heap[P]? = some (.cells #[a', b', c', d', e', f', g', i'] 41 (0, 0))) (a b c d e f g i : Value) : (st8 W P a b c d e f g i).heap[P]? = some (.cells #[a, b, c, d, e, f, g, i] 41 (0, 0)) := by
  have h0 : (W.setCell ⟨P, 0, none⟩ a).heap[P]? = some (.cells #[a, b', c', d', e', f', g', i'] 41 (0, 0)) := heap_setCell_same _ P 0 _ _ _ h
  have h1 : ((W.setCell ⟨P, 0, none⟩ a).setCell ⟨P, 1, none⟩ b).heap[P]? = some (.cells #[a, b, c', d', e', f', g', i'] 41 (0, 0)) := heap_setCell_same _ P 1 _ _ _ h0
  have h2 : (((W.setCell ⟨P, 0, none⟩ a).setCell ⟨P, 1, none⟩ b).setCell ⟨P, 2, none⟩ c).heap[P]? = some (.cells #[a, b, c, d', e', f', g', i'] 41 (0, 0)) := heap_setCell_same _ P 2 _ _ _ h1
  have h3 : ((((W.setCell ⟨P, 0, none⟩ a).setCell ⟨P, 1, none⟩ b).setCell ⟨P, 2, none⟩ c).setCell ⟨P, 3, none⟩ d).heap[P]? = some (.cells #[a, b, c, d, e', f', g', i'] 41 (0, 0)) := heap_setCell_same _ P 3 _ _ _ h2
  have h4 : (((((W.setCell ⟨P, 0, none⟩ a).setCell ⟨P, 1, none⟩ b).setCell ⟨P, 2, none⟩ c).setCell ⟨P, 3, none⟩ d).setCell ⟨P, 4, none⟩ e).heap[P]? = some (.cells #[a, b, c, d, e, f', g', i'] 41 (0, 0)) := heap_setCell_same _ P 4 _ _ _ h3
  have h5 : ((((((W.setCell ⟨P, 0, none⟩ a).setCell ⟨P, 1, none⟩ b).setCell ⟨P, 2, none⟩ c).setCell ⟨P, 3, none⟩ d).setCell ⟨P, 4, none⟩ e).setCell ⟨P, 5, none⟩ f).heap[P]? = some (.cells #[a, b, c, d, e, f, g', i'] 41 (0, 0)) := heap_setCell_same _ P 5 _ _ _ h4
  have h6 : (((((((W.setCell ⟨P, 0, none⟩ a).setCell ⟨P, 1, none⟩ b).setCell ⟨P, 2, none⟩ c).setCell ⟨P, 3, none⟩ d).setCell ⟨P, 4, none⟩ e).setCell ⟨P, 5, none⟩ f).setCell ⟨P, 6, none⟩ g).heap[P]? = some (.cells #[a, b, c, d, e, f, g, i'] 41 (0, 0)) := heap_setCell_same _ P 6 _ _ _ h5
  have h7 : ((((((((W.setCell ⟨P, 0, none⟩ a).setCell ⟨P, 1, none⟩ b).setCell ⟨P, 2, none⟩ c).setCell ⟨P, 3, none⟩ d).setCell ⟨P, 4, none⟩ e).setCell ⟨P, 5, none⟩ f).setCell ⟨P, 6, none⟩ g).setCell ⟨P, 7, none⟩ i).heap[P]? = some (.cells #[a, b, c, d, e, f, g, i] 41 (0, 0)) := heap_setCell_same _ P 7 _ _ _ h6
  exact h7
set_option maxRecDepth 100000 in
theorem results_tk {fn : Func} {p t u : Tmp} (h : fn.results = #[.cell p 41, .tmp t, .tmp u]) {tmps : Array Value} {W : World} {P : Nat} {a b c d e f g i : Value} (hp : tmps.getD p undef = .pointer (some ⟨P, 0, none⟩)) (hb : W.heap[P]? = some (.cells #[a, b, c, d, e, f, g, i] 41 (0, 0))) :
    (results fn tmps).run Tryz.prog W = .ok (.tuple #[.agg #[a, b, c, d, e, f, g, i], tmps.getD t undef, tmps.getD u undef]) W := by
  have q : ∀ j, W.cell? ⟨P, j, none⟩ = (#[a, b, c, d, e, f, g, i] : Array Value)[j]? := fun j => cell_of_row _ _ _ _ _ _ hb
  have z0 : W.cell? ⟨P, 0, none⟩ = some a := q 0
  have z1 : W.cell? ⟨P, 1, none⟩ = some b := q 1
  have z2 : W.cell? ⟨P, 2, none⟩ = some c := q 2
  have z3 : W.cell? ⟨P, 3, none⟩ = some d := q 3
  have z4 : W.cell? ⟨P, 4, none⟩ = some e := q 4
  have z5 : W.cell? ⟨P, 5, none⟩ = some f := q 5
  have z6 : W.cell? ⟨P, 6, none⟩ = some g := q 6
  have z7 : W.cell? ⟨P, 7, none⟩ = some i := q 7
  have hp' : tmps[p]?.getD undef = .pointer (some ⟨P, 0, none⟩) := by simpa using hp
  clear q hp
  simp [results, h, hp', go_sem, z0, z1, z2, z3, z4, z5, z6, z7]
/-- the result's block, untouched -/
structure Tk0 (w W : World) : Prop where
  z : W.heap[w.heap.size]? = some (.cells (tkCells 0 ByteArray.empty (.slice none 0 0)) 41 (0, 0))
  b : Below w.heap.size w W
theorem Tk0.start (w : World) : Tk0 w (w.alloc (.cells (tkCells 0 ByteArray.empty (.slice none 0 0)) 41)) := ⟨heap_alloc_new w _, (Below.refl _ _).alloc (Nat.le_refl _) _⟩
theorem Tk0.below {w W W' : World} (h : Tk0 w W) (hb : Below W.heap.size W W') : Tk0 w W' := ⟨(hb.block _ (lt_of_blk h.z)).trans h.z, h.b.trans (hb.mono h.b.size)⟩
theorem Tk0.cells {w W : World} (h : Tk0 w W) : W.cell? ⟨w.heap.size, 0, none⟩ = some (.int .i64 0) ∧ W.cell? ⟨w.heap.size, 1, none⟩ = some (.string ByteArray.empty) ∧ W.cell? ⟨w.heap.size, 2, none⟩ = some (.bool false) ∧ W.cell? ⟨w.heap.size, 3, none⟩ = some (.slice none 0 0) ∧ W.cell? ⟨w.heap.size, 4, none⟩ = some (.int .i64 0) ∧ W.cell? ⟨w.heap.size, 5, none⟩ = some (.int .i64 0) ∧ W.cell? ⟨w.heap.size, 6, none⟩ = some (.int .i64 0) ∧ W.cell? ⟨w.heap.size, 7, none⟩ = some (.int .i64 0) := by
  have e : ∀ j, W.cell? ⟨w.heap.size, j, none⟩ = (tkCells 0 ByteArray.empty (.slice none 0 0))[j]? := fun j => cell_of_row _ _ _ _ _ _ h.z
  exact ⟨e 0, e 1, e 2, e 3, e 4, e 5, e 6, e 7⟩
theorem Tk0.frz {w W : World} (h : Tk0 w W) (j : Nat) : W.frozen? ⟨w.heap.size, j, none⟩ = false := frozen_of_row _ _ _ _ _ h.z

set_option maxRecDepth 100000 in
set_option maxHeartbeats 6400000 in
/-- worded -/
theorem c120 (s : ByteArray) (w : World) (hs : s.size ≤ 1073741824) : Calls Tryz.prog 120 #[.string s] w (NxtTo (wordF s) w) := by
  obtain ⟨R, hR⟩ : ∃ R, wordF s = R := ⟨_, rfl⟩
  rw [hR]
  have HR := Lib.hid hR
  have HSZ := Lib.hid hs
  have HT0 := Lib.hid (Tk0.start w)
  clear hR hs
  go_enter Tryz.func120, Tryz.ntmps120
  go_wp2
  go_loopw [5, 6, 7] (fun s5 s6 s7 wr => ∃ k : Nat, k ≤ s.size ∧ s5 = .int .i64 (cntP ltr s k : Int) ∧ s6 = .int .i64 (cntP dgt s k : Int) ∧ s7 = .int .i64 (k : Int) ∧ Tk0 w wr) (fun _ _ s7 _ => s.size - (intOf s7).toNat)
  case atStart => exact ⟨0, Nat.zero_le _, rfl, rfl, rfl, HT0.out⟩
  case round =>
    obtain ⟨k, hk, rfl, rfl, rfl, hT⟩ := hrel
    have hSZ := HSZ.out
    have hcl := cntP_le ltr s k
    have hcd := cntP_le dgt s k
    have HT := Lib.hid hT
    by_cases hlt : k < s.size
    · have hjz : (k : Int) < (s.size : Int) := by omega
      have h0 : (0 : Int) ≤ (k : Int) := by omega
      have hb := bt_get s k hlt
      obtain ⟨y, hy⟩ : ∃ y, bt s k = y := ⟨_, rfl⟩
      have e1 := cntP_step ltr s k hlt
      have e2 := cntP_step dgt s k hlt
      rw [hy] at hb e1 e2
      obtain ⟨cl, hcl2⟩ : ∃ c, cntP ltr s k = c := ⟨_, rfl⟩
      obtain ⟨cd, hcd2⟩ : ∃ c, cntP dgt s k = c := ⟨_, rfl⟩
      rw [hcl2] at hcl e1 ⊢
      rw [hcd2] at hcd e2 ⊢
      have C8 := Lib.hid (fun W => c118 y W)
      have C9 := Lib.hid (fun W => c119 y W)
      have HLT := Lib.hid hlt
      rcases hl : ltr y with _ | _ <;> rcases hd : dgt y with _ | _
      all_goals
        rw [hl] at C8 e1
        rw [hd] at C9 e2
        have E1 := Lib.hid e1
        have E2 := Lib.hid e2
        clear hl hd e1 e2 hy hcl2 hcd2 hT
        go_wp2_with (first | (go_at_call 118; ((with_reducible refine (C8.out _).mono ?_); rintro e w' ⟨rfl, rfl⟩)) | (go_at_call 119; ((with_reducible refine (C9.out _).mono ?_); rintro e w' ⟨rfl, rfl⟩)))
        go_roundw
        case rel => exact ⟨k + 1, HLT.out, by rw [E1.out]; go_num, by rw [E2.out]; go_num, by go_num, HT.out⟩
        case measure => have := HLT.out; simp [intOf]; omega
    · have hjz : ¬ ((k : Int) < (s.size : Int)) := by omega
      have hke : k = s.size := by omega
      rw [hke] at hcl hcd ⊢
      have hdg := cntP_dg s
      have hla := cntP_lt s
      obtain ⟨cl, hcl2⟩ : ∃ c, cntP ltr s s.size = c := ⟨_, rfl⟩
      obtain ⟨cd, hcd2⟩ : ∃ c, cntP dgt s s.size = c := ⟨_, rfl⟩
      rw [hcl2] at hla hcl ⊢
      rw [hcd2] at hdg hcd ⊢
      obtain ⟨k0, k1, k2, k3, k4, k5, k6, k7⟩ := hT.cells
      have kf := hT.frz
      have hzz : ¬ ((s.size : Int) < (s.size : Int)) := by omega
      have hr := HR.out
      unfold wordF at hr
      have C123 : Hid (∀ W, Calls Tryz.prog 123 #[.string s, .int .i64 10] W (ValdTo (valF s 10) W)) := Lib.hid (fun W => c123 s 10 W hSZ (by decide) (by decide))
      have C129 := Lib.hid (fun W => c129 s W)
      clear hcl2 hcd2 hT hjz hlt hke hk
      have hlw : w.heap.size < wr.heap.size := by have := lt_of_blk HT.out.z; omega
      have HLW := Lib.hid hlw
      by_cases g1 : dgA s = true
      · rw [if_pos g1] at hr
        have e1 : ((cd : Int) == (s.size : Int)) = true := by rw [hdg.2 g1]; simp
        rcases hv : valF s 10 with _ | d
        · rw [hv] at hr C123
          have HRR := Lib.hid hr
          clear hr hdg hla g1 hv hlw
          go_wp2_with (go_at_call 123; ((with_reducible refine (C123.out _).mono ?_); rintro e w3 ⟨rfl, hb⟩; have HT3 := Lib.hid (HT.out.below hb); obtain ⟨j0, j1, j2, j3, j4, j5, j6, j7⟩ := HT3.out.cells; have jf := HT3.out.frz; have hl3 := lt_of_blk HT3.out.z; clear hb k0 k1 k2 k3 k4 k5 k6 k7 kf))
          refine bodyPost_ret (results_tk rfl rfl (blk_alloc (st8_blk HT3.out.z _ _ _ _ _ _ _ _) _)) rfl ?_
          rw [← HRR.out]
          exact ⟨⟨0, ByteArray.empty, 0, rfl⟩, (below_st8 HT3.out.b (Nat.le_refl _) _ _ _ _ _ _ _ _).alloc (below_st8 HT3.out.b (Nat.le_refl _) _ _ _ _ _ _ _ _).size _⟩
        · rw [hv] at hr C123
          have HRR := Lib.hid hr
          clear hr hdg hla g1 hv hlw
          go_wp2_with (go_at_call 123; ((with_reducible refine (C123.out _).mono ?_); rintro e w3 ⟨⟨a3, k3', rfl, hi⟩, hb⟩; have HT3 := Lib.hid (HT.out.below hb); have HI := Lib.hid hi; obtain ⟨j0, j1, j2, j3, j4, j5, j6, j7⟩ := HT3.out.cells; have jf := HT3.out.frz; have hl3 := lt_of_blk HT3.out.z; clear hb hi k0 k1 k2 k3 k4 k5 k6 k7 kf))
          refine bodyPost_ret (results_tk rfl rfl (blk_alloc (st8_blk HT3.out.z _ _ _ _ _ _ _ _) _)) rfl ?_
          rw [← HRR.out]
          exact ⟨⟨a3, k3', rfl, IntsUp.le (World.ownsRow.alloc (HI.out.st8 HLW.out _ _ _ _ _ _ _ _) _) (Nat.le_of_lt HLW.out)⟩, (below_st8 HT3.out.b (Nat.le_refl _) _ _ _ _ _ _ _ _).alloc (below_st8 HT3.out.b (Nat.le_refl _) _ _ _ _ _ _ _ _).size _⟩
      rw [if_neg g1] at hr
      have e1 : ((cd : Int) == (s.size : Int)) = false := by
        rcases hq : ((cd : Int) == (s.size : Int)) with _ | _
        · rfl
        · exact absurd (hdg.1 (by have := eq_of_beq hq; omega)) g1
      clear hdg g1
      by_cases g2 : 3 ≤ s.size ∧ ((s.extract 0 3).toList = [87, 70, 95] ∨ (s.extract 0 3).toList = [83, 70, 95])
      · rw [if_pos g2] at hr
        obtain ⟨h3, g2⟩ := g2
        have r3 : (3 : Int) ≤ (s.size : Int) := by omega
        have HRR := Lib.hid hr
        by_cases x1 : (s.extract 0 3).toList = [87, 70, 95]
        · have b1 : ((s.extract 0 3).toList == [87, 70, 95]) = true := by rw [x1]; rfl
          clear hr hla g2 x1 hlw
          go_wp2
          refine bodyPost_ret (results_tk rfl rfl (st8_blk HT.out.z _ _ _ _ _ _ _ _)) rfl ?_
          rw [← HRR.out]
          exact ⟨⟨none, 0, rfl, World.ownsRow_nil _ _ _ _⟩, below_st8 HT.out.b (Nat.le_refl _) _ _ _ _ _ _ _ _⟩
        · have b1 : ((s.extract 0 3).toList == [87, 70, 95]) = false := by simpa using x1
          have b2 : ((s.extract 0 3).toList == [83, 70, 95]) = true := by
            rcases g2 with g2 | g2
            · exact absurd g2 x1
            · rw [g2]; rfl
          clear hr hla g2 x1 hlw
          go_wp2
          refine bodyPost_ret (results_tk rfl rfl (st8_blk HT.out.z _ _ _ _ _ _ _ _)) rfl ?_
          rw [← HRR.out]
          exact ⟨⟨none, 0, rfl, World.ownsRow_nil _ _ _ _⟩, below_st8 HT.out.b (Nat.le_refl _) _ _ _ _ _ _ _ _⟩
      rw [if_neg g2] at hr
      have hpre : (¬ ((3 : Int) ≤ (s.size : Int))) ∨ ((3 : Int) ≤ (s.size : Int) ∧ ((s.extract 0 3).toList == [87, 70, 95]) = false ∧ ((s.extract 0 3).toList == [83, 70, 95]) = false) := by
        by_cases h3 : 3 ≤ s.size
        · refine .inr ⟨by omega, ?_, ?_⟩
          · simpa using fun h => g2 ⟨h3, .inl h⟩
          · simpa using fun h => g2 ⟨h3, .inr h⟩
        · exact .inl (by omega)
      clear g2
      by_cases g3 : s.toList = [95]
      · rw [if_pos g3] at hr
        have b3 : (s.toList == [95]) = true := by rw [g3]; rfl
        have HRR := Lib.hid hr
        clear hr hla g3 hlw
        rcases hpre with r3 | ⟨r3, b1, b2⟩
        all_goals
          go_wp2
          refine bodyPost_ret (results_tk rfl rfl (st8_blk HT.out.z _ _ _ _ _ _ _ _)) rfl ?_
          rw [← HRR.out]
          exact ⟨⟨none, 0, rfl, World.ownsRow_nil _ _ _ _⟩, below_st8 HT.out.b (Nat.le_refl _) _ _ _ _ _ _ _ _⟩
      rw [if_neg g3] at hr
      have b3 : (s.toList == [95]) = false := by simpa using g3
      by_cases g4 : isWord s = true
      · rw [if_pos g4] at hr
        have HRR := Lib.hid hr
        rw [g4] at C129
        clear hr hla g3 g4 hlw
        rcases hpre with r3 | ⟨r3, b1, b2⟩
        all_goals
          go_wp2_with (go_at_call 129; ((with_reducible refine (C129.out _).mono ?_); rintro e w3 ⟨rfl, hb⟩; have HT3 := Lib.hid (HT.out.below hb); obtain ⟨j0, j1, j2, j3, j4, j5, j6, j7⟩ := HT3.out.cells; have jf := HT3.out.frz; clear hb k0 k1 k2 k3 k4 k5 k6 k7 kf))
          refine bodyPost_ret (results_tk rfl rfl (st8_blk HT3.out.z _ _ _ _ _ _ _ _)) rfl ?_
          rw [← HRR.out]
          exact ⟨⟨none, 0, rfl, World.ownsRow_nil _ _ _ _⟩, below_st8 HT3.out.b (Nat.le_refl _) _ _ _ _ _ _ _ _⟩
      rw [if_neg g4] at hr
      have hw4 : isWord s = false := by simpa using g4
      rw [hw4] at C129
      by_cases g5 : ltA s = false
      · rw [if_pos g5] at hr
        have b5 : ((cl : Int) == 0) = true := by rw [hla.2 g5]; rfl
        have HRR := Lib.hid hr
        clear hr hla g3 g4 g5 hw4 hlw
        rcases hpre with r3 | ⟨r3, b1, b2⟩
        all_goals
          go_wp2_with (go_at_call 129; ((with_reducible refine (C129.out _).mono ?_); rintro e w3 ⟨rfl, hb⟩; have HT3 := Lib.hid (HT.out.below hb); obtain ⟨j0, j1, j2, j3, j4, j5, j6, j7⟩ := HT3.out.cells; have jf := HT3.out.frz; clear hb k0 k1 k2 k3 k4 k5 k6 k7 kf))
          refine bodyPost_ret (results_tk rfl rfl (st8_blk HT3.out.z _ _ _ _ _ _ _ _)) rfl ?_
          rw [← HRR.out]
          exact ⟨⟨0, ByteArray.empty, 0, rfl⟩, below_st8 HT3.out.b (Nat.le_refl _) _ _ _ _ _ _ _ _⟩
      rw [if_neg g5] at hr
      have b5 : ((cl : Int) == 0) = false := by
        rcases hq : ((cl : Int) == 0) with _ | _
        · rfl
        · exact absurd (hla.1 (by have := eq_of_beq hq; omega)) g5
      clear hla g3 g4 g5 hw4
      by_cases g6 : 40 < s.size
      · rw [if_pos g6] at hr
        have r6 : (40 : Int) < (s.size : Int) := by omega
        have HRR := Lib.hid hr
        clear hr g6 hlw
        rcases hpre with r3 | ⟨r3, b1, b2⟩
        · exfalso; omega
        all_goals
          go_wp2_with (go_at_call 129; ((with_reducible refine (C129.out _).mono ?_); rintro e w3 ⟨rfl, hb⟩; have HT3 := Lib.hid (HT.out.below hb); obtain ⟨j0, j1, j2, j3, j4, j5, j6, j7⟩ := HT3.out.cells; have jf := HT3.out.frz; clear hb k0 k1 k2 k3 k4 k5 k6 k7 kf))
          refine bodyPost_ret (results_tk rfl rfl (st8_blk HT3.out.z _ _ _ _ _ _ _ _)) rfl ?_
          rw [← HRR.out]
          exact ⟨⟨0, ByteArray.empty, 0, rfl⟩, below_st8 HT3.out.b (Nat.le_refl _) _ _ _ _ _ _ _ _⟩
      · rw [if_neg g6] at hr
        have r6 : ¬ ((40 : Int) < (s.size : Int)) := by omega
        have HRR := Lib.hid hr
        clear hr g6 hlw
        rcases hpre with r3 | ⟨r3, b1, b2⟩
        all_goals
          go_wp2_with (go_at_call 129; ((with_reducible refine (C129.out _).mono ?_); rintro e w3 ⟨rfl, hb⟩; have HT3 := Lib.hid (HT.out.below hb); obtain ⟨j0, j1, j2, j3, j4, j5, j6, j7⟩ := HT3.out.cells; have jf := HT3.out.frz; clear hb k0 k1 k2 k3 k4 k5 k6 k7 kf))
          refine bodyPost_ret (results_tk rfl rfl (st8_blk HT3.out.z _ _ _ _ _ _ _ _)) rfl ?_
          rw [← HRR.out]
          exact ⟨⟨none, 0, rfl, World.ownsRow_nil _ _ _ _⟩, below_st8 HT3.out.b (Nat.le_refl _) _ _ _ _ _ _ _ _⟩
end Go.Proofs.YtagcfgoofiibfaaGreatDoor
set_option linter.unusedVariables false
namespace Go.Proofs.YtagcfgoofiibfaaGreatDoor
open Go Go.RowKit

theorem signs_ne2 : signsL.all (fun p => p.2 != []) = true := by decide +kernel
theorem canon_ne {w c : ByteArray} (h : canonOf w = some c) : (c.toList == []) = false := by
  unfold canonOf at h
  rw [Option.map_eq_some_iff] at h
  obtain ⟨p, hp, rfl⟩ := h
  have := List.all_eq_true.1 signs_ne2 p (List.mem_of_find?_eq_some hp)
  rw [ByteArray.toList_eq]
  simpa using this
/-- whether Canon of it is a text -/
def cnE (w : ByteArray) : Bool := (((canonOf w).getD ByteArray.empty).toList == [])
theorem cnE_iff (w : ByteArray) : cnE w = !(canonOf w).isSome := by
  unfold cnE
  rcases h : canonOf w with _ | c
  · show (ByteArray.empty.toList == []) = true
    rw [ByteArray.toList_eq]; rfl
  · exact canon_ne h
/-- no letters among some bytes -/
def plA (s : ByteArray) (i : Nat) : Nat → Bool
  | 0 => true
  | k + 1 => plA s i k && !ltr (bt s (i + k))
/-- the end of the sign of at most n bytes without letters -/
def sgE (s : ByteArray) (i : Nat) : Nat → Nat
  | 0 => i
  | n + 1 => if i + (n + 1) ≤ s.size ∧ plA s i (n + 1) = true ∧ cnE (s.extract i (i + (n + 1))) = false then i + (n + 1) else sgE s i n
/-- the end of the sign at a byte, the byte where there is none -/
def sgnE (s : ByteArray) (i : Nat) : Nat :=
  if bt s i = 92 ∧ 0 < cnt ltr s (i + 1) ∧ cnE (s.extract i (i + 1 + cnt ltr s (i + 1))) = false then i + 1 + cnt ltr s (i + 1) else sgE s i 3
theorem sgE_le (s : ByteArray) (i : Nat) : ∀ n, i ≤ sgE s i n ∧ sgE s i n ≤ i + n
  | 0 => ⟨Nat.le_refl _, Nat.le_refl _⟩
  | n + 1 => by
    have := sgE_le s i n
    unfold sgE
    split <;> omega

set_option maxRecDepth 100000 in
set_option maxHeartbeats 6400000 in
/-- signed -/
theorem c126 (s : ByteArray) (i : Nat) (w : World) (hi : i < s.size) (hs : s.size ≤ 1073741824) : Calls Tryz.prog 126 #[.string s, .int .i64 (i : Int)] w fun e w' => e = .returned (.int .i64 (sgnE s i : Int)) ∧ Below w.heap.size w w' := by
  obtain ⟨E, hE⟩ : ∃ E, sgnE s i = E := ⟨_, rfl⟩
  rw [hE]
  have hb := bt_get s i hi
  obtain ⟨y0, hy0⟩ : ∃ y, bt s i = y := ⟨_, rfl⟩
  rw [hy0] at hb
  have hiz : (i : Int) < (s.size : Int) := by omega
  have h0 : (0 : Int) ≤ (i : Int) := by omega
  have m1 : IntKind.i64.wrap ((i : Int) + 1) = (i : Int) + 1 := IntWalk.i64_in _ (by omega)
  have HSZ := Lib.hid hs
  have HI := Lib.hid hi
  have C41 := Lib.hid (fun T W => c41 T W)
  unfold sgnE at hE
  rw [hy0] at hE
  by_cases hy : y0 = 92
  case neg =>
    rw [if_neg (fun h => hy h.1)] at hE
    have e92 : (y0 == 92) = false := by simpa using hy
    have HE := Lib.hid hE
    clear hE hy hy0 hs
    go_enter Tryz.func126, Tryz.ntmps126
    go_wp2
    go_loopw [6] (fun s6 wr => ∃ n : Nat, n ≤ 3 ∧ s6 = .int .i64 (n : Int) ∧ sgE s i n = E ∧ Below w.heap.size w wr) (fun s6 _ => (intOf s6).toNat)
    case atStart => exact ⟨3, Nat.le_refl _, rfl, HE.out, Below.refl _ _⟩
    case round =>
      obtain ⟨n, hn, rfl, hne, hB⟩ := hrel
      have HB := Lib.hid hB
      clear hB
      rcases n with _ | n
      · have hEi : E = i := hne.symm
        have HEI := Lib.hid hEi
        clear hne hEi
        go_wp2
        go_ret
        exact ⟨ret_int (a := (i : Int)) (by rw [HEI.out]), HB.out⟩
      · have hI := HI.out
        have hSZ := HSZ.out
        have c1 : ((n + 1 : Nat) : Int) = (n : Int) + 1 := by omega
        rw [c1]
        have p0 : (0 : Int) < (n : Int) + 1 := by omega
        have p1 : IntKind.i64.wrap ((i : Int) + ((n : Int) + 1)) = (i : Int) + ((n : Int) + 1) := IntWalk.i64_in _ (by omega)
        have p2 : IntKind.i64.wrap ((n : Int) + 1 - 1) = (n : Int) := by rw [show (n : Int) + 1 - 1 = (n : Int) by omega]; exact IntWalk.i64_in _ (by omega)
        simp only [sgE] at hne
        by_cases hsz : i + (n + 1) ≤ s.size
        case neg =>
          rw [if_neg (fun h => hsz h.1)] at hne
          have r1 : (s.size : Int) < (i : Int) + ((n : Int) + 1) := by omega
          have HNE := Lib.hid hne
          have HN3 := Lib.hid hn
          clear hne c1 hsz
          go_wp2
          go_roundw
          case rel => exact ⟨n, by have := HN3.out; omega, by go_num, HNE.out, HB.out⟩
          case measure => simp [intOf]
        have r1 : ¬ ((s.size : Int) < (i : Int) + ((n : Int) + 1)) := by omega
        have r2 : (i : Int) ≤ (i : Int) + ((n : Int) + 1) := by omega
        have r3 : (i : Int) + ((n : Int) + 1) ≤ (s.size : Int) := by omega
        have r4 : (0 : Int) ≤ (i : Int) + ((n : Int) + 1) := by omega
        have r5 : ((i : Int) + ((n : Int) + 1)).toNat = i + (n + 1) := by omega
        obtain ⟨T, hT⟩ : ∃ T, s.extract i (i + (n + 1)) = T := ⟨_, rfl⟩
        have hTs : T.size = n + 1 := by rw [← hT, size_ext _ _ _ hsz]; omega
        have hTb : ∀ k, k < n + 1 → bt T k = bt s (i + k) := fun k hk => by rw [← hT]; exact bt_ext s i (i + (n + 1)) k (by omega) hsz
        obtain ⟨V, hV⟩ : ∃ V, (canonOf T).getD ByteArray.empty = V := ⟨_, rfl⟩
        have C4T : Hid (∀ W, Calls Tryz.prog 41 #[.string T] W fun e w' => e = .returned (.string V) ∧ Below W.heap.size W w') := Lib.hid (fun W => by rw [← hV]; exact c41 T W)
        obtain ⟨b, hb9⟩ : ∃ b, (V.toList == []) = b := ⟨_, rfl⟩
        have hcb : cnE T = b := by unfold cnE; rw [hV]; exact hb9
        rw [hT, hcb] at hne
        have HTT := Lib.hid hT
        have HTS := Lib.hid hTs
        have HTB := Lib.hid hTb
        have HSL := Lib.hid hsz
        have HNE := Lib.hid hne
        have HN3 := Lib.hid hn
        have hTz : (T.size : Int) = (n : Int) + 1 := by rw [hTs]; omega
        clear hne c1 hsz hV hcb hTs hTb
        go_wp2
        go_loopw [8, 9] (fun s8 s9 wq => ∃ k : Nat, k ≤ n + 1 ∧ s8 = .bool (plA s i k) ∧ s9 = .int .i64 (k : Int) ∧ wq = wr) (fun _ s9 _ => n + 1 - (intOf s9).toNat)
        case atStart => exact ⟨0, Nat.zero_le _, rfl, rfl, rfl⟩
        case round =>
          obtain ⟨k, hk, rfl, rfl, rfl⟩ := hrel
          by_cases hkn : k < n + 1
          · have u1 : (k : Int) < (n : Int) + 1 := by omega
            have u0 : (0 : Int) ≤ (k : Int) := by omega
            have hkT : k < T.size := by have := HTS.out; omega
            have hbk := bt_get T k hkT
            have hbe := HTB.out k hkn
            obtain ⟨y, hy⟩ : ∃ y, bt s (i + k) = y := ⟨_, rfl⟩
            rw [hbe, hy] at hbk
            have C8k := Lib.hid (fun W => c118 y W)
            have hps : plA s i (k + 1) = (plA s i k && !ltr y) := by rw [← hy]; rfl
            have HPS := Lib.hid hps
            have HKN := Lib.hid hkn
            obtain ⟨pb, hpb⟩ : ∃ pb, plA s i k = pb := ⟨_, rfl⟩
            obtain ⟨lb, hlb⟩ : ∃ lb, ltr y = lb := ⟨_, rfl⟩
            rw [hpb, hlb] at HPS
            rw [hpb]
            rw [hlb] at C8k
            clear hbe hy hps hkn hpb hlb
            rcases pb with _ | _
            · go_wp2
              go_roundw
              case rel => exact ⟨k + 1, HKN.out, by rw [HPS.out]; rfl, by go_num, by first | rfl | trivial⟩
              case measure => have := HKN.out; simp [intOf]; omega
            · rcases lb with _ | _
              all_goals
                go_wp2_with (go_at_call 118; ((with_reducible refine (C8k.out _).mono ?_); rintro e w' ⟨rfl, rfl⟩))
                go_roundw
                case rel => exact ⟨k + 1, HKN.out, by rw [HPS.out]; rfl, by go_num, by first | rfl | trivial⟩
                case measure => have := HKN.out; simp [intOf]; omega
          · have u1 : ¬ ((k : Int) < (n : Int) + 1) := by omega
            have hke : k = n + 1 := by omega
            rw [hke] at u1 ⊢
            have hne := HNE.out
            obtain ⟨pb, hpb⟩ : ∃ pb, plA s i (n + 1) = pb := ⟨_, rfl⟩
            rw [hpb] at hne ⊢
            have c1 : ((n + 1 : Nat) : Int) = (n : Int) + 1 := by omega
            rw [c1] at u1 ⊢
            rcases pb with _ | _
            · rw [if_neg (fun h => by cases h.2.1)] at hne
              have HNF := Lib.hid hne
              clear hne hke hpb c1 hkn hk
              go_wp2
              go_roundw
              case rel => exact ⟨n, by have := HN3.out; omega, by go_num, HNF.out, HB.out⟩
              case measure => simp [intOf]
            · rcases b with _ | _
              · rw [if_pos ⟨HSL.out, rfl, rfl⟩] at hne
                have HNF := Lib.hid hne
                clear hne hke hpb c1 hkn hk
                go_wp2_with (go_at_call 41; ((with_reducible refine (C4T.out _).mono ?_); rintro e w3 ⟨rfl, hb3⟩; have HB3 := Lib.hid hb3; clear hb3))
                go_ret
                exact ⟨ret_int (a := (i : Int) + ((n : Int) + 1)) (by have := HNF.out; omega), HB.out.trans (HB3.out.mono HB.out.size)⟩
              · rw [if_neg (fun h => by cases h.2.2)] at hne
                have HNF := Lib.hid hne
                clear hne hke hpb c1 hkn hk
                go_wp2_with (go_at_call 41; ((with_reducible refine (C4T.out _).mono ?_); rintro e w3 ⟨rfl, hb3⟩; have HB3 := Lib.hid hb3; clear hb3))
                go_roundw
                case rel => exact ⟨n, by have := HN3.out; omega, by go_num, HNF.out, HB.out.trans (HB3.out.mono HB.out.size)⟩
                case measure => simp [intOf]
  subst hy
  have HC := Lib.hid (cnt_lt ltr s _ (i + 1) rfl)
  have HS := Lib.hid (cnt_stop ltr s _ (i + 1) rfl)
  have HL := Lib.hid (cnt_le ltr s (i + 1))
  obtain ⟨N, hN⟩ : ∃ N, cnt ltr s (i + 1) = N := ⟨_, rfl⟩
  rw [hN] at HC HS HL hE
  have HE := Lib.hid hE
  clear hE hN hy0 hs
  go_enter Tryz.func126, Tryz.ntmps126
  go_wp2
  go_loopw [5] (fun s5 wr => ∃ j : Nat, i + 1 ≤ j ∧ j ≤ i + 1 + N ∧ s5 = .int .i64 (j : Int) ∧ wr = w) (fun s5 _ => i + 1 + N - (intOf s5).toNat)
  case atStart => exact ⟨i + 1, Nat.le_refl _, by omega, by simp, rfl⟩
  case round =>
    obtain ⟨j, hj, hjn, rfl, rfl⟩ := hrel
    have hI := HI.out
    have hSZ := HSZ.out
    have hL := HL.out
    by_cases hlt : j < i + 1 + N
    · obtain ⟨h1, h2⟩ := HC.out (j - (i + 1)) (by omega)
      rw [show i + 1 + (j - (i + 1)) = j by omega] at h1 h2
      have hjz : (j : Int) < (s.size : Int) := by omega
      have h0j : (0 : Int) ≤ (j : Int) := by omega
      have hbj := bt_get s j h1
      obtain ⟨y, hy⟩ : ∃ y, bt s j = y := ⟨_, rfl⟩
      rw [hy] at h2 hbj
      have C8 := Lib.hid (fun W => c118 y W)
      rw [h2] at C8
      have HLT := Lib.hid hlt
      clear hy h2
      go_wp2_with (go_at_call 118; ((with_reducible refine (C8.out _).mono ?_); rintro e w' ⟨rfl, rfl⟩))
      go_roundw
      case rel => exact ⟨j + 1, by omega, by have := HLT.out; omega, by go_num, by first | rfl | trivial⟩
      case measure => have := HLT.out; simp [intOf]; omega
    · have hje : j = i + 1 + N := by omega
      have hfin : ((j : Int) < (s.size : Int) ∧ ∃ y h, ((s[j]'h).toNat : Int) = y ∧ ltr y = false) ∨ ¬ ((j : Int) < (s.size : Int)) := by
        by_cases hsz : j < s.size
        · refine .inl ⟨by omega, bt s j, hsz, bt_get s j hsz, ?_⟩
          rw [hje]
          exact HS.out (by omega)
        · exact .inr (by omega)
      have h0j : (0 : Int) ≤ (j : Int) := by omega
      have HJE := Lib.hid hje
      by_cases hNp : 0 < N
      · have q1 : (i : Int) + 1 < (j : Int) := by omega
        have q2 : (i : Int) ≤ (j : Int) := by omega
        have q3 : (j : Int) ≤ (s.size : Int) := by omega
        obtain ⟨T, hT⟩ : ∃ T, s.extract i j = T := ⟨_, rfl⟩
        obtain ⟨V, hV⟩ : ∃ V, (canonOf T).getD ByteArray.empty = V := ⟨_, rfl⟩
        have C4 : Hid (∀ W, Calls Tryz.prog 41 #[.string T] W fun e w' => e = .returned (.string V) ∧ Below W.heap.size W w') := Lib.hid (fun W => by rw [← hV]; exact c41 T W)
        obtain ⟨b, hb9⟩ : ∃ b, (V.toList == []) = b := ⟨_, rfl⟩
        have hcb : cnE (s.extract i (i + 1 + N)) = b := by rw [← hje, hT]; unfold cnE; rw [hV]; exact hb9
        have HT := Lib.hid hT
        rcases b with _ | _
        · have hEE : i + 1 + N = E := by have := HE.out; rw [if_pos ⟨by first | rfl | trivial, hNp, hcb⟩] at this; exact this
          have HEE := Lib.hid hEE
          clear hje hNp hcb hV hEE hlt
          rcases hfin with ⟨r1, y, hh, hbj, hly⟩ | r1
          · have C8 := Lib.hid (fun W => c118 y W)
            rw [hly] at C8
            clear hly
            go_wp2_with (first | (go_at_call 118; ((with_reducible refine (C8.out _).mono ?_); rintro e w' ⟨rfl, rfl⟩)) | (go_at_call 41; ((with_reducible refine (C4.out _).mono ?_); rintro e w2 ⟨rfl, hb2⟩; have HB2 := Lib.hid hb2; clear hb2)))
            go_ret
            exact ⟨ret_int (a := (j : Int)) (by have := HJE.out; have := HEE.out; omega), HB2.out⟩
          · go_wp2_with (first | (go_at_call 41; ((with_reducible refine (C4.out _).mono ?_); rintro e w2 ⟨rfl, hb2⟩; have HB2 := Lib.hid hb2; clear hb2)))
            go_ret
            exact ⟨ret_int (a := (j : Int)) (by have := HJE.out; have := HEE.out; omega), HB2.out⟩
        · have hEE : sgE s i 3 = E := by have := HE.out; rw [if_neg (fun h => by rw [hcb] at h; cases h.2.2)] at this; exact this
          clear HE
          have HE := Lib.hid hEE
          clear hje hNp hcb hV hEE hlt
          rcases hfin with ⟨r1, y, hh, hbj, hly⟩ | r1
          · have C8 := Lib.hid (fun W => c118 y W)
            rw [hly] at C8
            clear hly
            go_wp2_with (first | (go_at_call 118; ((with_reducible refine (C8.out _).mono ?_); rintro e w' ⟨rfl, rfl⟩)) | (go_at_call 41; ((with_reducible refine (C4.out _).mono ?_); rintro e w2 ⟨rfl, hb2⟩; have HB2 := Lib.hid hb2; clear hb2)))
            go_loopw [6] (fun s6 wz => ∃ n : Nat, n ≤ 3 ∧ s6 = .int .i64 (n : Int) ∧ sgE s i n = E ∧ Below wr.heap.size wr wz) (fun s6 _ => (intOf s6).toNat)
            case atStart => exact ⟨3, Nat.le_refl _, rfl, HE.out, HB2.out⟩
            case round =>
              obtain ⟨n, hn, rfl, hne, hB⟩ := hrel
              have HB := Lib.hid hB
              clear hB
              rcases n with _ | n
              · have hEi : E = i := hne.symm
                have HEI := Lib.hid hEi
                clear hne hEi
                go_wp2
                go_ret
                exact ⟨ret_int (a := (i : Int)) (by rw [HEI.out]), HB.out⟩
              · have hI := HI.out
                have hSZ := HSZ.out
                have c1 : ((n + 1 : Nat) : Int) = (n : Int) + 1 := by omega
                rw [c1]
                have p0 : (0 : Int) < (n : Int) + 1 := by omega
                have p1 : IntKind.i64.wrap ((i : Int) + ((n : Int) + 1)) = (i : Int) + ((n : Int) + 1) := IntWalk.i64_in _ (by omega)
                have p2 : IntKind.i64.wrap ((n : Int) + 1 - 1) = (n : Int) := by rw [show (n : Int) + 1 - 1 = (n : Int) by omega]; exact IntWalk.i64_in _ (by omega)
                simp only [sgE] at hne
                by_cases hsz : i + (n + 1) ≤ s.size
                case neg =>
                  rw [if_neg (fun h => hsz h.1)] at hne
                  have r1 : (s.size : Int) < (i : Int) + ((n : Int) + 1) := by omega
                  have HNE := Lib.hid hne
                  have HN3 := Lib.hid hn
                  clear hne c1 hsz
                  go_wp2
                  go_roundw
                  case rel => exact ⟨n, by have := HN3.out; omega, by go_num, HNE.out, HB.out⟩
                  case measure => simp [intOf]
                have r1 : ¬ ((s.size : Int) < (i : Int) + ((n : Int) + 1)) := by omega
                have r2 : (i : Int) ≤ (i : Int) + ((n : Int) + 1) := by omega
                have r3 : (i : Int) + ((n : Int) + 1) ≤ (s.size : Int) := by omega
                have r4 : (0 : Int) ≤ (i : Int) + ((n : Int) + 1) := by omega
                have r5 : ((i : Int) + ((n : Int) + 1)).toNat = i + (n + 1) := by omega
                obtain ⟨T, hT⟩ : ∃ T, s.extract i (i + (n + 1)) = T := ⟨_, rfl⟩
                have hTs : T.size = n + 1 := by rw [← hT, size_ext _ _ _ hsz]; omega
                have hTb : ∀ k, k < n + 1 → bt T k = bt s (i + k) := fun k hk => by rw [← hT]; exact bt_ext s i (i + (n + 1)) k (by omega) hsz
                obtain ⟨V, hV⟩ : ∃ V, (canonOf T).getD ByteArray.empty = V := ⟨_, rfl⟩
                have C4T : Hid (∀ W, Calls Tryz.prog 41 #[.string T] W fun e w' => e = .returned (.string V) ∧ Below W.heap.size W w') := Lib.hid (fun W => by rw [← hV]; exact c41 T W)
                obtain ⟨b, hb9⟩ : ∃ b, (V.toList == []) = b := ⟨_, rfl⟩
                have hcb : cnE T = b := by unfold cnE; rw [hV]; exact hb9
                rw [hT, hcb] at hne
                have HTT := Lib.hid hT
                have HTS := Lib.hid hTs
                have HTB := Lib.hid hTb
                have HSL := Lib.hid hsz
                have HNE := Lib.hid hne
                have HN3 := Lib.hid hn
                have hTz : (T.size : Int) = (n : Int) + 1 := by rw [hTs]; omega
                clear hne c1 hsz hV hcb hTs hTb
                go_wp2
                go_loopw [8, 9] (fun s8 s9 wq => ∃ k : Nat, k ≤ n + 1 ∧ s8 = .bool (plA s i k) ∧ s9 = .int .i64 (k : Int) ∧ wq = wr) (fun _ s9 _ => n + 1 - (intOf s9).toNat)
                case atStart => exact ⟨0, Nat.zero_le _, rfl, rfl, rfl⟩
                case round =>
                  obtain ⟨k, hk, rfl, rfl, rfl⟩ := hrel
                  by_cases hkn : k < n + 1
                  · have u1 : (k : Int) < (n : Int) + 1 := by omega
                    have u0 : (0 : Int) ≤ (k : Int) := by omega
                    have hkT : k < T.size := by have := HTS.out; omega
                    have hbk := bt_get T k hkT
                    have hbe := HTB.out k hkn
                    obtain ⟨y, hy⟩ : ∃ y, bt s (i + k) = y := ⟨_, rfl⟩
                    rw [hbe, hy] at hbk
                    have C8k := Lib.hid (fun W => c118 y W)
                    have hps : plA s i (k + 1) = (plA s i k && !ltr y) := by rw [← hy]; rfl
                    have HPS := Lib.hid hps
                    have HKN := Lib.hid hkn
                    obtain ⟨pb, hpb⟩ : ∃ pb, plA s i k = pb := ⟨_, rfl⟩
                    obtain ⟨lb, hlb⟩ : ∃ lb, ltr y = lb := ⟨_, rfl⟩
                    rw [hpb, hlb] at HPS
                    rw [hpb]
                    rw [hlb] at C8k
                    clear hbe hy hps hkn hpb hlb
                    rcases pb with _ | _
                    · go_wp2
                      go_roundw
                      case rel => exact ⟨k + 1, HKN.out, by rw [HPS.out]; rfl, by go_num, by first | rfl | trivial⟩
                      case measure => have := HKN.out; simp [intOf]; omega
                    · rcases lb with _ | _
                      all_goals
                        go_wp2_with (go_at_call 118; ((with_reducible refine (C8k.out _).mono ?_); rintro e w' ⟨rfl, rfl⟩))
                        go_roundw
                        case rel => exact ⟨k + 1, HKN.out, by rw [HPS.out]; rfl, by go_num, by first | rfl | trivial⟩
                        case measure => have := HKN.out; simp [intOf]; omega
                  · have u1 : ¬ ((k : Int) < (n : Int) + 1) := by omega
                    have hke : k = n + 1 := by omega
                    rw [hke] at u1 ⊢
                    have hne := HNE.out
                    obtain ⟨pb, hpb⟩ : ∃ pb, plA s i (n + 1) = pb := ⟨_, rfl⟩
                    rw [hpb] at hne ⊢
                    have c1 : ((n + 1 : Nat) : Int) = (n : Int) + 1 := by omega
                    rw [c1] at u1 ⊢
                    rcases pb with _ | _
                    · rw [if_neg (fun h => by cases h.2.1)] at hne
                      have HNF := Lib.hid hne
                      clear hne hke hpb c1 hkn hk
                      go_wp2
                      go_roundw
                      case rel => exact ⟨n, by have := HN3.out; omega, by go_num, HNF.out, HB.out⟩
                      case measure => simp [intOf]
                    · rcases b with _ | _
                      · rw [if_pos ⟨HSL.out, rfl, rfl⟩] at hne
                        have HNF := Lib.hid hne
                        clear hne hke hpb c1 hkn hk
                        go_wp2_with (go_at_call 41; ((with_reducible refine (C4T.out _).mono ?_); rintro e w3 ⟨rfl, hb3⟩; have HB3 := Lib.hid hb3; clear hb3))
                        go_ret
                        exact ⟨ret_int (a := (i : Int) + ((n : Int) + 1)) (by have := HNF.out; omega), HB.out.trans (HB3.out.mono HB.out.size)⟩
                      · rw [if_neg (fun h => by cases h.2.2)] at hne
                        have HNF := Lib.hid hne
                        clear hne hke hpb c1 hkn hk
                        go_wp2_with (go_at_call 41; ((with_reducible refine (C4T.out _).mono ?_); rintro e w3 ⟨rfl, hb3⟩; have HB3 := Lib.hid hb3; clear hb3))
                        go_roundw
                        case rel => exact ⟨n, by have := HN3.out; omega, by go_num, HNF.out, HB.out.trans (HB3.out.mono HB.out.size)⟩
                        case measure => simp [intOf]
          · go_wp2_with (first | (go_at_call 41; ((with_reducible refine (C4.out _).mono ?_); rintro e w2 ⟨rfl, hb2⟩; have HB2 := Lib.hid hb2; clear hb2)))
            go_loopw [6] (fun s6 wz => ∃ n : Nat, n ≤ 3 ∧ s6 = .int .i64 (n : Int) ∧ sgE s i n = E ∧ Below wr.heap.size wr wz) (fun s6 _ => (intOf s6).toNat)
            case atStart => exact ⟨3, Nat.le_refl _, rfl, HE.out, HB2.out⟩
            case round =>
              obtain ⟨n, hn, rfl, hne, hB⟩ := hrel
              have HB := Lib.hid hB
              clear hB
              rcases n with _ | n
              · have hEi : E = i := hne.symm
                have HEI := Lib.hid hEi
                clear hne hEi
                go_wp2
                go_ret
                exact ⟨ret_int (a := (i : Int)) (by rw [HEI.out]), HB.out⟩
              · have hI := HI.out
                have hSZ := HSZ.out
                have c1 : ((n + 1 : Nat) : Int) = (n : Int) + 1 := by omega
                rw [c1]
                have p0 : (0 : Int) < (n : Int) + 1 := by omega
                have p1 : IntKind.i64.wrap ((i : Int) + ((n : Int) + 1)) = (i : Int) + ((n : Int) + 1) := IntWalk.i64_in _ (by omega)
                have p2 : IntKind.i64.wrap ((n : Int) + 1 - 1) = (n : Int) := by rw [show (n : Int) + 1 - 1 = (n : Int) by omega]; exact IntWalk.i64_in _ (by omega)
                simp only [sgE] at hne
                by_cases hsz : i + (n + 1) ≤ s.size
                case neg =>
                  rw [if_neg (fun h => hsz h.1)] at hne
                  have r1 : (s.size : Int) < (i : Int) + ((n : Int) + 1) := by omega
                  have HNE := Lib.hid hne
                  have HN3 := Lib.hid hn
                  clear hne c1 hsz
                  go_wp2
                  go_roundw
                  case rel => exact ⟨n, by have := HN3.out; omega, by go_num, HNE.out, HB.out⟩
                  case measure => simp [intOf]
                have r1 : ¬ ((s.size : Int) < (i : Int) + ((n : Int) + 1)) := by omega
                have r2 : (i : Int) ≤ (i : Int) + ((n : Int) + 1) := by omega
                have r3 : (i : Int) + ((n : Int) + 1) ≤ (s.size : Int) := by omega
                have r4 : (0 : Int) ≤ (i : Int) + ((n : Int) + 1) := by omega
                have r5 : ((i : Int) + ((n : Int) + 1)).toNat = i + (n + 1) := by omega
                obtain ⟨T, hT⟩ : ∃ T, s.extract i (i + (n + 1)) = T := ⟨_, rfl⟩
                have hTs : T.size = n + 1 := by rw [← hT, size_ext _ _ _ hsz]; omega
                have hTb : ∀ k, k < n + 1 → bt T k = bt s (i + k) := fun k hk => by rw [← hT]; exact bt_ext s i (i + (n + 1)) k (by omega) hsz
                obtain ⟨V, hV⟩ : ∃ V, (canonOf T).getD ByteArray.empty = V := ⟨_, rfl⟩
                have C4T : Hid (∀ W, Calls Tryz.prog 41 #[.string T] W fun e w' => e = .returned (.string V) ∧ Below W.heap.size W w') := Lib.hid (fun W => by rw [← hV]; exact c41 T W)
                obtain ⟨b, hb9⟩ : ∃ b, (V.toList == []) = b := ⟨_, rfl⟩
                have hcb : cnE T = b := by unfold cnE; rw [hV]; exact hb9
                rw [hT, hcb] at hne
                have HTT := Lib.hid hT
                have HTS := Lib.hid hTs
                have HTB := Lib.hid hTb
                have HSL := Lib.hid hsz
                have HNE := Lib.hid hne
                have HN3 := Lib.hid hn
                have hTz : (T.size : Int) = (n : Int) + 1 := by rw [hTs]; omega
                clear hne c1 hsz hV hcb hTs hTb
                go_wp2
                go_loopw [8, 9] (fun s8 s9 wq => ∃ k : Nat, k ≤ n + 1 ∧ s8 = .bool (plA s i k) ∧ s9 = .int .i64 (k : Int) ∧ wq = wr) (fun _ s9 _ => n + 1 - (intOf s9).toNat)
                case atStart => exact ⟨0, Nat.zero_le _, rfl, rfl, rfl⟩
                case round =>
                  obtain ⟨k, hk, rfl, rfl, rfl⟩ := hrel
                  by_cases hkn : k < n + 1
                  · have u1 : (k : Int) < (n : Int) + 1 := by omega
                    have u0 : (0 : Int) ≤ (k : Int) := by omega
                    have hkT : k < T.size := by have := HTS.out; omega
                    have hbk := bt_get T k hkT
                    have hbe := HTB.out k hkn
                    obtain ⟨y, hy⟩ : ∃ y, bt s (i + k) = y := ⟨_, rfl⟩
                    rw [hbe, hy] at hbk
                    have C8k := Lib.hid (fun W => c118 y W)
                    have hps : plA s i (k + 1) = (plA s i k && !ltr y) := by rw [← hy]; rfl
                    have HPS := Lib.hid hps
                    have HKN := Lib.hid hkn
                    obtain ⟨pb, hpb⟩ : ∃ pb, plA s i k = pb := ⟨_, rfl⟩
                    obtain ⟨lb, hlb⟩ : ∃ lb, ltr y = lb := ⟨_, rfl⟩
                    rw [hpb, hlb] at HPS
                    rw [hpb]
                    rw [hlb] at C8k
                    clear hbe hy hps hkn hpb hlb
                    rcases pb with _ | _
                    · go_wp2
                      go_roundw
                      case rel => exact ⟨k + 1, HKN.out, by rw [HPS.out]; rfl, by go_num, by first | rfl | trivial⟩
                      case measure => have := HKN.out; simp [intOf]; omega
                    · rcases lb with _ | _
                      all_goals
                        go_wp2_with (go_at_call 118; ((with_reducible refine (C8k.out _).mono ?_); rintro e w' ⟨rfl, rfl⟩))
                        go_roundw
                        case rel => exact ⟨k + 1, HKN.out, by rw [HPS.out]; rfl, by go_num, by first | rfl | trivial⟩
                        case measure => have := HKN.out; simp [intOf]; omega
                  · have u1 : ¬ ((k : Int) < (n : Int) + 1) := by omega
                    have hke : k = n + 1 := by omega
                    rw [hke] at u1 ⊢
                    have hne := HNE.out
                    obtain ⟨pb, hpb⟩ : ∃ pb, plA s i (n + 1) = pb := ⟨_, rfl⟩
                    rw [hpb] at hne ⊢
                    have c1 : ((n + 1 : Nat) : Int) = (n : Int) + 1 := by omega
                    rw [c1] at u1 ⊢
                    rcases pb with _ | _
                    · rw [if_neg (fun h => by cases h.2.1)] at hne
                      have HNF := Lib.hid hne
                      clear hne hke hpb c1 hkn hk
                      go_wp2
                      go_roundw
                      case rel => exact ⟨n, by have := HN3.out; omega, by go_num, HNF.out, HB.out⟩
                      case measure => simp [intOf]
                    · rcases b with _ | _
                      · rw [if_pos ⟨HSL.out, rfl, rfl⟩] at hne
                        have HNF := Lib.hid hne
                        clear hne hke hpb c1 hkn hk
                        go_wp2_with (go_at_call 41; ((with_reducible refine (C4T.out _).mono ?_); rintro e w3 ⟨rfl, hb3⟩; have HB3 := Lib.hid hb3; clear hb3))
                        go_ret
                        exact ⟨ret_int (a := (i : Int) + ((n : Int) + 1)) (by have := HNF.out; omega), HB.out.trans (HB3.out.mono HB.out.size)⟩
                      · rw [if_neg (fun h => by cases h.2.2)] at hne
                        have HNF := Lib.hid hne
                        clear hne hke hpb c1 hkn hk
                        go_wp2_with (go_at_call 41; ((with_reducible refine (C4T.out _).mono ?_); rintro e w3 ⟨rfl, hb3⟩; have HB3 := Lib.hid hb3; clear hb3))
                        go_roundw
                        case rel => exact ⟨n, by have := HN3.out; omega, by go_num, HNF.out, HB.out.trans (HB3.out.mono HB.out.size)⟩
                        case measure => simp [intOf]
      · have q1 : ¬ ((i : Int) + 1 < (j : Int)) := by omega
        have hEE : sgE s i 3 = E := by have := HE.out; rw [if_neg (fun h => hNp h.2.1)] at this; exact this
        clear HE
        have HE := Lib.hid hEE
        clear hje hNp hEE hlt
        rcases hfin with ⟨r1, y, hh, hbj, hly⟩ | r1
        · have C8 := Lib.hid (fun W => c118 y W)
          rw [hly] at C8
          clear hly
          go_wp2_with (first | (go_at_call 118; ((with_reducible refine (C8.out _).mono ?_); rintro e w' ⟨rfl, rfl⟩)))
          go_loopw [6] (fun s6 wz => ∃ n : Nat, n ≤ 3 ∧ s6 = .int .i64 (n : Int) ∧ sgE s i n = E ∧ Below wr.heap.size wr wz) (fun s6 _ => (intOf s6).toNat)
          case atStart => exact ⟨3, Nat.le_refl _, rfl, HE.out, Below.refl _ _⟩
          case round =>
            obtain ⟨n, hn, rfl, hne, hB⟩ := hrel
            have HB := Lib.hid hB
            clear hB
            rcases n with _ | n
            · have hEi : E = i := hne.symm
              have HEI := Lib.hid hEi
              clear hne hEi
              go_wp2
              go_ret
              exact ⟨ret_int (a := (i : Int)) (by rw [HEI.out]), HB.out⟩
            · have hI := HI.out
              have hSZ := HSZ.out
              have c1 : ((n + 1 : Nat) : Int) = (n : Int) + 1 := by omega
              rw [c1]
              have p0 : (0 : Int) < (n : Int) + 1 := by omega
              have p1 : IntKind.i64.wrap ((i : Int) + ((n : Int) + 1)) = (i : Int) + ((n : Int) + 1) := IntWalk.i64_in _ (by omega)
              have p2 : IntKind.i64.wrap ((n : Int) + 1 - 1) = (n : Int) := by rw [show (n : Int) + 1 - 1 = (n : Int) by omega]; exact IntWalk.i64_in _ (by omega)
              simp only [sgE] at hne
              by_cases hsz : i + (n + 1) ≤ s.size
              case neg =>
                rw [if_neg (fun h => hsz h.1)] at hne
                have r1 : (s.size : Int) < (i : Int) + ((n : Int) + 1) := by omega
                have HNE := Lib.hid hne
                have HN3 := Lib.hid hn
                clear hne c1 hsz
                go_wp2
                go_roundw
                case rel => exact ⟨n, by have := HN3.out; omega, by go_num, HNE.out, HB.out⟩
                case measure => simp [intOf]
              have r1 : ¬ ((s.size : Int) < (i : Int) + ((n : Int) + 1)) := by omega
              have r2 : (i : Int) ≤ (i : Int) + ((n : Int) + 1) := by omega
              have r3 : (i : Int) + ((n : Int) + 1) ≤ (s.size : Int) := by omega
              have r4 : (0 : Int) ≤ (i : Int) + ((n : Int) + 1) := by omega
              have r5 : ((i : Int) + ((n : Int) + 1)).toNat = i + (n + 1) := by omega
              obtain ⟨T, hT⟩ : ∃ T, s.extract i (i + (n + 1)) = T := ⟨_, rfl⟩
              have hTs : T.size = n + 1 := by rw [← hT, size_ext _ _ _ hsz]; omega
              have hTb : ∀ k, k < n + 1 → bt T k = bt s (i + k) := fun k hk => by rw [← hT]; exact bt_ext s i (i + (n + 1)) k (by omega) hsz
              obtain ⟨V, hV⟩ : ∃ V, (canonOf T).getD ByteArray.empty = V := ⟨_, rfl⟩
              have C4T : Hid (∀ W, Calls Tryz.prog 41 #[.string T] W fun e w' => e = .returned (.string V) ∧ Below W.heap.size W w') := Lib.hid (fun W => by rw [← hV]; exact c41 T W)
              obtain ⟨b, hb9⟩ : ∃ b, (V.toList == []) = b := ⟨_, rfl⟩
              have hcb : cnE T = b := by unfold cnE; rw [hV]; exact hb9
              rw [hT, hcb] at hne
              have HTT := Lib.hid hT
              have HTS := Lib.hid hTs
              have HTB := Lib.hid hTb
              have HSL := Lib.hid hsz
              have HNE := Lib.hid hne
              have HN3 := Lib.hid hn
              have hTz : (T.size : Int) = (n : Int) + 1 := by rw [hTs]; omega
              clear hne c1 hsz hV hcb hTs hTb
              go_wp2
              go_loopw [8, 9] (fun s8 s9 wq => ∃ k : Nat, k ≤ n + 1 ∧ s8 = .bool (plA s i k) ∧ s9 = .int .i64 (k : Int) ∧ wq = wr) (fun _ s9 _ => n + 1 - (intOf s9).toNat)
              case atStart => exact ⟨0, Nat.zero_le _, rfl, rfl, rfl⟩
              case round =>
                obtain ⟨k, hk, rfl, rfl, rfl⟩ := hrel
                by_cases hkn : k < n + 1
                · have u1 : (k : Int) < (n : Int) + 1 := by omega
                  have u0 : (0 : Int) ≤ (k : Int) := by omega
                  have hkT : k < T.size := by have := HTS.out; omega
                  have hbk := bt_get T k hkT
                  have hbe := HTB.out k hkn
                  obtain ⟨y, hy⟩ : ∃ y, bt s (i + k) = y := ⟨_, rfl⟩
                  rw [hbe, hy] at hbk
                  have C8k := Lib.hid (fun W => c118 y W)
                  have hps : plA s i (k + 1) = (plA s i k && !ltr y) := by rw [← hy]; rfl
                  have HPS := Lib.hid hps
                  have HKN := Lib.hid hkn
                  obtain ⟨pb, hpb⟩ : ∃ pb, plA s i k = pb := ⟨_, rfl⟩
                  obtain ⟨lb, hlb⟩ : ∃ lb, ltr y = lb := ⟨_, rfl⟩
                  rw [hpb, hlb] at HPS
                  rw [hpb]
                  rw [hlb] at C8k
                  clear hbe hy hps hkn hpb hlb
                  rcases pb with _ | _
                  · go_wp2
                    go_roundw
                    case rel => exact ⟨k + 1, HKN.out, by rw [HPS.out]; rfl, by go_num, by first | rfl | trivial⟩
                    case measure => have := HKN.out; simp [intOf]; omega
                  · rcases lb with _ | _
                    all_goals
                      go_wp2_with (go_at_call 118; ((with_reducible refine (C8k.out _).mono ?_); rintro e w' ⟨rfl, rfl⟩))
                      go_roundw
                      case rel => exact ⟨k + 1, HKN.out, by rw [HPS.out]; rfl, by go_num, by first | rfl | trivial⟩
                      case measure => have := HKN.out; simp [intOf]; omega
                · have u1 : ¬ ((k : Int) < (n : Int) + 1) := by omega
                  have hke : k = n + 1 := by omega
                  rw [hke] at u1 ⊢
                  have hne := HNE.out
                  obtain ⟨pb, hpb⟩ : ∃ pb, plA s i (n + 1) = pb := ⟨_, rfl⟩
                  rw [hpb] at hne ⊢
                  have c1 : ((n + 1 : Nat) : Int) = (n : Int) + 1 := by omega
                  rw [c1] at u1 ⊢
                  rcases pb with _ | _
                  · rw [if_neg (fun h => by cases h.2.1)] at hne
                    have HNF := Lib.hid hne
                    clear hne hke hpb c1 hkn hk
                    go_wp2
                    go_roundw
                    case rel => exact ⟨n, by have := HN3.out; omega, by go_num, HNF.out, HB.out⟩
                    case measure => simp [intOf]
                  · rcases b with _ | _
                    · rw [if_pos ⟨HSL.out, rfl, rfl⟩] at hne
                      have HNF := Lib.hid hne
                      clear hne hke hpb c1 hkn hk
                      go_wp2_with (go_at_call 41; ((with_reducible refine (C4T.out _).mono ?_); rintro e w3 ⟨rfl, hb3⟩; have HB3 := Lib.hid hb3; clear hb3))
                      go_ret
                      exact ⟨ret_int (a := (i : Int) + ((n : Int) + 1)) (by have := HNF.out; omega), HB.out.trans (HB3.out.mono HB.out.size)⟩
                    · rw [if_neg (fun h => by cases h.2.2)] at hne
                      have HNF := Lib.hid hne
                      clear hne hke hpb c1 hkn hk
                      go_wp2_with (go_at_call 41; ((with_reducible refine (C4T.out _).mono ?_); rintro e w3 ⟨rfl, hb3⟩; have HB3 := Lib.hid hb3; clear hb3))
                      go_roundw
                      case rel => exact ⟨n, by have := HN3.out; omega, by go_num, HNF.out, HB.out.trans (HB3.out.mono HB.out.size)⟩
                      case measure => simp [intOf]
        · go_wp2
          go_loopw [6] (fun s6 wz => ∃ n : Nat, n ≤ 3 ∧ s6 = .int .i64 (n : Int) ∧ sgE s i n = E ∧ Below wr.heap.size wr wz) (fun s6 _ => (intOf s6).toNat)
          case atStart => exact ⟨3, Nat.le_refl _, rfl, HE.out, Below.refl _ _⟩
          case round =>
            obtain ⟨n, hn, rfl, hne, hB⟩ := hrel
            have HB := Lib.hid hB
            clear hB
            rcases n with _ | n
            · have hEi : E = i := hne.symm
              have HEI := Lib.hid hEi
              clear hne hEi
              go_wp2
              go_ret
              exact ⟨ret_int (a := (i : Int)) (by rw [HEI.out]), HB.out⟩
            · have hI := HI.out
              have hSZ := HSZ.out
              have c1 : ((n + 1 : Nat) : Int) = (n : Int) + 1 := by omega
              rw [c1]
              have p0 : (0 : Int) < (n : Int) + 1 := by omega
              have p1 : IntKind.i64.wrap ((i : Int) + ((n : Int) + 1)) = (i : Int) + ((n : Int) + 1) := IntWalk.i64_in _ (by omega)
              have p2 : IntKind.i64.wrap ((n : Int) + 1 - 1) = (n : Int) := by rw [show (n : Int) + 1 - 1 = (n : Int) by omega]; exact IntWalk.i64_in _ (by omega)
              simp only [sgE] at hne
              by_cases hsz : i + (n + 1) ≤ s.size
              case neg =>
                rw [if_neg (fun h => hsz h.1)] at hne
                have r1 : (s.size : Int) < (i : Int) + ((n : Int) + 1) := by omega
                have HNE := Lib.hid hne
                have HN3 := Lib.hid hn
                clear hne c1 hsz
                go_wp2
                go_roundw
                case rel => exact ⟨n, by have := HN3.out; omega, by go_num, HNE.out, HB.out⟩
                case measure => simp [intOf]
              have r1 : ¬ ((s.size : Int) < (i : Int) + ((n : Int) + 1)) := by omega
              have r2 : (i : Int) ≤ (i : Int) + ((n : Int) + 1) := by omega
              have r3 : (i : Int) + ((n : Int) + 1) ≤ (s.size : Int) := by omega
              have r4 : (0 : Int) ≤ (i : Int) + ((n : Int) + 1) := by omega
              have r5 : ((i : Int) + ((n : Int) + 1)).toNat = i + (n + 1) := by omega
              obtain ⟨T, hT⟩ : ∃ T, s.extract i (i + (n + 1)) = T := ⟨_, rfl⟩
              have hTs : T.size = n + 1 := by rw [← hT, size_ext _ _ _ hsz]; omega
              have hTb : ∀ k, k < n + 1 → bt T k = bt s (i + k) := fun k hk => by rw [← hT]; exact bt_ext s i (i + (n + 1)) k (by omega) hsz
              obtain ⟨V, hV⟩ : ∃ V, (canonOf T).getD ByteArray.empty = V := ⟨_, rfl⟩
              have C4T : Hid (∀ W, Calls Tryz.prog 41 #[.string T] W fun e w' => e = .returned (.string V) ∧ Below W.heap.size W w') := Lib.hid (fun W => by rw [← hV]; exact c41 T W)
              obtain ⟨b, hb9⟩ : ∃ b, (V.toList == []) = b := ⟨_, rfl⟩
              have hcb : cnE T = b := by unfold cnE; rw [hV]; exact hb9
              rw [hT, hcb] at hne
              have HTT := Lib.hid hT
              have HTS := Lib.hid hTs
              have HTB := Lib.hid hTb
              have HSL := Lib.hid hsz
              have HNE := Lib.hid hne
              have HN3 := Lib.hid hn
              have hTz : (T.size : Int) = (n : Int) + 1 := by rw [hTs]; omega
              clear hne c1 hsz hV hcb hTs hTb
              go_wp2
              go_loopw [8, 9] (fun s8 s9 wq => ∃ k : Nat, k ≤ n + 1 ∧ s8 = .bool (plA s i k) ∧ s9 = .int .i64 (k : Int) ∧ wq = wr) (fun _ s9 _ => n + 1 - (intOf s9).toNat)
              case atStart => exact ⟨0, Nat.zero_le _, rfl, rfl, rfl⟩
              case round =>
                obtain ⟨k, hk, rfl, rfl, rfl⟩ := hrel
                by_cases hkn : k < n + 1
                · have u1 : (k : Int) < (n : Int) + 1 := by omega
                  have u0 : (0 : Int) ≤ (k : Int) := by omega
                  have hkT : k < T.size := by have := HTS.out; omega
                  have hbk := bt_get T k hkT
                  have hbe := HTB.out k hkn
                  obtain ⟨y, hy⟩ : ∃ y, bt s (i + k) = y := ⟨_, rfl⟩
                  rw [hbe, hy] at hbk
                  have C8k := Lib.hid (fun W => c118 y W)
                  have hps : plA s i (k + 1) = (plA s i k && !ltr y) := by rw [← hy]; rfl
                  have HPS := Lib.hid hps
                  have HKN := Lib.hid hkn
                  obtain ⟨pb, hpb⟩ : ∃ pb, plA s i k = pb := ⟨_, rfl⟩
                  obtain ⟨lb, hlb⟩ : ∃ lb, ltr y = lb := ⟨_, rfl⟩
                  rw [hpb, hlb] at HPS
                  rw [hpb]
                  rw [hlb] at C8k
                  clear hbe hy hps hkn hpb hlb
                  rcases pb with _ | _
                  · go_wp2
                    go_roundw
                    case rel => exact ⟨k + 1, HKN.out, by rw [HPS.out]; rfl, by go_num, by first | rfl | trivial⟩
                    case measure => have := HKN.out; simp [intOf]; omega
                  · rcases lb with _ | _
                    all_goals
                      go_wp2_with (go_at_call 118; ((with_reducible refine (C8k.out _).mono ?_); rintro e w' ⟨rfl, rfl⟩))
                      go_roundw
                      case rel => exact ⟨k + 1, HKN.out, by rw [HPS.out]; rfl, by go_num, by first | rfl | trivial⟩
                      case measure => have := HKN.out; simp [intOf]; omega
                · have u1 : ¬ ((k : Int) < (n : Int) + 1) := by omega
                  have hke : k = n + 1 := by omega
                  rw [hke] at u1 ⊢
                  have hne := HNE.out
                  obtain ⟨pb, hpb⟩ : ∃ pb, plA s i (n + 1) = pb := ⟨_, rfl⟩
                  rw [hpb] at hne ⊢
                  have c1 : ((n + 1 : Nat) : Int) = (n : Int) + 1 := by omega
                  rw [c1] at u1 ⊢
                  rcases pb with _ | _
                  · rw [if_neg (fun h => by cases h.2.1)] at hne
                    have HNF := Lib.hid hne
                    clear hne hke hpb c1 hkn hk
                    go_wp2
                    go_roundw
                    case rel => exact ⟨n, by have := HN3.out; omega, by go_num, HNF.out, HB.out⟩
                    case measure => simp [intOf]
                  · rcases b with _ | _
                    · rw [if_pos ⟨HSL.out, rfl, rfl⟩] at hne
                      have HNF := Lib.hid hne
                      clear hne hke hpb c1 hkn hk
                      go_wp2_with (go_at_call 41; ((with_reducible refine (C4T.out _).mono ?_); rintro e w3 ⟨rfl, hb3⟩; have HB3 := Lib.hid hb3; clear hb3))
                      go_ret
                      exact ⟨ret_int (a := (i : Int) + ((n : Int) + 1)) (by have := HNF.out; omega), HB.out.trans (HB3.out.mono HB.out.size)⟩
                    · rw [if_neg (fun h => by cases h.2.2)] at hne
                      have HNF := Lib.hid hne
                      clear hne hke hpb c1 hkn hk
                      go_wp2_with (go_at_call 41; ((with_reducible refine (C4T.out _).mono ?_); rintro e w3 ⟨rfl, hb3⟩; have HB3 := Lib.hid hb3; clear hb3))
                      go_roundw
                      case rel => exact ⟨n, by have := HN3.out; omega, by go_num, HNF.out, HB.out.trans (HB3.out.mono HB.out.size)⟩
                      case measure => simp [intOf]
end Go.Proofs.YtagcfgoofiibfaaGreatDoor
set_option linter.unusedVariables false
namespace Go.Proofs.YtagcfgoofiibfaaGreatDoor
open Go Go.RowKit

/-! The reference's reader of a token says what the program's does. -/
theorem rnb_lt {b : Int} (h : rnb b = true) : 0 ≤ b ∧ b < 128 := by
  unfold rnb ltr dgt at h
  simp only [Bool.or_eq_true, Bool.and_eq_true, decide_eq_true_eq] at h
  omega
theorem letdFrom {W : ByteArray} (ha : ∀ k, k < W.size → bt W k < 128) : ∀ (f pos : Nat), W.size - pos ≤ f → (0 ≤ Lib.idxFuncFrom (fun r => ltr (r : Int)) true W f pos ↔ ∃ j, pos ≤ j ∧ j < W.size ∧ ltr (bt W j) = true)
  | 0, pos, hf => by
    constructor
    · intro h; simp only [Lib.idxFuncFrom] at h; exact absurd h (by decide)
    · rintro ⟨j, h1, h2, _⟩; omega
  | f + 1, pos, hf => by
    simp only [Lib.idxFuncFrom]
    by_cases hp : pos < W.size
    · rw [if_pos hp]
      have hb := bt_get W pos hp
      have hd := decode_ascii W pos hp (by have := ha pos hp; omega)
      rw [hd]
      simp only []
      rw [hb]
      by_cases hl : ltr (bt W pos) = true
      · rw [if_pos hl]
        exact ⟨fun _ => ⟨pos, Nat.le_refl _, hp, hl⟩, fun _ => by omega⟩
      · rw [if_neg hl, letdFrom ha f (pos + 1) (by omega)]
        constructor
        · rintro ⟨j, h1, h2, h3⟩; exact ⟨j, by omega, h2, h3⟩
        · rintro ⟨j, h1, h2, h3⟩
          refine ⟨j, ?_, h2, h3⟩
          rcases Nat.lt_or_ge pos j with q | q
          · exact q
          · have : j = pos := by omega
            rw [this] at h3; exact absurd h3 hl
    · rw [if_neg hp]
      constructor
      · intro h; exact absurd h (by decide)
      · rintro ⟨j, h1, h2, _⟩; omega
theorem any_bt (W : ByteArray) (p : Int → Bool) : (W.data.toList.any fun b => p (b.toNat : Int)) = true ↔ ∃ j, j < W.size ∧ p (bt W j) = true := by
  rw [List.any_eq_true]
  constructor
  · rintro ⟨x, hx, hp⟩
    obtain ⟨j, hj, rfl⟩ := List.mem_iff_getElem.1 hx
    have hj' : j < W.size := by rw [Array.length_toList] at hj; exact hj
    refine ⟨j, hj', ?_⟩
    have : bt W j = ((W.data.toList[j]).toNat : Int) := by
      unfold bt; rw [List.getD_eq_getElem?_getD, List.getElem?_eq_getElem hj]; rfl
    rw [this]; exact hp
  · rintro ⟨j, hj, hp⟩
    have hj' : j < W.data.toList.length := by rw [Array.length_toList]; exact hj
    refine ⟨W.data.toList[j], List.getElem_mem _, ?_⟩
    have : bt W j = ((W.data.toList[j]).toNat : Int) := by
      unfold bt; rw [List.getD_eq_getElem?_getD, List.getElem?_eq_getElem hj']; rfl
    rw [this] at hp; exact hp
theorem all_bt (W : ByteArray) (p : Int → Bool) : (W.data.toList.all fun b => p (b.toNat : Int)) = true ↔ ∀ j, j < W.size → p (bt W j) = true := by
  have h := any_bt W (fun b => !p b)
  constructor
  · intro ha j hj
    rcases hp : p (bt W j) with _ | _
    · have := h.2 ⟨j, hj, by simp [hp]⟩
      rw [List.all_eq_true] at ha
      obtain ⟨x, hx, hq⟩ := List.any_eq_true.1 this
      have := ha x hx
      simp [this] at hq
    · rfl
  · intro ha
    rw [List.all_eq_true]
    intro x hx
    rcases hp : p (x.toNat : Int) with _ | _
    · obtain ⟨j, hj, hq⟩ := h.1 (List.any_eq_true.2 ⟨x, hx, by simp [hp]⟩)
      simp [ha j hj] at hq
    · rfl
theorem letd_ltA {W : ByteArray} (ha : ∀ k, k < W.size → bt W k < 128) : letd W = ltA W := by
  unfold letd ltA
  have h := letdFrom ha W.size 0 (by omega)
  have h2 := any_bt W ltr
  rcases hq : (W.data.toList.any fun b => ltr (b.toNat : Int)) with _ | _
  · rw [decide_eq_false]
    intro hc
    obtain ⟨j, _, hj, hp⟩ := h.1 hc
    rw [h2.2 ⟨j, hj, hp⟩] at hq; cases hq
  · rw [decide_eq_true]
    obtain ⟨j, hj, hp⟩ := h2.1 hq
    exact h.2 ⟨j, Nat.zero_le _, hj, hp⟩
/-- a token moved -/
def shf (i : Nat) : Except Int Tk → Except Int Tk
  | .ok p => .ok { p with at_ := i, en := i + p.en }
  | .error e => .error e
theorem pre_ext (W : ByteArray) (q : List UInt8) (hq : q.length = 3) : Lib.hasPrefix W.data.toList q = true ↔ (3 ≤ W.size ∧ (W.extract 0 3).toList = q) := by
  rw [ByteArray.toList_eq]
  have h0 : (W.extract 0 3).data.toList = W.data.toList.take 3 := by
    have h := extLst W 0 3
    rw [Nat.zero_add, List.drop_zero] at h
    exact h
  rw [h0]
  constructor
  · intro h
    have h1 := isPrefixOf_len q W.data.toList h
    rw [hq, Array.length_toList] at h1
    refine ⟨h1, ?_⟩
    have h2 := List.isPrefixOf_iff_prefix.1 h
    have h3 := List.prefix_iff_eq_take.1 h2
    rw [hq] at h3
    exact h3.symm
  · rintro ⟨_, h⟩
    show q.isPrefixOf W.data.toList = true
    rw [List.isPrefixOf_iff_prefix, ← h]
    exact List.take_prefix _ _
theorem run_word (s : ByteArray) (i : Nat) (hi : i < s.size) : runF s i = shf i (wordF (s.extract i (i + cnt rnb s i))) := by
  have hcl := cnt_le rnb s i
  have hlt := cnt_lt rnb s _ i rfl
  obtain ⟨N, hN⟩ : ∃ N, cnt rnb s i = N := ⟨_, rfl⟩
  have hdr : cnt dgt s i ≤ N := by
    rw [← hN]
    rcases Nat.lt_or_ge (cnt rnb s i) (cnt dgt s i) with h | h
    · exfalso
      have h1 := (cnt_lt dgt s _ i rfl (cnt rnb s i) h)
      have h2 := cnt_stop rnb s _ i rfl h1.1
      rw [dgt_rnb h1.2] at h2
      cases h2
    · exact h
  rw [hN] at hcl hlt
  obtain ⟨W, hW⟩ : ∃ W, s.extract i (i + N) = W := ⟨_, rfl⟩
  have hWs : W.size = N := by rw [← hW, size_ext _ _ _ (by omega)]; omega
  have hWb : ∀ k, k < N → bt W k = bt s (i + k) := fun k hk => by rw [← hW]; exact bt_ext s i (i + N) k (by omega) (by omega)
  have hasc : ∀ k, k < W.size → bt W k < 128 := fun k hk => by
    rw [hWs] at hk
    rw [hWb k hk]; exact (rnb_lt (hlt k hk).2).2
  unfold runF wordF
  rw [hN, hW, hWs]
  have hd : (cnt dgt s i = N) ↔ dgA W = true := by
    unfold dgA
    rw [all_bt, hWs]
    constructor
    · intro h j hj
      rw [hWb j hj]
      exact (cnt_lt dgt s _ i h j hj).2
    · intro h
      rcases Nat.lt_or_ge (cnt dgt s i) N with q | q
      · have h1 := cnt_stop dgt s _ i rfl (by omega)
        rw [← hWb _ q, h _ q] at h1; cases h1
      · omega
  by_cases g1 : dgA W = true
  · rw [if_pos (hd.2 g1), if_pos g1]
    rcases valF W 10 with _ | d <;> rfl
  rw [if_neg (fun h => g1 (hd.1 h)), if_neg g1]
  have hp : ((Lib.hasPrefix W.data.toList [87, 70, 95] || Lib.hasPrefix W.data.toList [83, 70, 95]) = true) ↔ (3 ≤ N ∧ ((W.extract 0 3).toList = [87, 70, 95] ∨ (W.extract 0 3).toList = [83, 70, 95])) := by
    rw [Bool.or_eq_true, pre_ext W _ rfl, pre_ext W _ rfl, hWs]
    constructor
    · rintro (⟨h1, h2⟩ | ⟨h1, h2⟩)
      · exact ⟨h1, .inl h2⟩
      · exact ⟨h1, .inr h2⟩
    · rintro ⟨h1, h2 | h2⟩
      · exact .inl ⟨h1, h2⟩
      · exact .inr ⟨h1, h2⟩
  by_cases g2 : 3 ≤ N ∧ ((W.extract 0 3).toList = [87, 70, 95] ∨ (W.extract 0 3).toList = [83, 70, 95])
  · rw [if_pos (hp.2 g2), if_pos g2]; rfl
  rw [if_neg (fun h => g2 (hp.1 h)), if_neg g2]
  by_cases g3 : W.toList = [95]
  · have h1 : W.size = 1 := by
      have := congrArg List.length g3
      rw [ByteArray.toList_eq, Array.length_toList] at this
      exact this
    have hN1 : N = 1 := by omega
    rw [if_pos (by rw [g3]; rfl), if_pos g3, hN1]; rfl
  rw [if_neg (by simpa using g3), if_neg g3]
  by_cases g4 : isWord W = true
  · rw [if_pos g4, if_pos g4]; rfl
  rw [if_neg g4, if_neg g4, letd_ltA hasc]
  by_cases g5 : ltA W = false
  · rw [if_pos g5, if_pos g5]; rfl
  rw [if_neg g5, if_neg g5]
  by_cases g6 : 40 < N
  · rw [if_pos g6, if_pos g6]; rfl
  · rw [if_neg g6, if_neg g6]; rfl
theorem word_en {W : ByteArray} {p : Tk} (h : wordF W = .ok p) : p.en ≤ W.size := by
  unfold wordF at h
  split at h
  · split at h
    · cases h
    · injection h with h; subst h; exact Nat.le_refl _
  split at h
  · rename_i g; injection h with h; subst h; exact g.1
  split at h
  · rename_i g
    injection h with h; subst h
    have := congrArg List.length g
    rw [ByteArray.toList_eq, Array.length_toList] at this
    show 1 ≤ W.data.size
    rw [this]; decide
  split at h
  · injection h with h; subst h; exact Nat.le_refl _
  split at h
  · cases h
  split at h
  · cases h
  · injection h with h; subst h; exact Nat.le_refl _
/-- four bytes alike -/
theorem sees4 (s : ByteArray) (i : Nat) (b : UInt8) : sees s i ⟨#[b, b, b, b]⟩ = true ↔ 4 ≤ cnt (fun x => x == (b.toNat : Int)) s i := by
  rw [sees_take]
  constructor
  · intro h
    have hz : ∀ k, k < 4 → i + k < s.size ∧ bt s (i + k) = (b.toNat : Int) := fun k hk => by
      have h1 : ((s.data.toList.drop i).take 4)[k]? = some b := by
        rw [show (⟨#[b, b, b, b]⟩ : ByteArray).size = 4 from rfl] at h
        rw [h]
        have : k = 0 ∨ k = 1 ∨ k = 2 ∨ k = 3 := by omega
        rcases this with rfl | rfl | rfl | rfl <;> rfl
      rw [List.getElem?_take_of_lt hk, List.getElem?_drop] at h1
      have hl := (List.getElem?_eq_some_iff.1 h1).1
      refine ⟨by rw [Array.length_toList] at hl; exact hl, ?_⟩
      unfold bt; rw [List.getD_eq_getElem?_getD, h1]; rfl
    rcases Nat.lt_or_ge (cnt (fun x => x == (b.toNat : Int)) s i) 4 with q | q
    · have h1 := cnt_stop (fun x => x == (b.toNat : Int)) s _ i rfl (hz _ q).1
      simp only [(hz _ q).2] at h1
      simp at h1
    · exact q
  · intro h
    have hz : ∀ k, k < 4 → i + k < s.size ∧ s.data.toList.getD (i + k) 0 = b := fun k hk => by
      have h1 := cnt_lt (fun x => x == (b.toNat : Int)) s _ i rfl k (by omega)
      refine ⟨h1.1, ?_⟩
      have h2 : bt s (i + k) = (b.toNat : Int) := eq_of_beq h1.2
      unfold bt at h2
      exact UInt8.toNat.inj (by omega)
    have z0 := hz 0 (by omega)
    have z1 := hz 1 (by omega)
    have z2 := hz 2 (by omega)
    have z3 := hz 3 (by omega)
    rw [Nat.add_zero] at z0
    rw [drop_bt s i z0.1, drop_bt s (i + 1) z1.1, drop_bt s (i + 1 + 1) z2.1, drop_bt s (i + 1 + 1 + 1) z3.1]
    show [s.data.toList.getD i 0, s.data.toList.getD (i + 1) 0, s.data.toList.getD (i + 2) 0, s.data.toList.getD (i + 3) 0] = _
    rw [z0.2, z1.2, z2.2, z3.2]
theorem signs_letd : signsL.all (fun p => letd ⟨p.1.toArray⟩ == p.1.any (fun b => ltr (b.toNat : Int))) = true := by decide +kernel
theorem canon_letd {w c : ByteArray} (h : canonOf w = some c) : letd w = ltA w := by
  obtain ⟨q, hq, he⟩ := canonOf_mem h
  have := eq_of_beq (List.all_eq_true.1 signs_letd q hq)
  rw [he] at this
  exact this
theorem plA_lt (s : ByteArray) (i : Nat) : ∀ n, i + n ≤ s.size → plA s i n = !ltA (s.extract i (i + n))
  | 0, h => by
    have : (s.extract i (i + 0)).data.toList = [] := by rw [extLst]; rfl
    unfold ltA; rw [this]; rfl
  | n + 1, h => by
    have ih := plA_lt s i n (by omega)
    have hk : s.data.toList[i + n]? = some (s.data.toList.getD (i + n) 0) := by
      rw [List.getD_eq_getElem?_getD, List.getElem?_eq_getElem (by rw [Array.length_toList]; show i + n < s.size; omega)]; rfl
    have e : (s.extract i (i + (n + 1))).data.toList = (s.extract i (i + n)).data.toList ++ [s.data.toList.getD (i + n) 0] := by
      rw [extLst, extLst, List.take_add_one, List.getElem?_drop, hk]; rfl
    simp only [plA]
    rw [ih]
    unfold ltA
    rw [e, List.any_append, Bool.not_or]
    congr 1
    simp only [List.any_cons, List.any_nil, Bool.or_false]
    rfl
/-- a sign's token by its end -/
def sgT (s : ByteArray) (i e : Nat) : Except Int Tk := if e = i then .error 20 else .ok ⟨5, (canonOf (s.extract i e)).getD ByteArray.empty, [], i, e, 0, 0⟩
theorem sgn_E (s : ByteArray) (i : Nat) : ∀ n, i + n ≤ s.size → sgn s i n = sgT s i (sgE s i n)
  | 0, _ => by simp only [sgn, sgE, sgT]; rw [if_pos trivial]
  | n + 1, h => by
    have ih := sgn_E s i n (by omega)
    simp only [sgn, sgE]
    have hcn := cnE_iff (s.extract i (i + (n + 1)))
    have hpl := plA_lt s i (n + 1) h
    rcases hc : canonOf (s.extract i (i + (n + 1))) with _ | c
    · rw [hc] at hcn
      rw [if_neg (fun q => by rw [hcn] at q; cases q.2.2)]
      exact ih
    · rw [hc] at hcn
      simp only []
      rw [← canon_letd hc] at hpl
      rcases hl : letd (s.extract i (i + (n + 1))) with _ | _
      · rw [hl] at hpl
        rw [if_neg (by decide), if_pos ⟨h, hpl, hcn⟩]
        unfold sgT
        rw [if_neg (by omega), hc]; rfl
      · rw [hl] at hpl
        rw [if_pos rfl, if_neg (fun q => by rw [hpl] at q; cases q.2.1)]
        exact ih
theorem sgE_out (s : ByteArray) (i : Nat) : ∀ n m, m ≤ n → s.size < i + (m + 1) → sgE s i n = sgE s i m
  | 0, m, h, _ => by
    have e : m = 0 := by omega
    subst e; rfl
  | n + 1, m, h, hs => by
    by_cases e : m = n + 1
    · rw [e]
    · rw [← sgE_out s i n m (by omega) hs]
      simp only [sgE]
      rw [if_neg (fun q => by omega)]
theorem sign_E (s : ByteArray) (i : Nat) (hi : i < s.size) : signF s i = sgT s i (sgnE s i) := by
  unfold signF sgnE
  have hcn := cnE_iff (s.extract i (i + 1 + cnt ltr s (i + 1)))
  rw [show i + (1 + cnt ltr s (i + 1)) = i + 1 + cnt ltr s (i + 1) by omega]
  by_cases g : bt s i = 92 ∧ 0 < cnt ltr s (i + 1) ∧ cnE (s.extract i (i + 1 + cnt ltr s (i + 1))) = false
  · rw [if_pos ⟨g.1, g.2.1, by rw [g.2.2] at hcn; simpa using hcn.symm⟩, if_pos g]
    unfold sgT
    rw [if_neg (by omega)]
  · rw [if_neg (fun q => g ⟨q.1, q.2.1, by rw [hcn, q.2.2]; rfl⟩), if_neg g, sgn_E s i _ (by omega)]
    by_cases h3 : i + 3 ≤ s.size
    · rw [show min 3 (s.size - i) = 3 by omega]
    · rw [show min 3 (s.size - i) = s.size - i by omega, sgE_out s i 3 (s.size - i) (by omega) (by omega)]
end Go.Proofs.YtagcfgoofiibfaaGreatDoor
set_option linter.unusedVariables false
namespace Go.Proofs.YtagcfgoofiibfaaGreatDoor
open Go Go.RowKit

theorem sgnE_le (s : ByteArray) (i : Nat) (hi : i < s.size) : i ≤ sgnE s i ∧ sgnE s i ≤ s.size := by
  have h1 : ∀ n, i ≤ sgE s i n ∧ sgE s i n ≤ s.size := fun n => by
    induction n with
    | zero => exact ⟨Nat.le_refl _, by show i ≤ s.size; omega⟩
    | succ n ih =>
      simp only [sgE]
      split
      · rename_i g; omega
      · exact ih
  unfold sgnE
  have := cnt_le ltr s (i + 1)
  split
  · omega
  · exact h1 3
theorem base_in {s : ByteArray} {i : Nat} (h : baseF s i ≠ 0) : ∃ b : Nat, baseF s i = (b : Int) ∧ 2 ≤ b ∧ b ≤ 16 ∧ i + 2 < s.size := by
  have hz : i + 2 < s.size ∨ bt s (i + 2) = 0 := by
    rcases Nat.lt_or_ge (i + 2) s.size with q | q
    · exact .inl q
    · exact .inr (bt_out s _ q)
  have hd : dgt (bt s (i + 2)) = true ∨ 0 ≤ wrth (bt s (i + 2)) → i + 2 < s.size := fun g => by
    rcases hz with hz | hz
    · exact hz
    · rw [hz] at g; exact absurd g (by decide)
  unfold baseF at h ⊢
  split at h
  · exact absurd rfl h
  rw [if_neg (by assumption)]
  split at h
  · rename_i g
    rw [if_pos g]
    split at h
    · rename_i g2; rw [if_pos g2]; exact ⟨2, rfl, by decide, by decide, hd (.inl g2)⟩
    · exact absurd rfl h
  rename_i g
  rw [if_neg g]
  split at h
  · rename_i g
    rw [if_pos g]
    split at h
    · rename_i g2; rw [if_pos g2]; exact ⟨8, rfl, by decide, by decide, hd (.inl g2)⟩
    · exact absurd rfl h
  rename_i g
  rw [if_neg g]
  split at h
  · rename_i g
    rw [if_pos g]
    split at h
    · rename_i g2; rw [if_pos g2]; exact ⟨16, rfl, by decide, by decide, hd g2⟩
    · exact absurd rfl h
  · exact absurd rfl h
theorem no_rule {s : ByteArray} {i : Nat} {b : UInt8} {y : Int} (hy : bt s i = y) (h : y ≠ (b.toNat : Int)) : sees s i ⟨#[b, b, b, b]⟩ = false := by
  rcases hq : sees s i ⟨#[b, b, b, b]⟩ with _ | _
  · rfl
  · have h4 := (sees4 s i b).1 hq
    have h0 := cnt_no (fun x => x == (b.toNat : Int)) s i (by rw [hy]; simpa using h)
    omega

set_option maxRecDepth 100000 in
set_option maxHeartbeats 6400000 in
/-- Next, at a letter, a digit or _ -/
theorem c81run (s : ByteArray) (i : Nat) (w : World) (hi : i < s.size) (hs : s.size ≤ 1073741824) (hr : rnb (bt s i) = true) : Calls Tryz.prog 81 #[.string s, .int .i64 (i : Int)] w (NxtTo (runF s i) w) := by
  have hrw := run_word s i hi
  have hb := bt_get s i hi
  have hcl := cnt_le rnb s i
  obtain ⟨y, hy⟩ : ∃ y, bt s i = y := ⟨_, rfl⟩
  rw [hy] at hb hr
  obtain ⟨j, hj⟩ : ∃ j, i + cnt rnb s i = j := ⟨_, rfl⟩
  have C121 : Hid (∀ W, Calls Tryz.prog 121 #[.string s, .int .i64 (i : Int)] W fun e w' => e = .returned (.int .i64 (j : Int)) ∧ W = w') := Lib.hid (fun W => by rw [← hj]; exact c121 s i W hs (by omega))
  rw [hj] at hrw
  obtain ⟨T, hT⟩ : ∃ T, s.extract i j = T := ⟨_, rfl⟩
  rw [hT] at hrw
  have HT := Lib.hid hT
  have hTs : T.size ≤ 1073741824 := by rw [← hT, size_ext _ _ _ (by omega)]; omega
  have C120 := Lib.hid (fun W => c120 T W hTs)
  have hiz : (i : Int) < (s.size : Int) := by omega
  have h0 : (0 : Int) ≤ (i : Int) := by omega
  have r1 : (i : Int) ≤ (j : Int) := by omega
  have r2 : (j : Int) ≤ (s.size : Int) := by omega
  have C8 := Lib.hid (fun W => c118 y W)
  have C9 := Lib.hid (fun W => c119 y W)
  have hwe : ∀ p, wordF T = .ok p → i + p.en ≤ 2147483648 := fun p hp => by have := word_en hp; omega
  have HB0 := Lib.hid (Tk0.start w)
  rcases hq : wordF T with er | p
  · rw [hq] at hrw C120
    have HRW : Hid (runF s i = .error er) := Lib.hid hrw
    clear hrw hq hwe hj hcl hy hTs
    rcases hl : ltr y with _ | _
    · rcases hd : dgt y with _ | _
      · have h95 : (y == 95) = true := by unfold rnb at hr; rw [hl, hd] at hr; simpa using hr
        rw [hl] at C8; rw [hd] at C9
        clear hr hl hd
        go_enter Tryz.func81, Tryz.ntmps81
        go_wp2_with (first | (go_at_call 118; ((with_reducible refine (C8.out _).mono ?_); rintro e w' ⟨rfl, rfl⟩)) | (go_at_call 119; ((with_reducible refine (C9.out _).mono ?_); rintro e w' ⟨rfl, rfl⟩)) | (go_at_call 121; ((with_reducible refine (C121.out _).mono ?_); rintro e w' ⟨rfl, rfl⟩)) | (go_at_call 120; ((with_reducible refine (C120.out _).mono ?_); rintro e w3 ⟨⟨kz, sz, z, rfl⟩, hb3⟩; have HT3 := Lib.hid (HB0.out.below hb3); obtain ⟨j0, j1, j2, j3, j4, j5, j6, j7⟩ := HT3.out.cells; have jf := HT3.out.frz; have hl3 := lt_of_blk HT3.out.z; clear hb3)))
        refine bodyPost_ret (results_tk rfl rfl (blk_alloc (st8_blk HT3.out.z _ _ _ _ _ _ _ _) _)) rfl ?_
        rw [HRW.out]
        exact ⟨⟨_, _, _, rfl⟩, (below_st8 HT3.out.b (Nat.le_refl _) _ _ _ _ _ _ _ _).alloc (below_st8 HT3.out.b (Nat.le_refl _) _ _ _ _ _ _ _ _).size _⟩
      · rw [hl] at C8; rw [hd] at C9
        clear hr hl hd
        go_enter Tryz.func81, Tryz.ntmps81
        go_wp2_with (first | (go_at_call 118; ((with_reducible refine (C8.out _).mono ?_); rintro e w' ⟨rfl, rfl⟩)) | (go_at_call 119; ((with_reducible refine (C9.out _).mono ?_); rintro e w' ⟨rfl, rfl⟩)) | (go_at_call 121; ((with_reducible refine (C121.out _).mono ?_); rintro e w' ⟨rfl, rfl⟩)) | (go_at_call 120; ((with_reducible refine (C120.out _).mono ?_); rintro e w3 ⟨⟨kz, sz, z, rfl⟩, hb3⟩; have HT3 := Lib.hid (HB0.out.below hb3); obtain ⟨j0, j1, j2, j3, j4, j5, j6, j7⟩ := HT3.out.cells; have jf := HT3.out.frz; have hl3 := lt_of_blk HT3.out.z; clear hb3)))
        refine bodyPost_ret (results_tk rfl rfl (blk_alloc (st8_blk HT3.out.z _ _ _ _ _ _ _ _) _)) rfl ?_
        rw [HRW.out]
        exact ⟨⟨_, _, _, rfl⟩, (below_st8 HT3.out.b (Nat.le_refl _) _ _ _ _ _ _ _ _).alloc (below_st8 HT3.out.b (Nat.le_refl _) _ _ _ _ _ _ _ _).size _⟩
    · rw [hl] at C8
      clear hr hl
      go_enter Tryz.func81, Tryz.ntmps81
      go_wp2_with (first | (go_at_call 118; ((with_reducible refine (C8.out _).mono ?_); rintro e w' ⟨rfl, rfl⟩)) | (go_at_call 121; ((with_reducible refine (C121.out _).mono ?_); rintro e w' ⟨rfl, rfl⟩)) | (go_at_call 120; ((with_reducible refine (C120.out _).mono ?_); rintro e w3 ⟨⟨kz, sz, z, rfl⟩, hb3⟩; have HT3 := Lib.hid (HB0.out.below hb3); obtain ⟨j0, j1, j2, j3, j4, j5, j6, j7⟩ := HT3.out.cells; have jf := HT3.out.frz; have hl3 := lt_of_blk HT3.out.z; clear hb3)))
      refine bodyPost_ret (results_tk rfl rfl (blk_alloc (st8_blk HT3.out.z _ _ _ _ _ _ _ _) _)) rfl ?_
      rw [HRW.out]
      exact ⟨⟨_, _, _, rfl⟩, (below_st8 HT3.out.b (Nat.le_refl _) _ _ _ _ _ _ _ _).alloc (below_st8 HT3.out.b (Nat.le_refl _) _ _ _ _ _ _ _ _).size _⟩
  · have hen := hwe p hq
    rw [hq] at hrw C120
    have HRW : Hid (runF s i = .ok { p with at_ := i, en := i + p.en }) := Lib.hid hrw
    have m1 : IntKind.i64.wrap ((i : Int) + (p.en : Int)) = (i : Int) + (p.en : Int) := IntWalk.i64_in _ (by omega)
    clear hrw hq hwe hj hcl hy hTs hen
    have HLT := Lib.hid (show w.heap.size < (w.alloc (.cells (tkCells 0 ByteArray.empty (.slice none 0 0)) 41)).heap.size by simp)
    rcases hl : ltr y with _ | _
    · rcases hd : dgt y with _ | _
      · have h95 : (y == 95) = true := by unfold rnb at hr; rw [hl, hd] at hr; simpa using hr
        rw [hl] at C8; rw [hd] at C9
        clear hr hl hd
        go_enter Tryz.func81, Tryz.ntmps81
        go_wp2_with (first | (go_at_call 118; ((with_reducible refine (C8.out _).mono ?_); rintro e w' ⟨rfl, rfl⟩)) | (go_at_call 119; ((with_reducible refine (C9.out _).mono ?_); rintro e w' ⟨rfl, rfl⟩)) | (go_at_call 121; ((with_reducible refine (C121.out _).mono ?_); rintro e w' ⟨rfl, rfl⟩)) | (go_at_call 120; ((with_reducible refine (C120.out _).mono ?_); rintro e w3 ⟨⟨a3, k3, rfl, hi3⟩, hb3⟩; have HI3 := Lib.hid hi3; have HT3 := Lib.hid (HB0.out.below hb3); obtain ⟨j0, j1, j2, j3, j4, j5, j6, j7⟩ := HT3.out.cells; have jf := HT3.out.frz; have hl3 := lt_of_blk HT3.out.z; clear hb3 hi3)))
        refine bodyPost_ret (results_tk rfl rfl (blk_alloc (st8_blk HT3.out.z _ _ _ _ _ _ _ _) _)) rfl ?_
        rw [HRW.out]
        exact ⟨⟨_, _, rfl, IntsUp.le (World.ownsRow.alloc (HI3.out.st8 HLT.out _ _ _ _ _ _ _ _) _) (Nat.le_of_lt HLT.out)⟩, (below_st8 HT3.out.b (Nat.le_refl _) _ _ _ _ _ _ _ _).alloc (below_st8 HT3.out.b (Nat.le_refl _) _ _ _ _ _ _ _ _).size _⟩
      · rw [hl] at C8; rw [hd] at C9
        clear hr hl hd
        go_enter Tryz.func81, Tryz.ntmps81
        go_wp2_with (first | (go_at_call 118; ((with_reducible refine (C8.out _).mono ?_); rintro e w' ⟨rfl, rfl⟩)) | (go_at_call 119; ((with_reducible refine (C9.out _).mono ?_); rintro e w' ⟨rfl, rfl⟩)) | (go_at_call 121; ((with_reducible refine (C121.out _).mono ?_); rintro e w' ⟨rfl, rfl⟩)) | (go_at_call 120; ((with_reducible refine (C120.out _).mono ?_); rintro e w3 ⟨⟨a3, k3, rfl, hi3⟩, hb3⟩; have HI3 := Lib.hid hi3; have HT3 := Lib.hid (HB0.out.below hb3); obtain ⟨j0, j1, j2, j3, j4, j5, j6, j7⟩ := HT3.out.cells; have jf := HT3.out.frz; have hl3 := lt_of_blk HT3.out.z; clear hb3 hi3)))
        refine bodyPost_ret (results_tk rfl rfl (blk_alloc (st8_blk HT3.out.z _ _ _ _ _ _ _ _) _)) rfl ?_
        rw [HRW.out]
        exact ⟨⟨_, _, rfl, IntsUp.le (World.ownsRow.alloc (HI3.out.st8 HLT.out _ _ _ _ _ _ _ _) _) (Nat.le_of_lt HLT.out)⟩, (below_st8 HT3.out.b (Nat.le_refl _) _ _ _ _ _ _ _ _).alloc (below_st8 HT3.out.b (Nat.le_refl _) _ _ _ _ _ _ _ _).size _⟩
    · rw [hl] at C8
      clear hr hl
      go_enter Tryz.func81, Tryz.ntmps81
      go_wp2_with (first | (go_at_call 118; ((with_reducible refine (C8.out _).mono ?_); rintro e w' ⟨rfl, rfl⟩)) | (go_at_call 121; ((with_reducible refine (C121.out _).mono ?_); rintro e w' ⟨rfl, rfl⟩)) | (go_at_call 120; ((with_reducible refine (C120.out _).mono ?_); rintro e w3 ⟨⟨a3, k3, rfl, hi3⟩, hb3⟩; have HI3 := Lib.hid hi3; have HT3 := Lib.hid (HB0.out.below hb3); obtain ⟨j0, j1, j2, j3, j4, j5, j6, j7⟩ := HT3.out.cells; have jf := HT3.out.frz; have hl3 := lt_of_blk HT3.out.z; clear hb3 hi3)))
      refine bodyPost_ret (results_tk rfl rfl (blk_alloc (st8_blk HT3.out.z _ _ _ _ _ _ _ _) _)) rfl ?_
      rw [HRW.out]
      exact ⟨⟨_, _, rfl, IntsUp.le (World.ownsRow.alloc (HI3.out.st8 HLT.out _ _ _ _ _ _ _ _) _) (Nat.le_of_lt HLT.out)⟩, (below_st8 HT3.out.b (Nat.le_refl _) _ _ _ _ _ _ _ _).alloc (below_st8 HT3.out.b (Nat.le_refl _) _ _ _ _ _ _ _ _).size _⟩
end Go.Proofs.YtagcfgoofiibfaaGreatDoor
set_option linter.unusedVariables false
namespace Go.Proofs.YtagcfgoofiibfaaGreatDoor
open Go Go.RowKit

theorem sgT_ok {s : ByteArray} {i e : Nat} (h : e ≠ i) : sgT s i e = .ok ⟨5, (canonOf (s.extract i e)).getD ByteArray.empty, [], i, e, 0, 0⟩ := by unfold sgT; rw [if_neg h]
theorem sgT_no {s : ByteArray} {i e : Nat} (h : e = i) : sgT s i e = .error 20 := by unfold sgT; rw [if_pos h]

set_option maxRecDepth 100000 in
set_option maxHeartbeats 6400000 in
/-- Next -/
theorem c81 (s : ByteArray) (i : Nat) (w : World) (hi : i < s.size) (hs : s.size ≤ 1073741824) : Calls Tryz.prog 81 #[.string s, .int .i64 (i : Int)] w (NxtTo (tokF s i) w) := by
  by_cases hr : rnb (bt s i) = true
  · have h := c81run s i w hi hs hr
    unfold tokF
    rw [if_pos hr]
    exact h
  obtain ⟨R, hR⟩ : ∃ R, tokF s i = R := ⟨_, rfl⟩
  rw [hR]
  unfold tokF at hR
  rw [if_neg hr] at hR
  have hb := bt_get s i hi
  obtain ⟨y, hy⟩ : ∃ y, bt s i = y := ⟨_, rfl⟩
  have hhi := bt_hi s i
  have hlo := bt_lo s i
  have s45 := sees4 s i 45
  have s61 := sees4 s i 61
  have n45 : y ≠ 45 → sees s i ⟨#[45, 45, 45, 45]⟩ = false := fun h => no_rule (b := 45) hy h
  have n61 : y ≠ 61 → sees s i ⟨#[61, 61, 61, 61]⟩ = false := fun h => no_rule (b := 61) hy h
  rw [hy] at hb hr hR hhi hlo
  have hnr : ltr y = false ∧ dgt y = false ∧ (y == 95) = false := by
    have h2 : rnb y = false := by simpa using hr
    unfold rnb at h2; simpa [and_assoc] using h2
  obtain ⟨hl, hd, h95⟩ := hnr
  have C8 := Lib.hid (fun W => c118 y W)
  have C9 := Lib.hid (fun W => c119 y W)
  rw [hl] at C8
  rw [hd] at C9
  have hiz : (i : Int) < (s.size : Int) := by omega
  have h0 : (0 : Int) ≤ (i : Int) := by omega
  have HB0 := Lib.hid (Tk0.start w)
  have HLT := Lib.hid (show w.heap.size < (w.alloc (.cells (tkCells 0 ByteArray.empty (.slice none 0 0)) 41)).heap.size by simp)
  clear hr hl hd hy hhi hlo
  by_cases hbase : baseF s i = 0
  case neg =>
    rw [if_pos hbase] at hR
    obtain ⟨b, hbb, hb2, hb16, hi2⟩ := base_in hbase
    have hcl := cnt_le rnb s (i + 2)
    have C122 : Hid (∀ W, Calls Tryz.prog 122 #[.string s, .int .i64 (i : Int)] W fun e w' => e = .returned (.int .i64 (b : Int)) ∧ W = w') := Lib.hid (fun W => by rw [← hbb]; exact c122 s i W (by omega))
    unfold basedF at hR
    rw [hbb] at hR
    obtain ⟨j, hj⟩ : ∃ j, i + 2 + cnt rnb s (i + 2) = j := ⟨_, rfl⟩
    have C121 : Hid (∀ W, Calls Tryz.prog 121 #[.string s, .int .i64 ((i : Int) + 2)] W fun e w' => e = .returned (.int .i64 (j : Int)) ∧ W = w') := Lib.hid (fun W => by
      rw [← hj]
      have h := c121 s (i + 2) W hs (by omega)
      rw [show ((i + 2 : Nat) : Int) = (i : Int) + 2 by omega] at h
      exact h)
    rw [hj] at hR
    have hje : i + (cnt rnb s (i + 2) + 2) = j := by omega
    rw [hje] at hR
    obtain ⟨T, hT⟩ : ∃ T, s.extract (i + 2) j = T := ⟨_, rfl⟩
    rw [hT] at hR
    have HT := Lib.hid hT
    have C123 : Hid (∀ W, Calls Tryz.prog 123 #[.string T, .int .i64 (b : Int)] W (ValdTo (valF T (b : Int)) W)) := Lib.hid (fun W => c123 T b W (by rw [← hT, size_ext _ _ _ (by omega)]; omega) hb2 hb16)
    have q0 : (0 : Int) < (b : Int) := by omega
    have q1 : IntKind.i64.wrap ((i : Int) + 2) = (i : Int) + 2 := IntWalk.i64_in _ (by omega)
    have q2 : ((i : Int) + 2).toNat = i + 2 := by omega
    have q3 : (0 : Int) ≤ (i : Int) + 2 := by omega
    have q4 : (i : Int) + 2 ≤ (j : Int) := by omega
    have q5 : (j : Int) ≤ (s.size : Int) := by omega
    clear s45 s61 n45 n61 hbase hbb hb2 hb16 hj hje hcl
    rcases hv : valF T (b : Int) with _ | d
    · rw [hv] at hR C123
      have HRR := Lib.hid hR
      clear hR hv
      go_enter Tryz.func81, Tryz.ntmps81
      go_wp2_with (first | (go_at_call 118; ((with_reducible refine (C8.out _).mono ?_); rintro e w' ⟨rfl, rfl⟩)) | (go_at_call 119; ((with_reducible refine (C9.out _).mono ?_); rintro e w' ⟨rfl, rfl⟩)) | (go_at_call 122; ((with_reducible refine (C122.out _).mono ?_); rintro e w' ⟨rfl, rfl⟩)) | (go_at_call 121; ((with_reducible refine (C121.out _).mono ?_); rintro e w' ⟨rfl, rfl⟩)) | (go_at_call 123; ((with_reducible refine (C123.out _).mono ?_); rintro e w3 ⟨rfl, hb3⟩; have HT3 := Lib.hid (HB0.out.below hb3); obtain ⟨j0, j1, j2, j3, j4, j5, j6, j7⟩ := HT3.out.cells; have jf := HT3.out.frz; have hl3 := lt_of_blk HT3.out.z; clear hb3)))
      refine bodyPost_ret (results_tk rfl rfl (blk_alloc (st8_blk HT3.out.z _ _ _ _ _ _ _ _) _)) rfl ?_
      rw [← HRR.out]
      exact ⟨⟨_, _, _, rfl⟩, (below_st8 HT3.out.b (Nat.le_refl _) _ _ _ _ _ _ _ _).alloc (below_st8 HT3.out.b (Nat.le_refl _) _ _ _ _ _ _ _ _).size _⟩
    · rw [hv] at hR C123
      have HRR := Lib.hid hR
      clear hR hv
      go_enter Tryz.func81, Tryz.ntmps81
      go_wp2_with (first | (go_at_call 118; ((with_reducible refine (C8.out _).mono ?_); rintro e w' ⟨rfl, rfl⟩)) | (go_at_call 119; ((with_reducible refine (C9.out _).mono ?_); rintro e w' ⟨rfl, rfl⟩)) | (go_at_call 122; ((with_reducible refine (C122.out _).mono ?_); rintro e w' ⟨rfl, rfl⟩)) | (go_at_call 121; ((with_reducible refine (C121.out _).mono ?_); rintro e w' ⟨rfl, rfl⟩)) | (go_at_call 123; ((with_reducible refine (C123.out _).mono ?_); rintro e w3 ⟨⟨a3, k3, rfl, hi3⟩, hb3⟩; have HI3 := Lib.hid hi3; have HT3 := Lib.hid (HB0.out.below hb3); obtain ⟨j0, j1, j2, j3, j4, j5, j6, j7⟩ := HT3.out.cells; have jf := HT3.out.frz; have hl3 := lt_of_blk HT3.out.z; clear hb3 hi3)))
      refine bodyPost_ret (results_tk rfl rfl (blk_alloc (st8_blk HT3.out.z _ _ _ _ _ _ _ _) _)) rfl ?_
      rw [← HRR.out]
      exact ⟨⟨_, _, rfl, IntsUp.le (World.ownsRow.alloc (HI3.out.st8 HLT.out _ _ _ _ _ _ _ _) _) (Nat.le_of_lt HLT.out)⟩, (below_st8 HT3.out.b (Nat.le_refl _) _ _ _ _ _ _ _ _).alloc (below_st8 HT3.out.b (Nat.le_refl _) _ _ _ _ _ _ _ _).size _⟩
  rw [if_neg (fun h => h hbase)] at hR
  have C122 : Hid (∀ W, Calls Tryz.prog 122 #[.string s, .int .i64 (i : Int)] W fun e w' => e = .returned (.int .i64 0) ∧ W = w') := Lib.hid (fun W => by rw [← hbase]; exact c122 s i W (by omega))
  clear hbase
  by_cases h34 : y = 34
  · subst h34
    rw [if_pos rfl] at hR
    have C124 := Lib.hid (fun W => c124 s i W hi hs)
    rw [hR] at C124
    clear s45 s61 n45 n61
    rcases R with er | p
    · have HRR : Hid True := Lib.hid trivial
      simp only [quoV] at C124
      clear hR
      go_enter Tryz.func81, Tryz.ntmps81
      go_wp2_with (first | (go_at_call 118; ((with_reducible refine (C8.out _).mono ?_); rintro e w' ⟨rfl, rfl⟩)) | (go_at_call 119; ((with_reducible refine (C9.out _).mono ?_); rintro e w' ⟨rfl, rfl⟩)) | (go_at_call 122; ((with_reducible refine (C122.out _).mono ?_); rintro e w' ⟨rfl, rfl⟩)) | (go_at_call 124; ((with_reducible refine (C124.out _).mono ?_); rintro e w3 ⟨rfl, hb3⟩; have HT3 := Lib.hid (HB0.out.below hb3); obtain ⟨j0, j1, j2, j3, j4, j5, j6, j7⟩ := HT3.out.cells; have jf := HT3.out.frz; have hl3 := lt_of_blk HT3.out.z; clear hb3)))
      refine bodyPost_ret (results_tk rfl rfl (st8_blk HT3.out.z _ _ _ _ _ _ _ _)) rfl ?_
      exact ⟨⟨_, _, _, rfl⟩, below_st8 HT3.out.b (Nat.le_refl _) _ _ _ _ _ _ _ _⟩
    · have hk := quo_k s i p _ _ _ hR
      obtain ⟨pk, ps, pd, pa, pe, pl, pc⟩ := p
      simp only [] at hk
      obtain ⟨rfl, rfl⟩ := hk
      simp only [quoV] at C124
      clear hR
      go_enter Tryz.func81, Tryz.ntmps81
      go_wp2_with (first | (go_at_call 118; ((with_reducible refine (C8.out _).mono ?_); rintro e w' ⟨rfl, rfl⟩)) | (go_at_call 119; ((with_reducible refine (C9.out _).mono ?_); rintro e w' ⟨rfl, rfl⟩)) | (go_at_call 122; ((with_reducible refine (C122.out _).mono ?_); rintro e w' ⟨rfl, rfl⟩)) | (go_at_call 124; ((with_reducible refine (C124.out _).mono ?_); rintro e w3 ⟨rfl, hb3⟩; have HT3 := Lib.hid (HB0.out.below hb3); obtain ⟨j0, j1, j2, j3, j4, j5, j6, j7⟩ := HT3.out.cells; have jf := HT3.out.frz; have hl3 := lt_of_blk HT3.out.z; clear hb3)))
      refine bodyPost_ret (results_tk rfl rfl (st8_blk HT3.out.z _ _ _ _ _ _ _ _)) rfl ?_
      exact ⟨⟨none, 0, rfl, World.ownsRow_nil _ _ _ _⟩, below_st8 HT3.out.b (Nat.le_refl _) _ _ _ _ _ _ _ _⟩
  rw [if_neg h34] at hR
  have e34 : (y == 34) = false := by simpa using h34
  -- a sign, if no rule stands here
  obtain ⟨hE1, hE2⟩ := sgnE_le s i hi
  have hsg := sign_E s i hi
  obtain ⟨E, hE⟩ : ∃ E, sgnE s i = E := ⟨_, rfl⟩
  rw [hE] at hE1 hE2 hsg
  have C126 : Hid (∀ W, Calls Tryz.prog 126 #[.string s, .int .i64 (i : Int)] W fun e w' => e = .returned (.int .i64 (E : Int)) ∧ Below W.heap.size W w') := Lib.hid (fun W => by rw [← hE]; exact c126 s i W hi hs)
  obtain ⟨T, hT⟩ : ∃ T, s.extract i E = T := ⟨_, rfl⟩
  obtain ⟨V, hV⟩ : ∃ V, (canonOf T).getD ByteArray.empty = V := ⟨_, rfl⟩
  have C41 : Hid (∀ W, Calls Tryz.prog 41 #[.string T] W fun e w' => e = .returned (.string V) ∧ Below W.heap.size W w') := Lib.hid (fun W => by rw [← hV]; exact c41 T W)
  have HT := Lib.hid hT
  have HV := Lib.hid hV
  have v1 : (i : Int) ≤ (E : Int) := by omega
  have v2 : (E : Int) ≤ (s.size : Int) := by omega
  obtain ⟨M, hM⟩ : ∃ M, cnt (fun x => x == y) s i = M := ⟨_, rfl⟩
  have hml := cnt_le (fun x => x == y) s i
  rw [hM] at hml
  have C125 : Hid (∀ W, Calls Tryz.prog 125 #[.string s, .int .i64 (i : Int), .int .u8 y] W fun e w' => e = .returned (.int .i64 ((i : Int) + (M : Int))) ∧ W = w') := Lib.hid (fun W => by
    have h := c125 s i y W hs (by omega)
    rw [hM, show ((i + M : Nat) : Int) = (i : Int) + (M : Int) by omega] at h
    exact h)
  have m4 : IntKind.i64.wrap ((i : Int) + 4) = (i : Int) + 4 := IntWalk.i64_in _ (by omega)
  clear hE h34 hE1 hE2 hV
  by_cases hrule : (y = 45 ∨ y = 61) ∧ 4 ≤ M
  · obtain ⟨hyy, h4⟩ := hrule
    have r4 : (i : Int) + 4 ≤ (i : Int) + (M : Int) := by omega
    rcases hyy with rfl | rfl
    · rw [if_pos (s45.2 (by rw [← hM] at h4; exact h4))] at hR
      have hen : i + cnt (fun b => b == 45) s i = i + M := by rw [← hM]
      rw [hen] at hR
      have HRR := Lib.hid hR
      clear hR hM hen s45 s61 n45 n61 hml h4 hsg
      go_enter Tryz.func81, Tryz.ntmps81
      go_wp2_with (first | (go_at_call 118; ((with_reducible refine (C8.out _).mono ?_); rintro e w' ⟨rfl, rfl⟩)) | (go_at_call 119; ((with_reducible refine (C9.out _).mono ?_); rintro e w' ⟨rfl, rfl⟩)) | (go_at_call 122; ((with_reducible refine (C122.out _).mono ?_); rintro e w' ⟨rfl, rfl⟩)) | (go_at_call 125; ((with_reducible refine (C125.out _).mono ?_); rintro e w' ⟨rfl, rfl⟩)))
      refine bodyPost_ret (results_tk rfl rfl (heap_alloc_new w _)) rfl ?_
      rw [← HRR.out]
      exact ⟨⟨none, 0, by simp only [Ending.returned.injEq]; rfl, World.ownsRow_nil _ _ _ _⟩, (Below.refl _ _).alloc (Nat.le_refl _) _⟩
    · rw [if_neg (by rw [n45 (by decide)]; decide), if_pos (s61.2 (by rw [← hM] at h4; exact h4))] at hR
      have hen : i + cnt (fun b => b == 61) s i = i + M := by rw [← hM]
      rw [hen] at hR
      have HRR := Lib.hid hR
      clear hR hM hen s45 s61 n45 n61 hml h4 hsg
      go_enter Tryz.func81, Tryz.ntmps81
      go_wp2_with (first | (go_at_call 118; ((with_reducible refine (C8.out _).mono ?_); rintro e w' ⟨rfl, rfl⟩)) | (go_at_call 119; ((with_reducible refine (C9.out _).mono ?_); rintro e w' ⟨rfl, rfl⟩)) | (go_at_call 122; ((with_reducible refine (C122.out _).mono ?_); rintro e w' ⟨rfl, rfl⟩)) | (go_at_call 125; ((with_reducible refine (C125.out _).mono ?_); rintro e w' ⟨rfl, rfl⟩)))
      refine bodyPost_ret (results_tk rfl rfl (heap_alloc_new w _)) rfl ?_
      rw [← HRR.out]
      exact ⟨⟨none, 0, by simp only [Ending.returned.injEq]; rfl, World.ownsRow_nil _ _ _ _⟩, (Below.refl _ _).alloc (Nat.le_refl _) _⟩
  have hR2 : sgT s i E = R := by
    rw [← hsg, ← hR]
    by_cases h45 : y = 45
    · have hM4 : ¬ 4 ≤ M := fun h => hrule ⟨.inl h45, h⟩
      rw [if_neg (fun h => by subst h45; rw [← hM] at hM4; exact hM4 (s45.1 h)), if_neg (by rw [n61 (by rw [h45]; decide)]; decide)]
    · rw [if_neg (by rw [n45 h45]; decide)]
      by_cases h61 : y = 61
      · have hM4 : ¬ 4 ≤ M := fun h => hrule ⟨.inr h61, h⟩
        rw [if_neg (fun h => by subst h61; rw [← hM] at hM4; exact hM4 (s61.1 h))]
      · rw [if_neg (by rw [n61 h61]; decide)]
  have hway : (y = 45 ∧ ¬ ((i : Int) + 4 ≤ (i : Int) + (M : Int))) ∨ (y = 61 ∧ ¬ ((i : Int) + 4 ≤ (i : Int) + (M : Int))) ∨ ((y == 45) = false ∧ (y == 61) = false) := by
    by_cases h45 : y = 45
    · exact .inl ⟨h45, fun h => hrule ⟨.inl h45, by omega⟩⟩
    · by_cases h61 : y = 61
      · exact .inr (.inl ⟨h61, fun h => hrule ⟨.inr h61, by omega⟩⟩)
      · exact .inr (.inr ⟨by simpa using h45, by simpa using h61⟩)
  clear hR hM s45 s61 n45 n61 hml hsg hrule
  by_cases hEi : E = i
  · rw [sgT_no hEi] at hR2
    have HRR := Lib.hid hR2
    have x1 : ((E : Int) == (i : Int)) = true := by rw [hEi]; simp
    clear hR2 hEi
    rcases hway with ⟨rfl, r4⟩ | ⟨rfl, r4⟩ | ⟨e45, e61⟩
    all_goals
      go_enter Tryz.func81, Tryz.ntmps81
      go_wp2_with (first | (go_at_call 118; ((with_reducible refine (C8.out _).mono ?_); rintro e w' ⟨rfl, rfl⟩)) | (go_at_call 119; ((with_reducible refine (C9.out _).mono ?_); rintro e w' ⟨rfl, rfl⟩)) | (go_at_call 122; ((with_reducible refine (C122.out _).mono ?_); rintro e w' ⟨rfl, rfl⟩)) | (go_at_call 125; ((with_reducible refine (C125.out _).mono ?_); rintro e w' ⟨rfl, rfl⟩)) | (go_at_call 126; ((with_reducible refine (C126.out _).mono ?_); rintro e w3 ⟨rfl, hb3⟩; have HT3 := Lib.hid (HB0.out.below hb3); obtain ⟨j0, j1, j2, j3, j4, j5, j6, j7⟩ := HT3.out.cells; have jf := HT3.out.frz; have hl3 := lt_of_blk HT3.out.z; clear hb3)))
      refine bodyPost_ret (results_tk rfl rfl (st8_blk HT3.out.z _ _ _ _ _ _ _ _)) rfl ?_
      rw [← HRR.out]
      exact ⟨⟨_, _, _, rfl⟩, below_st8 HT3.out.b (Nat.le_refl _) _ _ _ _ _ _ _ _⟩
  · rw [sgT_ok hEi] at hR2
    have HRR : Hid ((.ok ⟨5, V, [], i, E, 0, 0⟩ : Except Int Tk) = R) := Lib.hid (by rw [← hR2, HT.out, HV.out])
    have x1 : ((E : Int) == (i : Int)) = false := by simp; omega
    clear hR2 hEi
    rcases hway with ⟨rfl, r4⟩ | ⟨rfl, r4⟩ | ⟨e45, e61⟩
    all_goals
      go_enter Tryz.func81, Tryz.ntmps81
      go_wp2_with (first | (go_at_call 118; ((with_reducible refine (C8.out _).mono ?_); rintro e w' ⟨rfl, rfl⟩)) | (go_at_call 119; ((with_reducible refine (C9.out _).mono ?_); rintro e w' ⟨rfl, rfl⟩)) | (go_at_call 122; ((with_reducible refine (C122.out _).mono ?_); rintro e w' ⟨rfl, rfl⟩)) | (go_at_call 125; ((with_reducible refine (C125.out _).mono ?_); rintro e w' ⟨rfl, rfl⟩)) | (go_at_call 126; ((with_reducible refine (C126.out _).mono ?_); rintro e w3 ⟨rfl, hb3⟩; have HT3 := Lib.hid (HB0.out.below hb3); obtain ⟨j0, j1, j2, j3, j4, j5, j6, j7⟩ := HT3.out.cells; have jf := HT3.out.frz; have hl3 := lt_of_blk HT3.out.z; clear hb3)) | (go_at_call 41; ((with_reducible refine (C41.out _).mono ?_); rintro e w4 ⟨rfl, hb4⟩; have HT4 := Lib.hid (HT3.out.below hb4); obtain ⟨l0, l1, l2, l3, l4, l5, l6, l7⟩ := HT4.out.cells; have lf := HT4.out.frz; clear hb4 j0 j1 j2 j3 j4 j5 j6 j7 jf)))
      refine bodyPost_ret (results_tk rfl rfl (st8_blk HT4.out.z _ _ _ _ _ _ _ _)) rfl ?_
      rw [← HRR.out]
      exact ⟨⟨none, 0, rfl, World.ownsRow_nil _ _ _ _⟩, below_st8 HT4.out.b (Nat.le_refl _) _ _ _ _ _ _ _ _⟩
end Go.Proofs.YtagcfgoofiibfaaGreatDoor
