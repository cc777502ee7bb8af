/- The lexer and what it reaches: part 28 of 41: T1. -/
import Derived.Test.YtagcfgoofiibfaaGreatDoorG27
import Derived.Test.YtagcfgoofiibfaaGreatDoorG18
import Derived.Test.YtagcfgoofiibfaaGreatDoorG05
import Derived.Maps.OwnIn
import Derived.Lib.SmallJoins
set_option linter.unusedVariables false
set_option linter.unusedSimpArgs false
namespace Go.Proofs.YtagcfgoofiibfaaGreatDoor
open Go Go.RowKit
attribute [local go_sem] Oper.semAt_some

/-- the table while it is being made -/
structure TSt (w : World) (n1 : Nat) (D1 : DataW Unit) (n2 : Nat) (D2 : DataW Unit) (W : World) : Prop where
  p : W.heap[w.heap.size + 1 + 1]? = some (.cells #[.map (some w.heap.size), .map (some (w.heap.size + 1)), .int .i64 0] 106 (0, 0))
  pt : W.heap[w.heap.size + 1 + 1 + 1]? = some (.cells #[.pointer (some ⟨w.heap.size + 1 + 1, 0, none⟩)] 77 (0, 0))
  c : W.ownsMap Tryz.prog 9 (plainElem Tryz.prog 9) w.heap.size n1 D1
  d : W.ownsMap Tryz.prog 9 (plainElem Tryz.prog 4) (w.heap.size + 1) n2 D2
  b : Below w.heap.size w W
theorem TSt.grown {w : World} {n1 : Nat} {D1 : DataW Unit} {n2 : Nat} {D2 : DataW Unit} {W W' : World} {row : Option Nat} (h : TSt w n1 D1 n2 D2 W) (hg : W.grownBy W' row) (hr : ∀ r, row = some r → w.heap.size + 4 ≤ r) : TSt w n1 D1 n2 D2 W' :=
  ⟨grown_blk hg (fun r e => .inr (hr r e)) (by omega) h.p, grown_blk hg (fun r e => .inr (hr r e)) (by omega) h.pt,
   h.c.kept hg (fun e => by have := hr _ e.symm; omega), h.d.kept hg (fun e => by have := hr _ e.symm; omega), h.b.grown hg h.b.size (fun k e => by have := hr _ e; omega)⟩

def TabS : String := "strings.asciiSpace"
theorem sp_of {w : World} (h : Lib.TabIs Tryz.prog w "strings.asciiSpace" .u8 Lib.asciiSpaceTab) : SpTab w := fun c hc => by
  have h1 := h.cell (g := 1) (by kernel_rfl) c (by rw [Lib.asciiSpaceTab_length]; exact hc)
  rw [h1, Lib.asciiSpaceTab_at c hc]
theorem tab_of {w W : World} (h : Lib.TabIs Tryz.prog w "strings.asciiSpace" .u8 Lib.asciiSpaceTab) (hb : Below w.heap.size w W) : Lib.TabIs Tryz.prog W "strings.asciiSpace" .u8 Lib.asciiSpaceTab :=
  Go.Joins.tab_stays (g := 1) (by kernel_rfl) h hb (Nat.le_refl _)
theorem asc_of {s : ByteArray} (h : s.data.toList.all (fun b => decide (b.toNat < 128)) = true) : ∀ (j : Nat) b, s.data.toList[j]? = some b → b.toNat < 128 := fun j b hb => by
  have := List.all_eq_true.1 h b (List.mem_of_getElem? hb)
  simpa using this

def wE (xs : List ByteArray) : List (List UInt8 × DataW Unit) := xs.map fun x => (x.data.toList, .lit (.bool true))
def sE (xs : List ByteArray) : List (List UInt8 × DataW Unit) := xs.map fun x => (x.data.toList, .lit (.string x.data.toList))

theorem fields_le : ∀ (l cur f : List UInt8), f ∈ Lib.fieldsGo cur l → f.length ≤ cur.length + l.length
  | [], cur, f, h => by
    simp only [Lib.fieldsGo] at h
    split at h
    · cases h
    · simp at h; subst h; simp
  | b :: l, cur, f, h => by
    simp only [Lib.fieldsGo] at h
    split at h
    · split at h
      · have := fields_le l [] f h; simp at this ⊢; omega
      · rcases List.mem_cons.1 h with h | h
        · subst h; simp
        · have := fields_le l [] f h; simp at this ⊢; omega
    · have := fields_le l (cur ++ [b]) f h; simp at this ⊢; omega
theorem ba_size (l : List UInt8) : (⟨l.toArray⟩ : ByteArray).size = l.length := by simp [ByteArray.size]
theorem grown_blk1 {W W' : World} {b : Nat} (hg : W.grownBy W' (some b)) {k : Nat} (hk : k ≠ b) {o : Obj} (h : W.heap[k]? = some o) : W'.heap[k]? = some o := by
  rw [hg.block k (lt_of_blk h) (fun e => by injection e with e; exact hk e)]; exact h
/-- a sign without letters has three bytes at most, and one has three -/
theorem signs3 : signsL.all (fun p => letd ⟨p.1.toArray⟩ || decide (p.1.length ≤ 3)) = true := by decide +kernel
theorem sign3 : signsL.any (fun p => !letd ⟨p.1.toArray⟩ && p.1.length == 3) = true := by decide +kernel
theorem signD_hasL (k : List UInt8) : Maps.has signD (.string k) = (signsL.find? fun p => p.1 == k).isSome := by
  have := signD_has ⟨k.toArray⟩
  simp only [List.toList_toArray] at this
  rw [this]; unfold canonOf; simp
theorem sign_le (k : List UInt8) (h : Maps.has signD (.string k) = true) (hl : letd ⟨k.toArray⟩ = false) : k.length ≤ 3 := by
  rw [signD_hasL, List.find?_isSome] at h
  obtain ⟨p, hp, he⟩ := h
  simp only [beq_iff_eq] at he
  subst he
  have := List.all_eq_true.1 signs3 p hp
  rw [hl] at this; simpa using this
theorem sign_three : ∃ k : List UInt8, Maps.has signD (.string k) = true ∧ letd ⟨k.toArray⟩ = false ∧ k.length = 3 := by
  obtain ⟨p, hp, he⟩ := List.any_eq_true.1 sign3
  simp at he
  refine ⟨p.1, ?_, he.1, he.2⟩
  rw [signD_hasL, List.find?_isSome]
  exact ⟨p, hp, by simp⟩
theorem str_inv {P : Program} {e : TypeId} (he : P.underlying e = some .string) {v : Value} {y : DataW Unit × List MemPlace} (h : plainElem P e v = some y) : ∃ c : List UInt8, v = Value.string ⟨c.toArray⟩ := by
  unfold plainElem at h
  rw [he] at h
  cases v <;> simp at h
  rename_i s
  exact ⟨s.data.toList, by simp⟩
theorem leaves3 {P : Program} {fn : Func} {tmps : Array Value} {R : Ending → World → Prop} {D1 D2 D3 : Nat} {W : World} (h1 : W.heap[D1]? = some (.deferred (some []))) (h2 : W.heap[D2]? = some (.deferred (some []))) (h3 : W.heap[D3]? = some (.deferred (some [])))
    (h12 : D1 ≠ D2) (h13 : D1 ≠ D3) (h23 : D2 ≠ D3) (h : LeavesInM Fence.wide 5 P fn tmps R [] .returning (((W.putObj D3 (.deferred none)).putObj D2 (.deferred none)).putObj D1 (.deferred none))) :
    LeavesInM Fence.wide 5 P fn tmps R [{ target := .collected D3, args := #[] }, { target := .collected D2, args := #[] }, { target := .collected D1, args := #[] }] .returning W :=
  ⟨by simp, .inl ⟨_, _, rfl, run_takeDeferred h3, by simp, .inl ⟨_, _, rfl, run_takeDeferred (blk_put_other h2 _ h23), by simp, .inl ⟨_, _, rfl, run_takeDeferred (blk_put_other (blk_put_other h1 _ h13) _ h12), h⟩⟩⟩⟩
/-- no way out but the plain one -/
def noPanic (Q : Exit → Act → World → Prop) : Exit → Act → World → Prop
  | .normal, a, w => Q .normal a w
  | _, _, _ => False
theorem region_held_np {n : Nat} {P : Program} {ops : Array Oper} {Q : Exit → Act → World → Prop} {S : World → Prop} {id : Nat} {a : Act} {w : World} (hm : P.follows .mixedOrders = true)
    (h : wpAnyH P .any ops (noPanic Q) S ops.size (Array.replicate ops.size false) a w.drew) : (Code.region id ops true).wpIn Fence.wide n P Q a w :=
  wpIn_mono (wpIn_wide.2 (wp_region_held hm h)) (fun e a w h => by cases e <;> first | exact h | exact h.elim)
theorem region_np {n : Nat} {P : Program} {ops : Array Oper} {Q : Exit → Act → World → Prop} {id : Nat} {a : Act} {w : World}
    (h : (Code.region id ops true).wp P (noPanic Q) a w) : (Code.region id ops true).wpIn Fence.wide n P Q a w :=
  wpIn_mono (wpIn_wide.2 h) (fun e a w h => by cases e <;> first | exact h | exact h.elim)
theorem grown_drew {W W' : World} {row : Option Nat} (h : W.grownBy W' row) : W.grownBy W'.drew row := ⟨h.os, h.tape, h.output, h.size, h.block⟩
def toE (p : List UInt8 × List UInt8) : List UInt8 × DataW Unit := (p.1, .lit (.string p.2))
/-- a row of spellings -/
def rP (row : List UInt8) : List (List UInt8 × List UInt8) := (Lib.fields row).map fun k => (k, (Lib.fields row).headD [])
theorem cntF_le : ∀ (ws : Bool) (l : List UInt8), Lib.cntF ws l ≤ l.length
  | _, [] => Nat.le_refl _
  | ws, b :: l => by
    have := cntF_le (Lib.isSp b) l
    simp only [Lib.cntF, List.length_cons]
    split <;> omega

set_option maxRecDepth 100000 in
set_option maxHeartbeats 6400000 in
theorem c69 (w : World) (hT : Lib.TabIs Tryz.prog w "strings.asciiSpace" .u8 Lib.asciiSpaceTab) :
    Calls Tryz.prog 69 #[] w fun e w' => ∃ p, e = .returned (.pointer (some ⟨p, 0, none⟩)) ∧ TabAt w'.heap.size p w' ∧ w.heap.size ≤ p ∧ Below w.heap.size w w' := by
  have hf1 : Fence.wide.fn 104 := trivial
  have hmm := @run_makeMap Tryz.prog
  have HT := Lib.hid hT
  clear hT
  refine (callsIn_wide (n := 5)).1 ?_
  refine callsIn_of_wp_marks Tryz.func69 rfl trivial ?_ rfl
  simp only [Tryz.ntmps69, List.size_toArray, List.length_cons, List.length_nil, Nat.reduceAdd, Nat.reduceSub, Array.replicate_succ, Array.replicate_zero, List.push_toArray, List.append_toArray, List.nil_append, List.cons_append]
  gi_wp2_with (gi_at_call 104; refine (callsIn_wide.2 (c104 _ _)).mono ?_; rintro e w' ⟨rfl, rfl⟩; generalize hS1 : ByteArray.mk _ = S1)
  generalize hW : World.alloc _ _ = W0
  have hz : W0.heap.size = w.heap.size + 5 := by rw [← hW]; simp
  have hd0 : ((w.alloc (.map #[] 0)).alloc (.map #[] 0)).ownsMap (H := Unit) Tryz.prog 9 (plainElem Tryz.prog 4) (w.heap.size + 1) 0 (.map []) := by
    have h := World.ownsMap_made (H := Unit) (w.alloc (.map #[] 0)) Tryz.prog 9 (plainElem Tryz.prog 4)
    rw [World.size_alloc] at h; exact h
  have hst : TSt w 0 (.map []) 0 (.map []) W0 := by
    rw [← hW]
    exact ⟨blk_alloc (blk_alloc (blk_new _ _ (by simp) _) _) _, blk_alloc (blk_new _ _ (by simp) _) _, ((((World.ownsMap_made w _ _ _).alloc _).alloc _).alloc _).alloc _,
      ((hd0.alloc _).alloc _).alloc _,
      (((((Below.refl _ _).alloc (by simp) _).alloc (by simp) _).alloc (by simp; omega) _).alloc (by simp; omega) _).alloc (by simp; omega) _⟩
  have b4 : W0.heap[w.heap.size + 1 + 1 + 1 + 1]? = some (.cells #[.string S1] 9 (0, 0)) := by rw [← hW]; exact blk_new _ _ (by simp) _
  clear hW hd0
  have HS1 := Lib.hid hS1
  clear hS1
  have z1 : S1.size ≤ 100000 := by rw [← HS1.out]; decide
  have z2 : Lib.fields S1.data.toList = wordsL := by rw [← HS1.out]; decide +kernel
  have z3 : S1.data.toList.all (fun b => decide (b.toNat < 128)) = true := by rw [← HS1.out]; decide +kernel
  clear HS1
  refine rf_law (by omega) (gf := 162) (lb := #[.pointer (some ⟨w.heap.size + 1 + 1 + 1 + 1, 0, none⟩)]) (by rfl) (enters_of Tryz.func162 (by kernel_rfl) rfl)
    (c162 _ _ S1 z1 (asc_of z3) (fun r => r = w.heap.size + 1) (by have := World.block_lt_of_cell? w ⟨1, 0, none⟩ (sp_of HT.out 0 (by omega)); simp at this; omega) (by omega) W0 (by rw [cell_of_row _ _ _ _ _ _ b4]; rfl) (sp_of (tab_of HT.out hst.b))) (fun _ => rfl)
    (fun r h => h.elim) (by rintro r rfl; omega)
    (fun pre W => TSt w 0 (.map []) pre.length (foldD (wE pre) (.map [])) W) (fun _ _ _ => False) ?hI1 (fun _ _ _ _ _ h _ _ => h) hst
    (fun _ pre x a W => TSt w 0 (.map []) pre.length (foldD (wE pre) (.map [])) W ∧ a = { tmps := #[Value.pointer none, .pointer (some ⟨w.heap.size + 1 + 1 + 1, 0, none⟩), .string x, undef, undef, undef, undef, undef, undef, .map (some w.heap.size), .map (some (w.heap.size + 1)), .agg #[.map (some w.heap.size), .map (some (w.heap.size + 1)), .int .i64 0], .pointer (some ⟨w.heap.size + 1 + 1, 0, none⟩), .func (.func 162) #[] #[.pointer (some ⟨w.heap.size + 1 + 1 + 1 + 1, 0, none⟩)], .string x, undef, undef, undef, undef, undef, undef, undef, undef, undef, undef, undef, undef, undef, undef, undef, undef, undef, undef, undef, undef, undef, undef, undef, undef, undef, undef, undef, undef, undef, undef, undef, undef, undef, undef, undef, undef, undef, undef, undef, undef, undef, undef, undef, undef, undef, undef, undef, undef, undef, undef, undef, undef, undef, undef, undef], defers := [] }) ?hA1 ?assign1 ?body1 ?done1 (fun _ _ _ _ _ _ h _ => h.elim)
  case hI1 =>
    intro pre A A' row h hg hr
    exact h.grown hg (fun r e => by rcases hr r e with h | h; exact h.elim; omega)
  case hA1 =>
    rintro l pre x a' A r o' hl hlr ⟨h, ha⟩
    exact ⟨h.grown (grownBy_putObj' A l o') (fun r e => by cases e; omega), ha⟩
  case assign1 =>
    rintro l pre x W r hl hlr h hlen hgx
    gi_wp2
    exact ⟨Keep.refl _ _, h, trivial⟩
  case body1 =>
    rintro l pre x a' W r hl hlr ⟨h, rfl⟩ hlen hgx
    have k1 : W.cell? ⟨w.heap.size + 1 + 1 + 1, 0, none⟩ = some (.pointer (some ⟨w.heap.size + 1 + 1, 0, none⟩)) := by rw [cell_of_row _ _ _ _ _ _ h.pt]; rfl
    have k2 : W.cell? ⟨w.heap.size + 1 + 1, 1, none⟩ = some (.map (some (w.heap.size + 1))) := by rw [cell_of_row _ _ _ _ _ _ h.p]; rfl
    have H := Lib.hid h
    clear h hst b4 hlr
    gi_wp2_with (gi_at_mapUpdate; refine wpListIn_mapUpdate_own _ rfl _ _ _ 104 rfl 9 4 (Maps.string_keyed Tryz.underlying9) Tryz.underlying104 _ (w.heap.size + 1) pre.length _ rfl H.out.d (by unfold maxLen; omega) _ _ _ rfl rfl (keyStr Tryz.underlying9 x (by unfold maxLen; omega)) (.lit (.bool true)) [] (plainElem_bool Tryz.underlying4 true) ?_; intro w1 hown1 hgrow1)
    refine ⟨Keep.grown hgrow1 (fun r e => by cases e; exact .inl rfl), ?_⟩
    have h := H.out
    exact ⟨by rw [hgrow1.block _ (lt_of_blk h.p) (by intro e; injection e with e; omega)]; exact h.p, by rw [hgrow1.block _ (lt_of_blk h.pt) (by intro e; injection e with e; omega)]; exact h.pt, h.c.kept hgrow1 (by intro e; injection e with e; omega), by
      rw [List.length_append, show wE (pre ++ [x]) = wE pre ++ [(x.data.toList, .lit (.bool true))] by simp [wE], foldD_snoc]; exact hown1, h.b.grown hgrow1 h.b.size (fun k e => by cases e; omega)⟩
  case done1 =>
    rintro D1 xs W1 hD1 hxs hst1 hK1
    have hw : foldD (wE xs) (.map []) = wordD := by
      have : wE xs = wordE := by
        unfold wE wordE
        rw [← z2, ← hxs, List.map_map]; rfl
      rw [this]; rfl
    rw [hw] at hst1
    have hdl := lt_of_blk hK1
    have n2l : xs.length = 35 := by
      have := congrArg List.length hxs
      rw [List.length_map, z2] at this; rw [this]; rfl
    rw [n2l] at hst1
    clear hxs hw z1 z2 z3 hst b4 n2l
    have H1 := Lib.hid hst1
    have HK1 := Lib.hid hK1
    clear hst1 hK1
    gi_wp2_with (gi_at_call 104; refine (callsIn_wide.2 (c104 _ _)).mono ?_; rintro e w' ⟨rfl, rfl⟩; generalize hS2 : ByteArray.mk _ = S2)
    have HS2 := Lib.hid hS2
    clear hS2
    have z1 : S2.size ≤ 100000 := by rw [← HS2.out]; decide
    have z2 : (Lib.fields S2.data.toList).map (fun k => (k, k)) = signsL.take 76 := by rw [← HS2.out]; decide +kernel
    have z3 : S2.data.toList.all (fun b => decide (b.toNat < 128)) = true := by rw [← HS2.out]; decide +kernel
    clear HS2
    have b5 : (W1.alloc (.cells #[.string S2] 9)).heap[W1.heap.size]? = some (.cells #[.string S2] 9 (0, 0)) := blk_new _ _ rfl _
    have hs2 : TSt w 0 (.map []) 35 wordD (W1.alloc (.cells #[.string S2] 9)) := H1.out.grown (World.grownBy_alloc W1 _ none) (fun r e => by cases e)
    have hk2 : (W1.alloc (.cells #[.string S2] 9)).heap[D1]? = some (.deferred (some [])) := blk_alloc HK1.out _
    refine rf_law (by omega) (gf := 162) (lb := #[.pointer (some ⟨W1.heap.size, 0, none⟩)]) (by rfl) (enters_of Tryz.func162 (by kernel_rfl) rfl)
      (c162 _ _ S2 z1 (asc_of z3) (fun r => r = w.heap.size) (by have := World.block_lt_of_cell? w ⟨1, 0, none⟩ (sp_of HT.out 0 (by omega)); simp at this; omega) (by omega) _ (by rw [cell_of_row _ _ _ _ _ _ b5]; rfl) (sp_of (tab_of HT.out hs2.b))) (fun _ => rfl)
      (fun r h => h.elim) (by rintro r rfl; simp; omega)
      (fun pre W => TSt w pre.length (foldD (sE pre) (.map [])) 35 wordD W ∧ W.heap[D1]? = some (.deferred (some []))) (fun _ _ _ => False) ?hI2 (fun _ _ _ _ _ h _ _ => h) ⟨hs2, hk2⟩
      (fun _ pre x a W => (TSt w pre.length (foldD (sE pre) (.map [])) 35 wordD W ∧ W.heap[D1]? = some (.deferred (some []))) ∧ a = { tmps := #[Value.pointer none, .pointer (some ⟨w.heap.size + 1 + 1 + 1, 0, none⟩), undef, .string x, undef, undef, undef, undef, undef, .map (some w.heap.size), .map (some (w.heap.size + 1)), .agg #[.map (some w.heap.size), .map (some (w.heap.size + 1)), .int .i64 0], .pointer (some ⟨w.heap.size + 1 + 1, 0, none⟩), .func (.func 162) #[] #[.pointer (some ⟨w.heap.size + 1 + 1 + 1 + 1, 0, none⟩)], undef, undef, undef, undef, undef, undef, .func (.func 162) #[] #[.pointer (some ⟨W1.heap.size, 0, none⟩)], .string x, undef, undef, undef, undef, undef, undef, undef, undef, undef, undef, undef, undef, undef, undef, undef, undef, undef, undef, undef, undef, undef, undef, undef, undef, undef, undef, undef, undef, undef, undef, undef, undef, undef, undef, undef, undef, undef, undef, undef, undef, undef, undef, undef, undef, undef, undef, undef, undef], defers := [] }) ?hA2 ?assign2 ?body2 ?done2 (fun _ _ _ _ _ _ h _ => h.elim)
    case hI2 =>
      rintro pre A A' row ⟨h, hd⟩ hg hr
      exact ⟨h.grown hg (fun r e => by rcases hr r e with h | h; exact h.elim; simp at h; omega), grown_blk hg hr (by simp; omega) hd⟩
    case hA2 =>
      rintro l pre x a' A r o' hl hlr ⟨⟨h, hd⟩, ha⟩
      exact ⟨⟨h.grown (grownBy_putObj' A l o') (fun r e => by cases e; simp at hl; omega), blk_put_other hd _ (by simp at hl; omega)⟩, ha⟩
    case assign2 =>
      rintro l pre x W r hl hlr h hlen hgx
      gi_wp2
      exact ⟨Keep.refl _ _, h, trivial⟩
    case body2 =>
      rintro l pre x a' W r hl hlr ⟨⟨h, hd⟩, rfl⟩ hlen hgx
      have k1 : W.cell? ⟨w.heap.size + 1 + 1 + 1, 0, none⟩ = some (.pointer (some ⟨w.heap.size + 1 + 1, 0, none⟩)) := by rw [cell_of_row _ _ _ _ _ _ h.pt]; rfl
      have k2 : W.cell? ⟨w.heap.size + 1 + 1, 0, none⟩ = some (.map (some w.heap.size)) := by rw [cell_of_row _ _ _ _ _ _ h.p]; rfl
      have H := Lib.hid h
      have HD := Lib.hid hd
      clear h hd hs2 hk2 b5 hlr
      gi_wp2_with (gi_at_mapUpdate; refine wpListIn_mapUpdate_own _ rfl _ _ _ 103 rfl 9 9 (Maps.string_keyed Tryz.underlying9) Tryz.underlying103 _ w.heap.size pre.length _ rfl H.out.c (by unfold maxLen; omega) _ _ _ rfl rfl (keyStr Tryz.underlying9 x (by unfold maxLen; omega)) (.lit (.string x.data.toList)) [] (plainElem_string Tryz.underlying9 (by unfold maxLen; omega)) ?_; intro w1 hown1 hgrow1)
      refine ⟨Keep.grown hgrow1 (fun r e => by cases e; exact .inl rfl), ?_⟩
      have h := H.out
      exact ⟨⟨by rw [hgrow1.block _ (lt_of_blk h.p) (by intro e; injection e with e; omega)]; exact h.p, by rw [hgrow1.block _ (lt_of_blk h.pt) (by intro e; injection e with e; omega)]; exact h.pt, by
        rw [List.length_append, show sE (pre ++ [x]) = sE pre ++ [(x.data.toList, .lit (.string x.data.toList))] by simp [sE], foldD_snoc]; exact hown1, h.d.kept hgrow1 (by intro e; injection e with e; omega), h.b.grown hgrow1 h.b.size (fun k e => by cases e; omega)⟩,
        by rw [hgrow1.block _ (lt_of_blk HD.out) (by intro e; injection e with e; omega)]; exact HD.out⟩
    case done2 =>
      rintro D2 xs2 W2 hD2 hxs2 ⟨hst2, hd1⟩ hK2
      have hdl2 := lt_of_blk hK2
      have e2 : sE xs2 = (signsL.take 76).map toE := by
        rw [← z2, ← hxs2]; simp [sE, toE]
      have n2l : xs2.length = 76 := by
        have h1 := congrArg List.length e2
        have h2 : ((signsL.take 76).map toE).length = 76 := by decide +kernel
        rw [h2] at h1; simpa [sE] using h1
      rw [n2l, e2] at hst2
      clear hxs2 e2 z1 z2 z3 hs2 hk2 b5 n2l
      have H2 := Lib.hid hst2
      have HD1 := Lib.hid hd1
      have HK2 := Lib.hid hK2
      clear hst2 hd1 hK2
      have hf2 : Fence.wide.fn 105 := trivial
      gi_wp2_with (gi_at_call 105; refine (callsIn_wide.2 (c105 _ _ _)).mono ?_; rintro e w' ⟨rfl, rfl⟩; generalize hS3 : ByteArray.mk (List.toArray (47 :: _)) = S3)
      have HS3 := Lib.hid hS3
      clear hS3
      have z1 : S3.size ≤ 100000 := by rw [← HS3.out]; decide
      have z3 : S3.data.toList.all (fun b => decide (b.toNat < 128)) = true := by rw [← HS3.out]; decide +kernel
      have z4 : foldD ((signsL.take 76 ++ (splitL 124 [] S3.data.toList).flatMap rP).map toE) (.map []) = signD := by rw [← HS3.out]; kernel_rfl
      clear HS3
      have b6 : (((W2.alloc (.cells #[.string S3] 9)).alloc (.cells #[.string ⟨#[124]⟩] 9)).alloc (.cells #[.int .i64 0] 3)).heap[W2.heap.size]? = some (.cells #[.string S3] 9 (0, 0)) := blk_alloc (blk_alloc (blk_new _ _ rfl _) _) _
      have b7 : (((W2.alloc (.cells #[.string S3] 9)).alloc (.cells #[.string ⟨#[124]⟩] 9)).alloc (.cells #[.int .i64 0] 3)).heap[W2.heap.size + 1]? = some (.cells #[.string ⟨#[124]⟩] 9 (0, 0)) := blk_alloc (blk_new _ _ (by simp) _) _
      have b8 : (((W2.alloc (.cells #[.string S3] 9)).alloc (.cells #[.string ⟨#[124]⟩] 9)).alloc (.cells #[.int .i64 0] 3)).heap[W2.heap.size + 1 + 1]? = some (.cells #[.int .i64 0] 3 (0, 0)) := blk_new _ _ (by simp) _
      have hs3 : TSt w 76 (foldD ((signsL.take 76).map toE) (.map [])) 35 wordD (((W2.alloc (.cells #[.string S3] 9)).alloc (.cells #[.string ⟨#[124]⟩] 9)).alloc (.cells #[.int .i64 0] 3)) :=
        ((H2.out.grown (World.grownBy_alloc _ _ none) (fun r e => by cases e)).grown (World.grownBy_alloc _ _ none) (fun r e => by cases e)).grown (World.grownBy_alloc _ _ none) (fun r e => by cases e)
      have hk31 := blk_alloc (blk_alloc (blk_alloc HD1.out (.cells #[.string S3] 9)) (.cells #[.string ⟨#[124]⟩] 9)) (.cells #[.int .i64 0] 3)
      have hk32 := blk_alloc (blk_alloc (blk_alloc HK2.out (.cells #[.string S3] 9)) (.cells #[.string ⟨#[124]⟩] 9)) (.cells #[.int .i64 0] 3)
      generalize hW3 : World.alloc (World.alloc (World.alloc W2 _) _) _ = W3 at b6 b7 b8 hs3 hk31 hk32 ⊢
      have hz3 : W3.heap.size = W2.heap.size + 3 := by rw [← hW3]; simp
      clear hW3
      simp only [World.size_alloc] at hD2
      refine rf_law (by omega) (gf := 199) (lb := #[.pointer (some ⟨W2.heap.size + 1, 0, none⟩), .pointer (some ⟨W2.heap.size, 0, none⟩), .pointer (some ⟨W2.heap.size + 1 + 1, 0, none⟩)]) (by rfl) (enters_of Tryz.func199 (by kernel_rfl) rfl)
        (c199 _ W2.heap.size S3 z1 (fun b => b.toNat < 128) (fun b hb => by have := List.all_eq_true.1 z3 b hb; simpa using this) (fun r => r = w.heap.size) (by omega) (by omega) (by omega) W3 (by rw [cell_of_row _ _ _ _ _ _ b6]; rfl) (frozen_of_row _ _ _ _ _ b6) (by rw [cell_of_row _ _ _ _ _ _ b7]; rfl) (by rw [cell_of_row _ _ _ _ _ _ b8]; rfl)) (fun _ => rfl)
        (by rintro r rfl; omega) (by rintro r rfl; omega)
        (fun pre W => ∃ n, n ≤ 76 + 100001 * pre.length ∧ TSt w n (foldD ((signsL.take 76 ++ pre.flatMap (fun x => rP x.data.toList)).map toE) (.map [])) 35 wordD W ∧ W.heap[D1]? = some (.deferred (some [])) ∧ W.heap[D2]? = some (.deferred (some []))) (fun _ _ _ => False) ?hI3 (fun _ _ _ _ _ h _ _ => h) ⟨76, by simp, by simpa using hs3, hk31, hk32⟩
        (fun _ pre x a W => (∃ n, n ≤ 76 + 100001 * pre.length ∧ TSt w n (foldD ((signsL.take 76 ++ pre.flatMap (fun x => rP x.data.toList)).map toE) (.map [])) 35 wordD W ∧ W.heap[D1]? = some (.deferred (some [])) ∧ W.heap[D2]? = some (.deferred (some []))) ∧ a = { tmps := #[Value.pointer none, .pointer (some ⟨w.heap.size + 1 + 1 + 1, 0, none⟩), undef, undef, .string x, undef, undef, undef, undef, .map (some w.heap.size), .map (some (w.heap.size + 1)), .agg #[.map (some w.heap.size), .map (some (w.heap.size + 1)), .int .i64 0], .pointer (some ⟨w.heap.size + 1 + 1, 0, none⟩), .func (.func 162) #[] #[.pointer (some ⟨w.heap.size + 1 + 1 + 1 + 1, 0, none⟩)], undef, undef, undef, undef, undef, undef, .func (.func 162) #[] #[.pointer (some ⟨W1.heap.size, 0, none⟩)], undef, undef, undef, undef, undef, undef, undef, .func (.func 199) #[] #[.pointer (some ⟨W2.heap.size + 1, 0, none⟩), .pointer (some ⟨W2.heap.size, 0, none⟩), .pointer (some ⟨W2.heap.size + 1 + 1, 0, none⟩)], .string x, undef, undef, undef, undef, undef, undef, undef, undef, undef, undef, undef, undef, undef, undef, undef, undef, undef, undef, undef, undef, undef, undef, undef, undef, undef, undef, undef, undef, undef, undef, undef, undef, undef, undef, undef, undef, undef, undef, undef, undef], defers := [] }) ?hA3 ?assign3 ?body3 ?done3 (fun _ _ _ _ _ _ h _ => h.elim)
      case hI3 =>
        rintro pre A A' row ⟨n, hn, h, hd, hd'⟩ hg hr
        exact ⟨n, hn, h.grown hg (fun r e => by rcases hr r e with h | h <;> omega), by rw [hg.block _ (lt_of_blk hd) (fun e => by rcases hr _ e.symm with h | h <;> omega)]; exact hd, by rw [hg.block _ (lt_of_blk hd') (fun e => by rcases hr _ e.symm with h | h <;> omega)]; exact hd'⟩
      case hA3 =>
        rintro l pre x a' A r o' hl hlr ⟨⟨n, hn, h, hd, hd'⟩, ha⟩
        exact ⟨⟨n, hn, h.grown (grownBy_putObj' A l o') (fun r e => by cases e; omega), blk_put_other hd _ (by omega), blk_put_other hd' _ (by omega)⟩, ha⟩
      case assign3 =>
        rintro l pre x W r hl hlr h hlen hgx
        gi_wp2
        exact ⟨Keep.refl _ _, h, trivial⟩
      case body3 =>
        rintro l pre x a' W r hl hlr ⟨⟨n, hn, h, hd, hd'⟩, rfl⟩ hlen ⟨hgx, hga⟩
        have H := Lib.hid h
        have HD := Lib.hid hd
        have HD' := Lib.hid hd'
        have hdW1 := lt_of_blk hd
        have hdW2 := lt_of_blk hd'
        have hfl : (Lib.fields x.data.toList).length ≤ 100000 := by
          rw [Lib.fields_length]; have := cntF_le true x.data.toList; simp at this; omega
        clear h hd hd' hs3 hk31 hk32 b6 b7 b8 hlr z4 z3
        have hf3 : Fence.wide.fn 106 := trivial
        gi_wp2_with (gi_at_call 106; refine (CallsIn.inRound l (callsIn_wide.2 (Tryz.strings_Fields x _ (by omega) (fun j b hb => hga b (List.mem_of_getElem? hb)) (tab_of HT.out H.out.b)))).mono ?_; rintro e w' ⟨rfl, rfl⟩)
        obtain ⟨fs, hfs⟩ : ∃ fs, Lib.fields x.data.toList = fs := ⟨_, rfl⟩
        have hrp : rP x.data.toList = fs.map fun k => (k, fs.headD []) := by unfold rP; rw [hfs]
        obtain ⟨hq0, hhd⟩ : ∃ q, fs.headD [] = q := ⟨_, rfl⟩
        rw [hhd] at hrp
        rw [hfs] at hfl ⊢
        generalize hB : (fs.map fun l => Value.string ⟨l.toArray⟩).toArray = cs
        have hcs : ∀ k, (hk : k < fs.length) → cs[k]? = some (.string ⟨fs[k].toArray⟩) := fun k hk => by rw [← hB]; simp [hk]
        have HC := Lib.hid hcs
        have hlong : ∀ k, (hk : k < fs.length) → (fs[k]).length ≤ 100000 := fun k hk => by
          have h1 := fields_le x.data.toList [] fs[k] (by have : Lib.fieldsGo [] x.data.toList = fs := hfs; rw [this]; exact List.getElem_mem hk)
          simp at h1; omega
        have HL := Lib.hid hlong
        clear hB hcs hlong
        have hfb : (W.alloc (.cells cs 9)).heap[W.heap.size]? = some (.cells cs 9 (0, 0)) := blk_new _ _ rfl _
        have HF := Lib.hid hfb
        have hwl := H.out.b.size
        have hwp := lt_of_blk H.out.pt
        clear hfb hfs
        gi_wp2
        gi_loopw [34] (fun ix wr => ∃ k : Nat, k ≤ fs.length ∧ ix = .int .i64 (k : Int) ∧ ∃ n', n' ≤ n + k ∧ TSt w n' (foldD ((signsL.take 76 ++ (pre.flatMap (fun x => rP x.data.toList) ++ (fs.take k).map fun q => (q, hq0))).map toE) (.map [])) 35 wordD wr ∧
            wr.heap[D1]? = some (.deferred (some [])) ∧ wr.heap[D2]? = some (.deferred (some [])) ∧ wr.heap[W.heap.size]? = some (.cells cs 9 (0, 0)) ∧ Keep (fun r => r = w.heap.size) W wr)
          (fun ix _ => fs.length - (intOf ix).toNat)
        case atStart => exact ⟨0, Nat.zero_le _, rfl, n, by omega, by simpa using H.out.grown (World.grownBy_alloc W _ none) (fun r e => by cases e), blk_alloc HD.out _, blk_alloc HD'.out _, HF.out, Keep.grown (World.grownBy_alloc W _ none) (fun r e => by cases e)⟩
        case round =>
          obtain ⟨k, hk, rfl, n', hn', ht, hd, hd', hfb, hkp⟩ := hrel
          have k1 : wr.cell? ⟨w.heap.size + 1 + 1 + 1, 0, none⟩ = some (.pointer (some ⟨w.heap.size + 1 + 1, 0, none⟩)) := by rw [cell_of_row _ _ _ _ _ _ ht.pt]; rfl
          have k2 : wr.cell? ⟨w.heap.size + 1 + 1, 0, none⟩ = some (.map (some w.heap.size)) := by rw [cell_of_row _ _ _ _ _ _ ht.p]; rfl
          by_cases hlt : k < fs.length
          · have hlz : (k : Int) < (fs.length : Int) := by omega
            have h0n : 0 < fs.length := by omega
            have k3 : wr.cell? ⟨W.heap.size, k, none⟩ = some (.string ⟨fs[k].toArray⟩) := by rw [cell_of_row _ _ _ _ _ _ hfb]; exact HC.out k hlt
            have k4 : wr.cell? ⟨W.heap.size, 0, none⟩ = some (.string ⟨(hq0).toArray⟩) := by
              rw [cell_of_row _ _ _ _ _ _ hfb, HC.out 0 (by omega)]
              cases fs with
              | nil => simp at hlt
              | cons a t => simp at hhd; subst hhd; rfl
            have h0 : (0 : Int) < (fs.length : Int) := by omega
            have hh : hq0.length ≤ 100000 := by
              cases fs with
              | nil => simp at hlt
              | cons a t => simp at hhd; subst hhd; exact HL.out 0 (by simp)
            obtain ⟨w2, hrun, hown2, hg2⟩ := (ownsMap_block ht.c rfl : wr.drew.ownsMap Tryz.prog 9 (plainElem Tryz.prog 9) w.heap.size n' _).update (Maps.string_keyed Tryz.underlying9) Tryz.underlying103 (by unfold maxLen; omega)
              (keyStr Tryz.underlying9 ⟨fs[k].toArray⟩ (by rw [ba_size]; have := HL.out k hlt; unfold maxLen; omega)) (plainElem_string Tryz.underlying9 (s := ⟨(hq0).toArray⟩) (by rw [ba_size]; unfold maxLen; omega))
            have T := Lib.hid ht
            have TD := Lib.hid hd
            have TD' := Lib.hid hd'
            have TF := Lib.hid hfb
            have TK := Lib.hid hkp
            have TO := Lib.hid hown2
            have TG := Lib.hid hg2
            clear ht hd hd' hfb hkp hown2 hg2
            gi_wp2
            have hS : wr.drew.cell? ⟨w.heap.size + 1 + 1 + 1, 0, none⟩ = some (.pointer (some ⟨w.heap.size + 1 + 1, 0, none⟩)) ∧ wr.drew.cell? ⟨w.heap.size + 1 + 1, 0, none⟩ = some (.map (some w.heap.size)) ∧ wr.drew.cell? ⟨W.heap.size, 0, none⟩ = some (.string ⟨(hq0).toArray⟩) := ⟨k1, k2, k4⟩
            have hq : ∀ (b : Nat) (v : Value), b ≠ w.heap.size → wr.cell? ⟨b, 0, none⟩ = some v → w2.cell? ⟨b, 0, none⟩ = some v := fun b v hb hv =>
              (Keep.grown (Y := fun r => r = w.heap.size) TG.out (fun r e => by cases e; exact .inl rfl)).cell (p := ⟨b, 0, none⟩) hb hv
            have hq1 := hq _ _ (by omega) k1
            have hq2 := hq _ _ (by omega) k2
            have hq3 := hq _ _ (by omega) k4
            refine region_round_held (S := fun A => A.cell? ⟨w.heap.size + 1 + 1 + 1, 0, none⟩ = some (.pointer (some ⟨w.heap.size + 1 + 1, 0, none⟩)) ∧ A.cell? ⟨w.heap.size + 1 + 1, 0, none⟩ = some (.map (some w.heap.size)) ∧ A.cell? ⟨W.heap.size, 0, none⟩ = some (.string ⟨(hq0).toArray⟩)) (by kernel_rfl) (by kernel_rfl) (fun _ _ h => h) ?_
            refine wpAnyH_take (i := 0) (v := _) rfl (by kernel_rfl) (by kernel_rfl) (by kernel_rfl) (fun _ _ _ h => h) (Or.inl ⟨by rfl, by (intro w hSw; obtain ⟨hS1, hS2, hS3⟩ := hSw; go_simp; try with_reducible rfl)⟩) hS ?_
            simp only [Act.put, List.setIfInBounds_toArray, List.set_cons_zero, List.set_cons_succ]
            refine wpAnyH_take (i := 1) (v := _) rfl (by kernel_rfl) (by kernel_rfl) (by kernel_rfl) (fun _ _ _ h => h) (Or.inl ⟨by rfl, by (intro w hSw; obtain ⟨hS1, hS2, hS3⟩ := hSw; go_simp; try with_reducible rfl)⟩) hS ?_
            simp only [Act.put, List.setIfInBounds_toArray, List.set_cons_zero, List.set_cons_succ]
            refine wpAnyH_take (i := 2) (v := _) rfl (by kernel_rfl) (by kernel_rfl) (by kernel_rfl) (fun _ _ _ h => h) (Or.inl ⟨by rfl, by (intro w hSw; obtain ⟨hS1, hS2, hS3⟩ := hSw; go_simp; try with_reducible rfl)⟩) hS ?_
            simp only [Act.put, List.setIfInBounds_toArray, List.set_cons_zero, List.set_cons_succ]
            refine wpAnyH_take (i := 3) (v := _) rfl (by kernel_rfl) (by kernel_rfl) (by kernel_rfl) (fun _ _ _ h => h) (Or.inl ⟨by rfl, by (intro w hSw; obtain ⟨hS1, hS2, hS3⟩ := hSw; go_simp; try with_reducible rfl)⟩) hS ?_
            simp only [Act.put, List.setIfInBounds_toArray, List.set_cons_zero, List.set_cons_succ]
            refine wpAnyH_take (i := 4) (v := _) rfl (by kernel_rfl) (by kernel_rfl) (by kernel_rfl) (fun _ _ _ h => h) (Or.inl ⟨by rfl, by (intro w hSw; obtain ⟨hS1, hS2, hS3⟩ := hSw; go_simp; try with_reducible rfl)⟩) hS ?_
            simp only [Act.put, List.setIfInBounds_toArray, List.set_cons_zero, List.set_cons_succ]
            refine wpAnyH_take (i := 5) (v := _) rfl (by kernel_rfl) (by kernel_rfl) (by kernel_rfl) (fun _ _ _ h => h) (Or.inl ⟨by rfl, by (intro w hSw; obtain ⟨hS1, hS2, hS3⟩ := hSw; go_simp; try with_reducible rfl)⟩) hS ?_
            simp only [Act.put, List.setIfInBounds_toArray, List.set_cons_zero, List.set_cons_succ]
            refine wpAnyH_take (i := 6) (v := _) rfl (by kernel_rfl) (by kernel_rfl) (by kernel_rfl) (fun _ _ _ h => h) (Or.inl ⟨by rfl, by (intro w hSw; obtain ⟨hS1, hS2, hS3⟩ := hSw; go_simp; try with_reducible rfl)⟩) hS ?_
            simp only [Act.put, List.setIfInBounds_toArray, List.set_cons_zero, List.set_cons_succ]
            refine wpAnyH_take (i := 7) (v := _) rfl (by kernel_rfl) (by kernel_rfl) (by kernel_rfl) (fun _ _ _ h => h) (Or.inl ⟨by rfl, by (intro w hSw; obtain ⟨hS1, hS2, hS3⟩ := hSw; go_simp; try with_reducible rfl)⟩) hS ?_
            simp only [Act.put, List.setIfInBounds_toArray, List.set_cons_zero, List.set_cons_succ]
            refine wpAnyH_ready (rs := [8]) (by kernel_rfl) (by simp) (AllReadyH.cons rfl (fun K hK => ?_) AllReadyH.nil)
            go_simp
            refine hK.out _ _ ⟨hq1, hq2, hq3⟩ (fun hS => ?_)
            clear hK K
            refine wpAnyH_done (by kernel_rfl) ?_ _
            gi_wp2
            go_roundw
            case rel =>
              have hb2 := TG.out
              refine ⟨k + 1, by omega, by simp, n' + 1, by omega, ⟨?_, ?_, ?_, ?_, ?_⟩, ?_, ?_, ?_, ?_⟩
              · exact grown_blk1 hb2 (by omega) T.out.p
              · exact grown_blk1 hb2 (by omega) T.out.pt
              · have e : (signsL.take 76 ++ (pre.flatMap (fun x => rP x.data.toList) ++ (fs.take (k + 1)).map fun q => (q, hq0))).map toE = (signsL.take 76 ++ (pre.flatMap (fun x => rP x.data.toList) ++ (fs.take k).map fun q => (q, hq0))).map toE ++ [(fs[k], .lit (.string (hq0)))] := by
                  rw [List.take_succ_eq_append_getElem hlt]; simp only [List.map_append, List.map_cons, List.map_nil, List.append_assoc]; rfl
                rw [e, foldD_snoc]
                simpa using TO.out
              · exact ownsMap_block T.out.d (hb2.block (w.heap.size + 1) (show w.heap.size + 1 < wr.heap.size from T.out.d.lt) (by intro e; injection e with e; omega))
              · exact (below_drew T.out.b).grown hb2 (below_drew T.out.b).size (fun q e => by cases e; omega)
              · exact grown_blk1 hb2 (by omega) TD.out
              · exact grown_blk1 hb2 (by omega) TD'.out
              · exact grown_blk1 hb2 (by omega) TF.out
              · exact TK.out.trans (⟨hb2.size, fun q hq hy => hb2.block q hq (fun e => by injection e with e; exact hy e)⟩ : Keep _ wr w2)
            case measure => simp [intOf]; omega
          · obtain rfl : k = fs.length := by omega
            have hlz : decide ((fs.length : Int) < (fs.length : Int)) = false := by simp
            have T := Lib.hid ht
            clear k1 k2 hfb
            gi_wp2
            refine ⟨hkp, n', ?_, ?_, hd, hd'⟩
            · simp; omega
            · have h := T.out
              rw [List.take_of_length_le (Nat.le_refl _), ← hrp] at h
              simpa using h
      case done3 =>
        rintro D3 xs3 W4 hD3 hxs3 ⟨n, hn, hst3, hd1, hd2⟩ hK3
        have hz4 := lt_of_blk hK3
        have e3 : xs3.flatMap (fun x => rP x.data.toList) = (splitL 124 [] S3.data.toList).flatMap rP := by rw [← hxs3, List.flatMap_map]
        rw [e3, z4] at hst3
        have hn2 : n ≤ 76 + 100001 * xs3.length := hn
        clear hxs3 e3 z4 z3 hs3 hk31 hk32 b6 b7 b8
        have hf4 : Fence.wide.fn 107 := trivial
        have H4 := Lib.hid hst3
        have HD1' := Lib.hid hd1
        have HD2' := Lib.hid hd2
        have HK3 := Lib.hid hK3
        have k1 : ∀ o, (W4.alloc o).cell? ⟨w.heap.size + 1 + 1 + 1, 0, none⟩ = some (.pointer (some ⟨w.heap.size + 1 + 1, 0, none⟩)) := fun o => by rw [cell_of_row _ _ _ _ _ _ (blk_alloc hst3.pt o)]; rfl
        have k10 : W4.cell? ⟨w.heap.size + 1 + 1 + 1, 0, none⟩ = some (.pointer (some ⟨w.heap.size + 1 + 1, 0, none⟩)) := by rw [cell_of_row _ _ _ _ _ _ hst3.pt]; rfl
        have k20 : W4.cell? ⟨w.heap.size + 1 + 1, 0, none⟩ = some (.map (some w.heap.size)) := by rw [cell_of_row _ _ _ _ _ _ hst3.p]; rfl
        clear hst3 hd1 hd2 hK3 k1
        gi_wp2_with (gi_at_range; refine wpListIn_range_own _ rfl _ 103 rfl 9 9 (Maps.string_keyed Tryz.underlying9) Tryz.underlying103 _ w.heap.size n signD rfl H4.out.c (fun w0 hrg0 hg0 hs0 => ?_))
        have hown0 : w0.ownsMap Tryz.prog 9 (plainElem Tryz.prog 4) (w.heap.size + 1) 35 wordD := H4.out.d.kept hg0 (by simp)
        have hb0 : Below w.heap.size w w0 := H4.out.b.grown hg0 H4.out.b.size (fun k e => by cases e)
        have hp0 : w0.heap[w.heap.size + 1 + 1]? = some (.cells #[.map (some w.heap.size), .map (some (w.heap.size + 1)), .int .i64 0] 106 (0, 0)) := by rw [hg0.block _ (lt_of_blk H4.out.p) (by simp)]; exact H4.out.p
        have hpt0 : w0.heap[w.heap.size + 1 + 1 + 1]? = some (.cells #[.pointer (some ⟨w.heap.size + 1 + 1, 0, none⟩)] 77 (0, 0)) := by rw [hg0.block _ (lt_of_blk H4.out.pt) (by simp)]; exact H4.out.pt
        have hq1 : w0.heap[D1]? = some (.deferred (some [])) := by rw [hg0.block _ (lt_of_blk HD1'.out) (by simp)]; exact HD1'.out
        have hq2 : w0.heap[D2]? = some (.deferred (some [])) := by rw [hg0.block _ (lt_of_blk HD2'.out) (by simp)]; exact HD2'.out
        have hq3 : w0.heap[D3]? = some (.deferred (some [])) := by rw [hg0.block _ (lt_of_blk HK3.out) (by simp)]; exact HK3.out
        clear k10 k20 hs0 hg0
        simp only [Act.put, List.setIfInBounds_toArray, List.set_cons_zero, List.set_cons_succ]
        gi_loopw [] (fun wr => ∃ left cnt, ∃ mst : Nat, wr.ranges Tryz.prog 9 (plainElem Tryz.prog 9) w.heap.size W4.heap.size n signD left cnt ∧ wr.ownsMap Tryz.prog 9 (plainElem Tryz.prog 4) (w.heap.size + 1) 35 wordD ∧
            wr.heap[w.heap.size + 1 + 1]? = some (.cells #[.map (some w.heap.size), .map (some (w.heap.size + 1)), .int .i64 (mst : Int)] 106 (0, 0)) ∧ wr.heap[w.heap.size + 1 + 1 + 1]? = some (.cells #[.pointer (some ⟨w.heap.size + 1 + 1, 0, none⟩)] 77 (0, 0)) ∧
            (wr.heap[D1]? = some (.deferred (some [])) ∧ wr.heap[D2]? = some (.deferred (some [])) ∧ wr.heap[D3]? = some (.deferred (some []))) ∧ Below w.heap.size w wr ∧ mst ≤ 3 ∧
            (∀ k : List UInt8, Maps.has signD (.string k) = true → left (.string k) = false → letd ⟨k.toArray⟩ = false → k.length ≤ mst))
          (fun wr => wr.rangeLeft w.heap.size W4.heap.size)
        case atStart => exact ⟨_, _, 0, hrg0, hown0, hp0, hpt0, ⟨hq1, hq2, hq3⟩, hb0, by omega, fun k h1 h2 _ => by rw [h1] at h2; cases h2⟩
        case round =>
          clear hrg0 hown0 hp0 hpt0 hq1 hq2 hq3 hb0 H4 HD1' HD2' HK3
          obtain ⟨left, cnt, mst, hrg, hown, hp, hpt, hds, hb, hm3, hall⟩ := hrel
          have hlq := hrg.left_eq
          have k1 : wr.cell? ⟨w.heap.size + 1 + 1 + 1, 0, none⟩ = some (.pointer (some ⟨w.heap.size + 1 + 1, 0, none⟩)) := by rw [cell_of_row _ _ _ _ _ _ hpt]; rfl
          have HRG := Lib.hid hrg
          have HOWN := Lib.hid hown
          have HP := Lib.hid hp
          have HPT := Lib.hid hpt
          have HDS := Lib.hid hds
          have HBB := Lib.hid hb
          have HALL := Lib.hid hall
          clear hrg hown hp hpt hds hb hall
          gi_wp2_with (gi_at_next; refine wpListIn_next_ranges _ rfl _ rfl 9 (Maps.string_keyed Tryz.underlying9) (plainElem Tryz.prog 9) (fun x : List UInt8 => Value.string ⟨x.toArray⟩) (fun x : List UInt8 => Value.string ⟨x.toArray⟩) (fun key kl h => by obtain ⟨x, rfl, _⟩ := Maps.keyOf_str Tryz.underlying9 h; exact ⟨x, rfl⟩) (fun v y h => str_inv Tryz.underlying9 h) w.heap.size W4.heap.size n signD left cnt rfl HRG.out (fun hc0 hl0 => ?_) (fun x c kl y w1 cnt1 hkey hlk hv hat hrg1 hlt hg1 hs1 hen => ?_))
          · obtain ⟨k3, h1, h2, h3⟩ := sign_three
            have hm : mst = 3 := by have := HALL.out k3 h1 (hl0 _) h2; omega
            subst hm
            obtain ⟨q1, q2, q3⟩ := HDS.out
            refine leaves3 q1 q2 q3 (by omega) (by omega) (by omega) ?_
            have hB3 : ∀ {b : Nat} {o : Obj}, wr.heap[b]? = some o → b ≠ D3 → b ≠ D2 → b ≠ D1 → (((wr.putObj D3 (.deferred none)).putObj D2 (.deferred none)).putObj D1 (.deferred none)).heap[b]? = some o := fun h a b c => blk_put_other (blk_put_other (blk_put_other h _ a) _ b) _ c
            have hp := HP.out
            have hsz := lt_of_blk hp
            have hbz := HBB.out.size
            have e1 : Below w.heap.size w (((wr.putObj D3 (.deferred none)).putObj D2 (.deferred none)).putObj D1 (.deferred none)) :=
              below_putObj _ (below_putObj _ (below_putObj _ HBB.out (by omega)) (by omega)) (by omega)
            refine ⟨_, results_tmp rfl _ _ _, _, rfl, ⟨by simp; omega, w.heap.size, w.heap.size + 1, n, 35, by simp; omega, by simp; omega, hB3 hp (by omega) (by omega) (by omega), ?_, ?_⟩, by omega, e1⟩
            · obtain ⟨es, cl, h, hh⟩ := HRG.out.owns
              exact ⟨es, cl, hB3 h (by omega) (by omega) (by omega), hh⟩
            · obtain ⟨es, cl, h, hh⟩ := HOWN.out
              exact ⟨es, cl, hB3 h (by omega) (by omega) (by omega), hh⟩
          · obtain ⟨x', he, rfl, hxl⟩ := Maps.keyOf_str Tryz.underlying9 hkey
            obtain rfl : x = x' := by simpa [encStr] using he
            have hhas := Maps.has_true_of_atKey hat
            refine (callsIn_wide.2 (c107 ⟨x.toArray⟩ _)).mono ?_
            rintro e w2 ⟨rfl, hb2⟩
            have hg2 := Below.grownBy hb2
            have hrg2 := hrg1.kept hg2 (by simp) (by simp)
            have hB2 : ∀ {b : Nat} {o : Obj}, wr.heap[b]? = some o → b ≠ W4.heap.size → w2.heap[b]? = some o := fun {b o} h hb => by
              have h1 : w1.heap[b]? = some o := grown_blk1 hg1 hb h
              rw [hg2.block b (lt_of_blk h1) (by simp)]; exact h1
            have hp2 := hB2 HP.out (by omega)
            have hpt2 := hB2 HPT.out (by omega)
            have hq1 := hB2 HDS.out.1 (by omega)
            have hq2 := hB2 HDS.out.2.1 (by omega)
            have hq3 := hB2 HDS.out.2.2 (by omega)
            have hbb2 : Below w.heap.size w w2 := (HBB.out.grown hg1 HBB.out.size (fun k e => by cases e; have := HBB.out.size; omega)).grown hg2 (HBB.out.grown hg1 HBB.out.size (fun k e => by cases e; have := HBB.out.size; omega)).size (fun k e => by cases e)
            have hown2 : w2.ownsMap Tryz.prog 9 (plainElem Tryz.prog 4) (w.heap.size + 1) 35 wordD := by
              obtain ⟨es, cl, h, hh⟩ := HOWN.out
              exact ⟨es, cl, hB2 h (by omega), hh⟩
            have hlq2 := hrg2.left_eq
            have m1 : w2.cell? ⟨w.heap.size + 1 + 1 + 1, 0, none⟩ = some (.pointer (some ⟨w.heap.size + 1 + 1, 0, none⟩)) := by rw [cell_of_row _ _ _ _ _ _ hpt2]; rfl
            have m2 : w2.cell? ⟨w.heap.size + 1 + 1, 2, none⟩ = some (.int .i64 (mst : Int)) := by rw [cell_of_row _ _ _ _ _ _ hp2]; rfl
            have m3 : w2.frozen? ⟨w.heap.size + 1 + 1, 2, none⟩ = false := frozen_of_row _ _ _ _ _ hp2
            have HR2 := Lib.hid hrg2
            have HP2 := Lib.hid hp2
            have HPT2 := Lib.hid hpt2
            have HQ := Lib.hid (And.intro hq1 (And.intro hq2 hq3))
            have HB2 := Lib.hid hbb2
            have HO2 := Lib.hid hown2
            have hlast : ∀ k : List UInt8, Maps.has signD (.string k) = true → (left (.string k) && !(Lit.string k).sameKey (.string x)) = false → k ≠ x → left (.string k) = false := fun k h1 h2 h3 => by
              rcases hl : left (.string k) with _ | _
              · rfl
              · rw [hl] at h2
                simp at h2
                have := WideAt.sameKey_eq h2
                injection this with this; exact absurd this h3
            clear hrg1 hrg2 hp2 hpt2 hq1 hq2 hq3 hbb2 hown2 hg1 hg2 hb2 hB2 hat hen hv k1
            rcases hl : letd ⟨x.toArray⟩ with _ | _
            · have hx3 := sign_le x hhas hl
              have hl' := Lib.hid hl
              clear hl
              gi_wp2
              refine region_np ?_
              go_region
              all_goals
                simp only [noPanic]
                gi_wp2
                go_roundw
                case rel =>
                  have hmx : max (mst : Int) (x.length : Int) = ((max mst x.length : Nat) : Int) := by omega
                  have hset := heap_setCell_same w2 (w.heap.size + 1 + 1) 2 _ _ (.int .i64 (max (mst : Int) (x.length : Int))) HP2.out
                  rw [hmx] at hset ⊢
                  have hgs := grown_set w2 (w.heap.size + 1 + 1) 2 (.int .i64 ((max mst x.length : Nat) : Int))
                  have hgs := grown_drew hgs
                  have hne : W4.heap.size ≠ w.heap.size + 1 + 1 := by omega
                  refine ⟨_, cnt1, max mst x.length, (HR2.out.kept hgs (by intro e; injection e with e; omega) (by intro e; injection e with e; exact hne e) : World.ranges _ _ _ _ _ _ _ _ _ _), (HO2.out.kept hgs (by intro e; injection e with e; omega) : World.ownsMap _ _ _ _ _ _ _), hset, grown_blk1 hgs (by omega) HPT2.out, ⟨grown_blk1 hgs (by omega) HQ.out.1, grown_blk1 hgs (by omega) HQ.out.2.1, grown_blk1 hgs (by omega) HQ.out.2.2⟩, below_drew (HB2.out.setCell (p := ⟨w.heap.size + 1 + 1, 2, none⟩) (by simp; omega) _), by omega, fun k h1 h2 h3 => ?_⟩
                  by_cases hkx : k = x
                  · subst hkx; omega
                  · have := HALL.out k h1 (hlast k h1 h2 hkx) h3; omega
                case measure => rw [show World.rangeLeft _ _ _ = cnt1 from World.ranges.left_eq (P := Tryz.prog) (HR2.out.kept (grown_drew (grown_set w2 (w.heap.size + 1 + 1) 2 (.int .i64 (max (mst : Int) (x.length : Int))))) (by intro e; injection e with e; omega) (by intro e; injection e with e; omega)), hlq]; omega
            · have hl' := Lib.hid hl
              clear hl
              gi_wp2
              go_roundw
              case rel => exact ⟨_, cnt1, mst, HR2.out, HO2.out, HP2.out, HPT2.out, HQ.out, HB2.out, hm3, fun k h1 h2 h3 => HALL.out k h1 (hlast k h1 h2 (fun e => by subst e; rw [hl'.out] at h3; cases h3)) h3⟩
              case measure => rw [hlq2, hlq]; omega
end Go.Proofs.YtagcfgoofiibfaaGreatDoor
