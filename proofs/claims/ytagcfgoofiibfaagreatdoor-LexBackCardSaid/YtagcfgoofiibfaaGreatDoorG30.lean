/- The lexer and what it reaches: part 30 of 41: U5, U6, V0. -/
import Derived.Test.YtagcfgoofiibfaaGreatDoorG25
import Derived.Test.YtagcfgoofiibfaaGreatDoorG26
import Derived.Test.YtagcfgoofiibfaaGreatDoorG29
set_option linter.unusedVariables false
set_option linter.unusedSimpArgs false
namespace Go.Proofs
open Go.RowKit Go.Maps Go.Sort Go.Shelf

set_option maxHeartbeats 1000000 in
theorem Tryz.sorted71 {H : Type} (b nn : Nat) (D0 : DataW H) (R : Value → Option (DataW H × List MemPlace)) (w : World) (hown : w.ownsMap Tryz.prog 9 R b nn D0) (hmax : Maps.size D0 ≤ maxLen) (hbytes : Maps.size D0 * 16 ≤ 140737488355328) :
    Calls Tryz.prog 71 #[.map (some b)] w fun e w' => ∃ (v : Value) (ss : List (List UInt8)), e = .returned v ∧ ss.Perm (strKeys D0) ∧
      w'.ownsRow w.heap.size 9 1 v ss.length ((ss.mergeSort (fun x y => decide (x ≤ y))).map encStr) ∧ (v = .slice none 0 0 ↔ ss = []) ∧ Below w.heap.size w w' := by
  refine (callsIn_wide (n := 6)).1 ?_
  have hfK : Fence.wide.fn 110 := trivial
  have hfS : Fence.wide.fn 109 := trivial
  refine callsIn_of_wp Tryz.func71 rfl trivial ?_ rfl
  simp only [Tryz.ntmps71, List.size_toArray, List.length_cons, List.length_nil, Nat.reduceAdd, Nat.reduceSub, Array.replicate_succ, Array.replicate_zero, List.push_toArray, List.append_toArray, List.nil_append, List.cons_append]
  gi_wp2_with (first
    | (gi_at_call 110; refine (Tryz.maps_Keys_110 _ _).mono ?_; rintro e w' ⟨rfl, rfl⟩)
    | (gi_at_call 109; refine (Tryz.slices_Sorted_keys_109_110 b nn D0 R w hown hmax hbytes).mono ?_; rintro e w' ⟨v, ss, rfl, hS, hrow, hnil, hb⟩))
  go_ret
  exact ⟨v, ss, rfl, hS, ownsRow_base_a hrow (by simp), hnil, ((Below.refl _ w).alloc (Nat.le_refl _) _).trans (hb.mono (by simp))⟩
set_option maxHeartbeats 1000000 in
theorem Tryz.sorted83 {H : Type} (b nn : Nat) (D0 : DataW H) (R : Value → Option (DataW H × List MemPlace)) (w : World) (hown : w.ownsMap Tryz.prog 9 R b nn D0) (hmax : Maps.size D0 ≤ maxLen) (hbytes : Maps.size D0 * 16 ≤ 140737488355328) :
    Calls Tryz.prog 83 #[.map (some b)] w fun e w' => ∃ (v : Value) (ss : List (List UInt8)), e = .returned v ∧ ss.Perm (strKeys D0) ∧
      w'.ownsRow w.heap.size 9 1 v ss.length ((ss.mergeSort (fun x y => decide (x ≤ y))).map encStr) ∧ (v = .slice none 0 0 ↔ ss = []) ∧ Below w.heap.size w w' := by
  refine (callsIn_wide (n := 6)).1 ?_
  have hfK : Fence.wide.fn 127 := trivial
  have hfS : Fence.wide.fn 109 := trivial
  refine callsIn_of_wp Tryz.func83 rfl trivial ?_ rfl
  simp only [Tryz.ntmps83, List.size_toArray, List.length_cons, List.length_nil, Nat.reduceAdd, Nat.reduceSub, Array.replicate_succ, Array.replicate_zero, List.push_toArray, List.append_toArray, List.nil_append, List.cons_append]
  gi_wp2_with (first
    | (gi_at_call 127; refine (Tryz.maps_Keys_127 _ _).mono ?_; rintro e w' ⟨rfl, rfl⟩)
    | (gi_at_call 109; refine (Tryz.slices_Sorted_keys_109_127 b nn D0 R w hown hmax hbytes).mono ?_; rintro e w' ⟨v, ss, rfl, hS, hrow, hnil, hb⟩))
  go_ret
  exact ⟨v, ss, rfl, hS, ownsRow_base_a hrow (by simp), hnil, ((Below.refl _ w).alloc (Nat.le_refl _) _).trans (hb.mono (by simp))⟩
end Go.Proofs
namespace Go.Proofs.YtagcfgoofiibfaaGreatDoor
open Go Go.RowKit Go.Maps Go.Sort

theorem signD_keys : (strKeys signD).Perm (signsL.map (·.1)) := by decide +kernel
theorem wordD_keys : strKeys wordD = wordsL := by decide +kernel
theorem signD_size : Maps.size signD = 105 := by decide +kernel
theorem wordD_size : Maps.size wordD = 35 := by decide +kernel
/-- all spellings of signs, in order; the reserved words, in order -/
def signsS : List (List UInt8) := (signsL.map (·.1)).mergeSort leB
def wordsS : List (List UInt8) := wordsL.mergeSort leB
/-- strings in a row -/
def StrRow (B : Nat) (w : World) (v : Value) (L : List (List UInt8)) : Prop := w.ownsRow B 9 1 v L.length (L.map encStr)

set_option maxHeartbeats 1600000 in
theorem c29 (s : ByteArray) (w : World) (hs : s.size ≤ maxLen) (hT : TI w) : Calls Tryz.prog 29 #[.string s] w fun e w' => e = .returned (.string ((canonOf s).getD ByteArray.empty)) ∧ Below w.heap.size w w' := by
  have HC := Lib.hid (c69 w hT)
  clear hT
  go_enter Tryz.func29, Tryz.ntmps29
  go_wp2_with (go_at_call 69; ((with_reducible refine HC.out.mono ?_); rintro e w1 ⟨p, rfl, hp, hpl, hb1⟩; have HB1 := Lib.hid hb1; clear hb1; obtain ⟨cb, wb, k0, k1, k2, l1, l2, l3⟩ := hp.lookW s hs; have l30 := l3 0; rw [World.drewN_zero] at l30; clear hp l1 l2 l3))
  go_ret
  exact ⟨rfl, HB1.out⟩

set_option maxHeartbeats 1600000 in
theorem c43 (w : World) (hT : TI w) : Calls Tryz.prog 43 #[] w fun e w' => ∃ v, e = .returned v ∧ StrRow w.heap.size w' v wordsS ∧ Below w.heap.size w w' := by
  have HC := Lib.hid (c69 w hT)
  clear hT
  go_enter Tryz.func43, Tryz.ntmps43
  go_wp2_with (first | (go_at_call 69; ((with_reducible refine HC.out.mono ?_); rintro e w1 ⟨p, rfl, ⟨_, cb, wb, n1, n2, _, _, hbk, h4, h5⟩, hpl, hb1⟩; have HB1 := Lib.hid hb1; have k0 : w1.cell? ⟨p, 0, none⟩ = some (.map (some cb)) := (by rw [cell_of_row _ _ _ _ _ _ hbk]; rfl); have k1 : w1.cell? ⟨p, 1, none⟩ = some (.map (some wb)) := (by rw [cell_of_row _ _ _ _ _ _ hbk]; rfl); have H5 := Lib.hid h5; clear hb1 hbk h4 h5)) | (go_at_call 83; ((with_reducible refine (Tryz.sorted83 wb n2 wordD (plainElem Tryz.prog 4) _ H5.out (by rw [wordD_size]; decide) (by rw [wordD_size]; decide)).mono ?_); rintro e w2 ⟨v, ss, rfl, hss, hrow, hnil, hb2⟩; have HSS := Lib.hid hss; have HROW := Lib.hid hrow; have HB2 := Lib.hid hb2; obtain ⟨a2, cp2, rfl⟩ := row_form hrow; clear hss hrow hnil hb2)))
  go_ret
  refine ⟨_, rfl, ?_, HB1.out.trans (HB2.out.mono HB1.out.size)⟩
  have h1 := HSS.out
  rw [wordD_keys] at h1
  have h2 : ss.mergeSort leB = wordsS := mergeSort_of_perm h1
  have h3 := HROW.out
  have h4 : ss.length = wordsS.length := by rw [← h2, List.length_mergeSort]
  have h5 : (ss.mergeSort fun x y => decide (x ≤ y)) = wordsS := h2
  rw [h5, h4] at h3
  unfold StrRow
  rw [h4]
  exact Go.Joins.ownsRow_le h3 HB1.out.size

set_option maxHeartbeats 1600000 in
theorem c28 (w : World) (hT : TI w) : Calls Tryz.prog 28 #[] w fun e w' => ∃ v, e = .returned v ∧ StrRow w.heap.size w' v signsS ∧ Below w.heap.size w w' := by
  have HC := Lib.hid (c69 w hT)
  clear hT
  go_enter Tryz.func28, Tryz.ntmps28
  go_wp2_with (first | (go_at_call 69; ((with_reducible refine HC.out.mono ?_); rintro e w1 ⟨p, rfl, ⟨_, cb, wb, n1, n2, _, _, hbk, h4, h5⟩, hpl, hb1⟩; have HB1 := Lib.hid hb1; have k0 : w1.cell? ⟨p, 0, none⟩ = some (.map (some cb)) := (by rw [cell_of_row _ _ _ _ _ _ hbk]; rfl); have k1 : w1.cell? ⟨p, 1, none⟩ = some (.map (some wb)) := (by rw [cell_of_row _ _ _ _ _ _ hbk]; rfl); have H4 := Lib.hid h4; clear hb1 hbk h4 h5)) | (go_at_call 71; ((with_reducible refine (Tryz.sorted71 cb n1 signD (plainElem Tryz.prog 9) _ H4.out (by rw [signD_size]; decide) (by rw [signD_size]; decide)).mono ?_); rintro e w2 ⟨v, ss, rfl, hss, hrow, hnil, hb2⟩; have HSS := Lib.hid hss; have HROW := Lib.hid hrow; have HB2 := Lib.hid hb2; obtain ⟨a2, cp2, rfl⟩ := row_form hrow; clear hss hrow hnil hb2)))
  go_ret
  refine ⟨_, rfl, ?_, HB1.out.trans (HB2.out.mono HB1.out.size)⟩
  have h1 := HSS.out
  have h2 : ss.mergeSort leB = signsS := mergeSort_of_perm (h1.trans signD_keys)
  have h3 := HROW.out
  have h4 : ss.length = signsS.length := by rw [← h2, List.length_mergeSort]
  have h5 : (ss.mergeSort fun x y => decide (x ≤ y)) = signsS := h2
  rw [h5, h4] at h3
  unfold StrRow
  rw [h4]
  exact Go.Joins.ownsRow_le h3 HB1.out.size
end Go.Proofs.YtagcfgoofiibfaaGreatDoor
namespace Go.Proofs.YtagcfgoofiibfaaGreatDoor
open Go Go.RowKit

theorem limbsF_le : ∀ f n, (limbsF f n).length ≤ f
  | 0, _ => by simp [limbsF]
  | f + 1, n => by
    simp only [limbsF]
    split
    · simp
    · have := limbsF_le f (n / 1000000000); simp; omega
theorem valF_d {w : ByteArray} {b : Int} {d : List Int} (h : valF w b = some d) : d.length ≤ 45 := by
  unfold valF at h
  rcases hv : valN b w.data.toList 0 with _ | n
  · rw [hv] at h; cases h
  · rw [hv] at h
    simp only [Option.bind_some] at h
    split at h
    · injection h with h; subst h; exact limbsF_le 45 n
    · cases h
theorem sgn_d (s : ByteArray) (i : Nat) (p : Tk) : ∀ n, sgn s i n = .ok p → p.d = []
  | 0, h => by simp only [sgn] at h; cases h
  | n + 1, h => by
    simp only [sgn] at h
    split at h
    · split at h
      · exact sgn_d s i p n h
      · injection h with h; subst h; rfl
    · exact sgn_d s i p n h
theorem quo_d (s : ByteArray) (i : Nat) (p : Tk) : ∀ f k o, quo s i f k o = .ok p → p.d = []
  | 0, _, _, h => by simp only [quo] at h; cases h
  | f + 1, k, o, h => by
    simp only [quo] at h
    split at h
    · cases h
    split at h
    · split at h
      · cases h
      · injection h with h; subst h; rfl
    split at h
    · split at h
      · split at h
        · cases h
        · exact quo_d s i p f _ _ h
      · cases h
    split at h
    · cases h
    · exact quo_d s i p f _ _ h
theorem tokF_d (s : ByteArray) (i : Nat) (p : Tk) (h : tokF s i = .ok p) : p.d.length ≤ 45 := by
  unfold tokF at h
  split at h
  · unfold runF at h
    split at h
    · split at h
      · cases h
      · rename_i d hd
        injection h with h; subst h; exact valF_d hd
    split at h
    · injection h with h; subst h; simp
    split at h
    · injection h with h; subst h; simp
    split at h
    · injection h with h; subst h; simp
    split at h
    · cases h
    split at h
    · cases h
    · injection h with h; subst h; simp
  split at h
  · unfold basedF at h
    split at h
    · cases h
    · rename_i d hd
      injection h with h; subst h; exact valF_d hd
  split at h
  · rw [quo_d s i p _ _ _ h]; simp
  split at h
  · injection h with h; subst h; simp
  split at h
  · injection h with h; subst h; simp
  unfold signF at h
  split at h
  · injection h with h; subst h; simp
  · rw [sgn_d s i p _ h]; simp
theorem scnF_d (s : ByteArray) : ∀ (f i : Nat) (ps : List Tk) (ys : List (Nat × Nat)) (qs : List Tk) (zs : List (Nat × Nat)), (∀ p ∈ ps, p.d.length ≤ 45) → scnF s f i ps ys = .ok (qs, zs) → ∀ p ∈ qs, p.d.length ≤ 45
  | 0, i, ps, ys, qs, zs, hp, h => by simp only [scnF] at h; injection h with h; injection h with h1 h2; subst h1; exact hp
  | f + 1, i, ps, ys, qs, zs, hp, h => by
    simp only [scnF] at h
    split at h
    · cases h
    split at h
    · injection h with h; injection h with h1 h2; subst h1; exact hp
    · split at h
      · cases h
      · rename_i q hq
        refine scnF_d s f _ _ _ qs zs (fun p hpp => ?_) h
        rcases List.mem_append.1 hpp with h1 | h1
        · exact hp p h1
        · simp only [List.mem_singleton] at h1; subst h1; exact tokF_d s _ _ hq
theorem tokens_d {s : ByteArray} {ts : List Tk} (h : tokens s = .ok ts) : DLim ts := by
  unfold tokens at h
  split at h
  · cases h
  split at h
  · cases h
  · rename_i ps ys hs
    split at h
    · cases h
    · injection h with h; subst h
      intro t ht
      obtain ⟨p, hp, rfl⟩ := List.mem_map.1 ht
      have := scnF_d s _ _ _ _ _ _ (by simp) hs p hp
      show p.d.length ≤ 1000000
      omega
theorem tokens_er {s : ByteArray} {a : Nat} {e : Int} (h : tokens s = .error (a, e)) : e = 2 ∨ (20 ≤ e ∧ e ≤ 24) := by
  unfold tokens at h
  split at h
  · injection h with h; injection h with h1 h2; exact .inl h2.symm
  split at h
  · rename_i q hq
    injection h with h; subst h
    exact .inr (scan_err s a e hq)
  · split at h
    · injection h with h; injection h with h1 h2; exact .inl h2.symm
    · cases h

theorem TokRow.belowB {w w' : World} {v : Value} {ts : List Tk} (h : TokRow w v ts) {B : Nat} (hb : Below B w w') (hB : w.heap.size ≤ B) : TokRow w' v ts := h.below (hb.mono hB)

/-- whether a text has these tokens -/
def cutF (s : ByteArray) (b : List Tk) : Bool := match tokens s with | .ok l => likeL l b | .error _ => false

set_option maxRecDepth 100000 in
set_option maxHeartbeats 1600000 in
theorem c31 (h24 : C24) (s : ByteArray) (vb : Value) (b : List Tk) (w : World) (hT : TI w) (hb : TokRow w vb b) : Calls Tryz.prog 31 #[.string s, vb] w fun e w' => e = .returned (.bool (cutF s b)) ∧ Below w.heap.size w w' := by
  have hc := h24 s w hT
  obtain ⟨a2, cp2, rfl, _⟩ := hb.shape
  obtain ⟨r, hr⟩ : ∃ r, tokens s = r := ⟨_, rfl⟩
  rw [hr] at hc
  have HR := Lib.hid hr
  have HC := Lib.hid hc
  have HB := Lib.hid hb
  clear hc hb hr
  rcases r with ⟨a, er⟩ | l
  · have he := tokens_er HR.out
    have he1 : (er == 0) = false := by simp; omega
    have hcf : cutF s b = false := by unfold cutF; rw [HR.out]
    have HCF := Lib.hid hcf
    clear hcf he
    go_enter Tryz.func31, Tryz.ntmps31
    go_wp2_with (go_at_call 24; ((with_reducible refine HC.out.mono ?_); rintro e w' ⟨rfl, hb⟩; have HB1 := Lib.hid hb; clear hb))
    go_ret
    exact ⟨ret_bool HCF.out.symm, HB1.out⟩
  · have hd := tokens_d HR.out
    have hcf : cutF s b = likeL l b := by unfold cutF; rw [HR.out]
    have HCF := Lib.hid hcf
    have HD := Lib.hid hd
    clear hcf hd
    go_enter Tryz.func31, Tryz.ntmps31
    go_wp2_with (first | (go_at_call 24; ((with_reducible refine HC.out.mono ?_); rintro e w' ⟨⟨v, rfl, hv⟩, hb⟩; have HB1 := Lib.hid hb; have HV := Lib.hid hv; obtain ⟨a1, cp1, rfl, _⟩ := hv.shape; clear hb hv)) | (go_at_call 25; ((with_reducible refine (c25 _ _ l b _ HV.out.sl (HB.out.below HB1.out).sl HD.out).mono ?_); rintro e w2 ⟨rfl, hb⟩; have HB2 := Lib.hid hb; clear hb)))
    go_ret
    exact ⟨ret_bool HCF.out.symm, HB1.out.trans (HB2.out.mono HB1.out.size)⟩

/-- whether a text has an error at a byte -/
def refF (s : ByteArray) (at_ er : Int) : Bool := match tokens s with | .ok l => l.isEmpty && (at_ == 0) && (er == 0) | .error (a, e) => ((a : Int) == at_) && (e == er)
set_option maxRecDepth 100000 in
set_option maxHeartbeats 1600000 in
theorem c57 (h24 : C24) (s : ByteArray) (a : Nat) (er : Int) (w : World) (hT : TI w) (hr : tokens s = .error (a, er)) : Calls Tryz.prog 57 #[.string s, .int .i64 (a : Int), .int .i64 er] w fun e w' => e = .returned (.bool true) ∧ Below w.heap.size w w' := by
  have hc := h24 s w hT
  rw [hr] at hc
  have HR := Lib.hid hr
  have HC := Lib.hid hc
  clear hc hr
  go_enter Tryz.func57, Tryz.ntmps57
  go_wp2_with (go_at_call 24; ((with_reducible refine HC.out.mono ?_); rintro e w' ⟨rfl, hb⟩; have HB1 := Lib.hid hb; clear hb))
  go_ret
  exact ⟨rfl, HB1.out⟩
end Go.Proofs.YtagcfgoofiibfaaGreatDoor
namespace Go.Proofs.YtagcfgoofiibfaaGreatDoor
open Go Go.RowKit
attribute [local go_sem] Oper.semAt_some

theorem c190 (a : Option Addr) (n cp : Nat) (w : World) :
    Calls Tryz.prog 190 #[.slice a n cp] w fun e w' => e = .returned (.func (.func 216) #[] #[.pointer (some ⟨w.heap.size, 0, none⟩)]) ∧ w' = w.alloc (.cells #[.slice a n cp] 186) := by
  have hmf : ∀ (fn : Fn) (first cap : Array Value) (w : World), (Instr.makeFunc fn first cap).run Tryz.prog w = .ok (.func fn first cap) w := fun _ _ _ _ => rfl
  go_enter Tryz.func190, Tryz.ntmps190
  go_wp2
  go_ret
  exact ⟨rfl, rfl⟩

set_option maxRecDepth 100000 in
set_option maxHeartbeats 3200000 in
theorem c216 (m : Nat) (Bs : Nat) (a : Option Addr) (cp : Nat) (l : List Int) (hll : l.length ≤ 1000000) (Y : Nat → Prop) (hYb : ¬ Y Bs) (w : World) (hYw : ∀ r, Y r → r < w.heap.size)
    (hs : w.cell? ⟨Bs, 0, none⟩ = some (.slice a l.length cp)) (hx : l ≠ [] → ∃ g, a = some ⟨g, 0, none⟩ ∧ g < w.heap.size ∧ ¬ Y g ∧ ∀ j, j < l.length → w.cell? ⟨g, j, none⟩ = some (.int .i64 (atL l j))) :
    SeqV Tryz.prog m 216 #[.pointer (some ⟨Bs, 0, none⟩)] (fun k : Nat => #[.int .i64 (k : Int), .int .i64 (atL l k)]) (fun _ => False) Y
      (fun xs => ∀ i, i < l.length → i ∈ xs) (fun _ => True) (fun k => k < l.length) l.length w := by
  intro l0 J Jx W hW hl1 hl2 hJ hJx hY h0
  have hb1 : Bs < w.heap.size := World.block_lt_of_cell? w _ hs
  have hs' : W.cell? ⟨Bs, 0, none⟩ = some (.slice a l.length cp) := (hW.cell (p := ⟨Bs, 0, none⟩) hb1).trans hs
  have hsW := hW.size
  have HX : Hid (l ≠ [] → ∃ g, a = some ⟨g, 0, none⟩ ∧ g < w.heap.size ∧ ¬ Y g ∧ ∀ j, j < l.length → W.cell? ⟨g, j, none⟩ = some (.int .i64 (atL l j))) := Lib.hid (fun hne => by
    obtain ⟨g, e1, e2, e3, e4⟩ := hx hne
    exact ⟨g, e1, e2, e3, fun j hj => (hW.cell (p := ⟨g, j, none⟩) e2).trans (e4 j hj)⟩)
  have HY := Lib.hid hY
  have HJ0 := Lib.hid h0
  clear hY hJ h0 hs hJx hW hx
  refine callsIn_of_wp Tryz.func216 rfl trivial ?_ rfl
  simp only [Tryz.ntmps216, List.size_toArray, List.length_cons, List.length_nil, Nat.reduceAdd, Nat.reduceSub, Array.replicate_succ, Array.replicate_zero, List.push_toArray, List.append_toArray, List.nil_append, List.cons_append]
  gi_wp2
  gi_loopw [3] (fun ix wr => ∃ (k : Nat) (pre : List Nat), k ≤ l.length ∧ ix = .int .i64 ((k : Int) - 1) ∧ J pre wr ∧ pre.length + k = l.length ∧ (∀ i, k ≤ i → i < l.length → i ∈ pre) ∧ Keep (fun k => k = l0 ∨ Y k) W wr)
    (fun ix _ => (intOf ix + 1).toNat)
  case atStart =>
    exact ⟨l.length, [], Nat.le_refl _, rfl, HJ0.out, by simp, fun i a b => by omega, Keep.refl _ _⟩
  case round =>
    obtain ⟨k, pre, hk, rfl, hJd, hlen, hmem, hkp⟩ := hrel
    have HJd := Lib.hid hJd
    have HM := Lib.hid hmem
    have HK := Lib.hid hkp
    clear hJd HJ0 hmem hkp
    have nBs : ¬ (Bs = l0 ∨ Y Bs) := fun h => by rcases h with h | h; omega; exact hYb h
    have hsr : wr.cell? ⟨Bs, 0, none⟩ = some (.slice a l.length cp) := HK.out.cell (p := ⟨Bs, 0, none⟩) nBs hs'
    rcases k with _ | k
    · gi_wp2
      go_end0
      exact ⟨⟨_, rfl⟩, .inl ⟨pre, fun i hi => HM.out i (Nat.zero_le _) hi, HJd.out⟩⟩
    · obtain ⟨g, rfl, hg1, hg2, hg3⟩ := HX.out (by rintro rfl; simp at hk)
      have ek : ((k + 1 : Nat) : Int) - 1 = (k : Int) := by omega
      rw [ek]
      clear ek
      have ng : ¬ (g = l0 ∨ Y g) := fun h => by rcases h with h | h; omega; exact hg2 h
      have kx : wr.cell? ⟨g, k, none⟩ = some (.int .i64 (atL l k)) := HK.out.cell (p := ⟨g, k, none⟩) ng (hg3 k (by omega))
      have b1 : (k : Int) < (l.length : Int) := by omega
      have b0 : (0 : Int) ≤ (k : Int) := by omega
      obtain ⟨fn, tmps, assign, body, hy, hR⟩ := HY.out pre k wr HJd.out (by omega) (by omega)
      have HLEN := Lib.hid hlen
      clear hg3 hlen
      gi_wp2
      refine ⟨fun hd => (by cases hd), hR.mono ?_⟩
      rintro e W3 (⟨rfl, hJ3, hk3⟩ | ⟨rfl, hJx3⟩)
      · have HJ3 := Lib.hid hJ3
        have HK3 := Lib.hid hk3
        clear hJ3 hk3 hR hy hsr kx
        gi_wp2
        go_roundw
        case rel =>
          refine ⟨k, pre ++ [k], by omega, rfl, HJ3.out, by have := HLEN.out; simp; omega, fun i a b => ?_, HK.out.trans HK3.out⟩
          rcases Nat.lt_or_ge k i with q | q
          · exact List.mem_append_left _ (HM.out i q b)
          · rw [show i = k by omega]; simp
        case measure => simp [intOf]
      · gi_wp2
        refine bodyPost_ret (results_none rfl _ _ _) rfl ?_
        exact ⟨⟨_, rfl⟩, .inr ⟨_, trivial, hJx3⟩⟩

theorem compareInt_zero (x y : Int) : Lib.compareInt x y = 0 ↔ x = y := by
  unfold Lib.compareInt
  split
  · constructor <;> (intro h; omega)
  · split
    · constructor <;> (intro h; omega)
    · constructor
      · intro _; omega
      · intro _; rfl

/-- the invariant of compare's loop: equal so far; a stop: not equal -/
def CmI (l1 l2 : List Int) (w : World) (B : Nat) (g2 : Option Addr) (cp2 : Nat) (pre : List Nat) (W : World) : Prop := (∀ j ∈ pre, atL l1 j = atL l2 j) ∧ W.heap[B]? = some (.cells #[.slice g2 l2.length cp2] 186 (0, 0)) ∧ W.heap[B + 1]? = some (.cells #[.int .i64 0] 3 (0, 0)) ∧ Below w.heap.size w W
def CmX (l1 l2 : List Int) (w : World) (B : Nat) (c : Code) (pre : List Nat) (W : World) : Prop := c = .ret ∧ ∃ r : Int, r ≠ 0 ∧ l1 ≠ l2 ∧ W.heap[B + 1]? = some (.cells #[.int .i64 r] 3 (0, 0)) ∧ Below w.heap.size w W

end Go.Proofs.YtagcfgoofiibfaaGreatDoor
