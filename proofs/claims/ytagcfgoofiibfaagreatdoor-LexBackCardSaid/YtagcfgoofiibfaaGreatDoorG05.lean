/- The lexer and what it reaches: part 5 of 41: C3, K0. -/
import Derived.Test.YtagcfgoofiibfaaGreatDoorG03
import Derived.Test.YtagcfgoofiibfaaGreatDoorG04
import Derived.Maps.Own
set_option linter.unusedVariables false
set_option linter.unusedSimpArgs false
namespace Go.Proofs.YtagcfgoofiibfaaGreatDoor
open Go.RowKit

theorem Tryz.underlying103 : Tryz.prog.underlying 103 = some (.map 9 9) := by kernel_rfl
theorem Tryz.underlying104 : Tryz.prog.underlying 104 = some (.map 9 4) := by kernel_rfl
theorem Tryz.underlying9 : Tryz.prog.underlying 9 = some .string := by kernel_rfl
theorem Tryz.underlying4 : Tryz.prog.underlying 4 = some .bool := by kernel_rfl

/-- the table, below block g -/
def TabAt (g : Nat) (p : Nat) (w : World) : Prop := p < g ∧ ∃ cb wb n1 n2, cb < g ∧ wb < g ∧ w.heap[p]? = some (.cells #[.map (some cb), .map (some wb), .int .i64 3] 106 (0, 0)) ∧
  w.ownsMap Tryz.prog 9 (plainElem Tryz.prog 9) cb n1 signD ∧ w.ownsMap Tryz.prog 9 (plainElem Tryz.prog 4) wb n2 wordD

theorem ownsMap_block {H : Type} {P : Program} {k : TypeId} {R : Value → Option (DataW H × List MemPlace)} {b n : Nat} {D : DataW H} {w w' : World} (h : w.ownsMap P k R b n D) (hb : w'.heap[b]? = w.heap[b]?) : w'.ownsMap P k R b n D := by
  obtain ⟨es, clock, h1, h2⟩ := h
  exact ⟨es, clock, hb.trans h1, h2⟩
theorem TabAt.below {g p : Nat} {w w' : World} (h : TabAt g p w) (hb : Below g w w') : TabAt g p w' := by
  obtain ⟨hp, cb, wb, n1, n2, h1, h2, h3, h4, h5⟩ := h
  exact ⟨hp, cb, wb, n1, n2, h1, h2, by rw [hb.block p hp, h3], ownsMap_block h4 (hb.block cb h1), ownsMap_block h5 (hb.block wb h2)⟩
theorem TabAt.mono {g g' p : Nat} {w : World} (h : TabAt g p w) (hg : g ≤ g') : TabAt g' p w := by
  obtain ⟨hp, cb, wb, n1, n2, h1, h2, h3⟩ := h
  exact ⟨by omega, cb, wb, n1, n2, by omega, by omega, h3⟩

theorem zero4 (w : World) : (zeroValue 4).run Tryz.prog w = .ok (.bool false) w := by kernel_rfl
theorem zero9 (w : World) : (zeroValue 9).run Tryz.prog w = .ok (.string ByteArray.empty) w := by kernel_rfl
theorem ext_max (s : ByteArray) (i j : Nat) (h : s.size ≤ 1073741824) : (s.extract i j).size ≤ maxLen := by
  have h1 : (s.extract i j).size ≤ s.size := by simp [ByteArray.size_extract]; omega
  have h2 : (1073741824 : Nat) ≤ maxLen := by decide
  omega

theorem TabAt.lookW {g p : Nat} {w : World} (h : TabAt g p w) (k : ByteArray) (hk : k.size ≤ maxLen) : ∃ cb wb, w.cell? ⟨p, 0, none⟩ = some (.map (some cb)) ∧ w.cell? ⟨p, 1, none⟩ = some (.map (some wb)) ∧ w.cell? ⟨p, 2, none⟩ = some (.int .i64 3) ∧
    (∀ n, (Instr.lookup 104 (.map (some wb)) (.string k) false).run Tryz.prog (w.drewN n) = .ok (.bool (isWord k)) (w.drewN n)) ∧
    (∀ n, (Instr.lookup 103 (.map (some cb)) (.string k) true).run Tryz.prog (w.drewN n) = .ok (.tuple #[.string ((canonOf k).getD ByteArray.empty), .bool (canonOf k).isSome]) (w.drewN n)) ∧
    (∀ n, (Instr.lookup 103 (.map (some cb)) (.string k) false).run Tryz.prog (w.drewN n) = .ok (.string ((canonOf k).getD ByteArray.empty)) (w.drewN n)) := by
  obtain ⟨hp, cb, wb, n1, n2, h1, h2, h3, h4, h5⟩ := h
  have K := Maps.string_keyed Tryz.underlying9
  have kk := keyStr Tryz.underlying9 k hk
  refine ⟨cb, wb, by rw [cell_of_row _ _ _ _ _ _ h3]; rfl, by rw [cell_of_row _ _ _ _ _ _ h3]; rfl, by rw [cell_of_row _ _ _ _ _ _ h3]; rfl, fun n => ?_, fun n => ?_, fun n => ?_⟩
  · have h5' : (w.drewN n).ownsMap Tryz.prog 9 (plainElem Tryz.prog 4) wb n2 wordD := ownsMap_block h5 rfl
    obtain ⟨v, ps, hr, hv⟩ := h5'.lookup K Tryz.underlying104 (zero4 _) (plainElem_bool Tryz.underlying4 false) kk
    rw [wordD_at] at hv
    rw [hr, plainElem_bool_inv Tryz.underlying4 hv]
  · have h4' : (w.drewN n).ownsMap Tryz.prog 9 (plainElem Tryz.prog 9) cb n1 signD := ownsMap_block h4 rfl
    obtain ⟨v, ps, hr, hv⟩ := h4'.look_ok K Tryz.underlying103 (zero9 _) (plainElem_string Tryz.underlying9 (s := ByteArray.empty) (by decide)) kk
    have e : signD.atKey (.string k.data.toList) (.lit (.string ByteArray.empty.data.toList)) = _ := signD_at k
    rw [e] at hv
    rw [hr, plainElem_str_inv Tryz.underlying9 hv, signD_has]
  · have h4' : (w.drewN n).ownsMap Tryz.prog 9 (plainElem Tryz.prog 9) cb n1 signD := ownsMap_block h4 rfl
    obtain ⟨v, ps, hr, hv⟩ := h4'.lookup K Tryz.underlying103 (zero9 _) (plainElem_string Tryz.underlying9 (s := ByteArray.empty) (by decide)) kk
    have e : signD.atKey (.string k.data.toList) (.lit (.string ByteArray.empty.data.toList)) = _ := signD_at k
    rw [e] at hv
    rw [hr, plainElem_str_inv Tryz.underlying9 hv]

/-- the cells of a token -/
def tokCells (t : Tk) (dv : Value) : List Value := [.int .i64 t.k, .string t.s, .bool false, dv, .int .i64 (t.at_ : Int), .int .i64 (t.en : Int), .int .i64 t.line, .int .i64 t.col]

/-- whole numbers behind a value -/
def IntsAt (w : World) (v : Value) (l : List Int) : Prop := w.ownsRow 0 3 1 v l.length (l.map (Value.int .i64))
theorem IntsAt.nil (w : World) : IntsAt w (.slice none 0 0) [] := World.ownsRow_nil w 0 3 1
theorem IntsAt.modd {g : Nat} {w w' : World} {v : Value} {l : List Int} (h : IntsAt w v l) (hm : Modd g w w') : IntsAt w' v l := ownsRow_modd hm h
theorem IntsAt.one {w : World} {v : Value} {l : List Int} (h : IntsAt w v l) : v.oneCell' = true := by
  rcases h.2 with ⟨rfl, _⟩ | ⟨b, cap, cur, rfl, _⟩ <;> rfl

/-- tokens in a row -/
def RowsAt (w : World) : List Tk → List Value → Prop
  | [], xs => xs = []
  | t :: ts, xs => ∃ dv ys, IntsAt w dv t.d ∧ xs = tokCells t dv ++ ys ∧ RowsAt w ts ys
theorem RowsAt.modd {g : Nat} {w w' : World} (hm : Modd g w w') : ∀ {ts : List Tk} {xs : List Value}, RowsAt w ts xs → RowsAt w' ts xs
  | [], _, h => h
  | _ :: _, _, ⟨dv, ys, h1, h2, h3⟩ => ⟨dv, ys, h1.modd hm, h2, RowsAt.modd hm h3⟩
theorem RowsAt.snoc {w : World} {t : Tk} {dv : Value} (hd : IntsAt w dv t.d) : ∀ {ts : List Tk} {xs : List Value}, RowsAt w ts xs → RowsAt w (ts ++ [t]) (xs ++ tokCells t dv)
  | [], _, h => by cases h; exact ⟨dv, [], hd, by simp, rfl⟩
  | _ :: _, _, ⟨dv', ys, h1, h2, h3⟩ => ⟨dv', _, h1, by rw [h2, List.append_assoc], RowsAt.snoc hd h3⟩

/-- the scanner with its tokens and comments -/
def SC (g : Nat) (s : ByteArray) (i : Nat) (tb : Value) (ps : List Tk) (ys : List (Nat × Nat)) (w : World) : Prop :=
  ∃ vo vc xs, Scn g s i tb vo vc ps.length xs ys.length (spanCells ys) w ∧ RowsAt w ps xs

/-- a row below whatever turned is as it was -/
theorem ownsRow_blocks {w w' : World} {B : Nat} {e : TypeId} {sz : Nat} {v : Value} {n : Nat} {xs : List Value} (h : w.ownsRow B e sz v n xs) (hb : ∀ k, v.ownBlock = some k → w'.heap[k]? = w.heap[k]?) : w'.ownsRow B e sz v n xs := by
  refine ⟨h.1, ?_⟩
  rcases h.2 with h1 | ⟨b, cap, cur, hv, h2, hg, h3⟩
  · exact .inl h1
  · exact .inr ⟨b, cap, cur, hv, h2, by rw [hb b (by rw [hv]; rfl)]; exact hg, h3⟩

theorem Scn.below {g : Nat} {s : ByteArray} {i : Nat} {tb vo vc : Value} {m : Nat} {xs : List Value} {c : Nat} {ys : List Value} {w w' : World} (H : Scn g s i tb vo vc m xs c ys w) (h : Below w.heap.size w w') : Scn g s i tb vo vc m xs c ys w' :=
  ⟨by rw [h.block g H.lt]; exact H.blk, ownsRow_blocks H.ro fun k hk => h.block k (H.ro.lt k hk).2, ownsRow_blocks H.rc fun k hk => h.block k (H.rc.lt k hk).2⟩
theorem SC.below {g : Nat} {s : ByteArray} {i : Nat} {tb : Value} {ps : List Tk} {ys : List (Nat × Nat)} {w w' : World} (H : SC g s i tb ps ys w) (h : Below w.heap.size w w') : SC g s i tb ps ys w' := by
  obtain ⟨vo, vc, xs, h1, h2⟩ := H
  exact ⟨vo, vc, xs, h1.below h, h2.modd (Below.modd h 0 (Nat.zero_le _))⟩
theorem SC.dr {g : Nat} {s : ByteArray} {i : Nat} {tb : Value} {ps : List Tk} {ys : List (Nat × Nat)} {w : World} (H : SC g s i tb ps ys w) (n : Nat) : SC g s i tb ps ys (w.drewN n) := H.below (Dr.below (Dr.here _ _) _)

/-- behind a token's step -/
def ScTok (g : Nat) (s : ByteArray) (i : Nat) (tb : Value) (r : Except Int Tk) (ps : List Tk) (ys : List (Nat × Nat)) (w : World) (e : Ending) (w' : World) : Prop :=
  match r with
  | .ok p => e = .returned (.tuple #[]) ∧ SC g s p.en tb (ps ++ [p]) ys w' ∧ Modd g w w'
  | .error er => e = .panicked [{ v := .iface 134 (.agg #[.int .i64 (i : Int), .int .i64 er]), recovered := false }] ∧ Modd g w w'

theorem c158s (g : Nat) (s : ByteArray) (i : Nat) (tb : Value) (ps : List Tk) (ys : List (Nat × Nat)) (kd : Int) (ts : ByteArray) (dv : Value) (d : List Int) (n : Nat) (w : World)
    (H : SC g s i tb ps ys w) (hd : IntsAt w dv d) (hm : ps.length ≤ 1073741824) (hi : i ≤ 140737488355328) (hn : n ≤ 140737488355328) :
    Calls Tryz.prog 158 #[.pointer (some ⟨g, 0, none⟩), .agg #[.int .i64 kd, .string ts, .bool false, dv, .int .i64 0, .int .i64 0, .int .i64 0, .int .i64 0], .int .i64 (n : Int)] w
      fun e w' => e = .returned (.tuple #[]) ∧ SC g s (i + n) tb (ps ++ [⟨kd, ts, d, i, i + n, 0, 0⟩]) ys w' ∧ Modd g w w' := by
  obtain ⟨vo, vc, xs, h1, h2⟩ := H
  refine (c158 g s i tb vo vc kd ts false dv 0 0 0 0 n ps.length xs ys.length _ w h1 hm hi hn hd.one).mono ?_
  rintro e w' ⟨rfl, ⟨vo', h3⟩, h4⟩
  refine ⟨rfl, ⟨vo', vc, _, by rw [List.length_append]; exact h3, ?_⟩, h4⟩
  exact RowsAt.snoc (t := ⟨kd, ts, d, i, i + n, 0, 0⟩) (hd.modd h4) (h2.modd h4)

theorem c158L (g : Nat) (s : ByteArray) (i : Nat) (tb : Value) (ps : List Tk) (ys : List (Nat × Nat)) (kd : Int) (ts : ByteArray) (dv : Value) (d : List Int) (n : Nat) (z : Int) (w : World) (hz : z = (n : Int))
    (H : SC g s i tb ps ys w) (hd : IntsAt w dv d) (hm : ps.length ≤ 1073741824) (hi : i ≤ 140737488355328) (hn : n ≤ 140737488355328) :
    Calls Tryz.prog 158 #[.pointer (some ⟨g, 0, none⟩), .agg #[.int .i64 kd, .string ts, .bool false, dv, .int .i64 0, .int .i64 0, .int .i64 0, .int .i64 0], .int .i64 z] w
      fun e w' => e = .returned (.tuple #[]) ∧ SC g s (i + n) tb (ps ++ [⟨kd, ts, d, i, i + n, 0, 0⟩]) ys w' ∧ Modd g w w' := by
  subst hz; exact c158s g s i tb ps ys kd ts dv d n w H hd hm hi hn

theorem c150L (f : Nat) (p : Int → Bool) (hp : PredU8 f p) (g : Nat) (s : ByteArray) (i m j : Nat) (z : Int) (w : World) (hz : z = (m : Int)) (hj : i + m = j) (hs : w.cell? ⟨g, 0, none⟩ = some (.string s)) (ha : w.cell? ⟨g, 1, none⟩ = some (.int .i64 (i : Int)))
    (hsz : s.size ≤ 140737488355328) (hi : i ≤ 140737488355328) (hm : m ≤ 140737488355328) :
    Calls Tryz.prog 150 #[.pointer (some ⟨g, 0, none⟩), .int .i64 z, .func (.func f) #[] #[]] w fun e w' => e = .returned (.int .i64 (cnt p s j : Int)) ∧ Dr w w' := by
  subst hz hj; exact c150 f p hp g s i m w hs ha hsz hi hm
theorem c153L (g : Nat) (s : ByteArray) (i k j : Nat) (z : Int) (w : World) (hz : z = (k : Int)) (hj : i + k = j) (hs : w.cell? ⟨g, 0, none⟩ = some (.string s)) (ha : w.cell? ⟨g, 1, none⟩ = some (.int .i64 (i : Int)))
    (hsz : s.size ≤ 140737488355328) (hi : i ≤ 140737488355328) (hk : k ≤ 140737488355328) :
    Calls Tryz.prog 153 #[.pointer (some ⟨g, 0, none⟩), .int .i64 z] w fun e w' => e = .returned (.int .u8 (bt s j)) ∧ Dr w w' := by
  subst hz hj; exact c153 g s i k w hs ha hsz hi hk

theorem c76v (s p : ByteArray) (w : World) (v : Bool) (h : Lib.hasPrefix s.data.toList p.data.toList = v) : Calls Tryz.prog 76 #[.string s, .string p] w fun e w' => e = .returned (.bool v) ∧ w = w' :=
  (Tryz.strings_HasPrefix s p w).mono fun _ _ ⟨h1, h2⟩ => ⟨by rw [h1, ← h], h2.symm⟩

theorem c107 (s : ByteArray) (w : World) : Calls Tryz.prog 107 #[.string s] w fun e w' => e = .returned (.bool (letd s)) ∧ Below w.heap.size w w' := by
  go_enter Tryz.func107, Tryz.ntmps107
  go_wp2_with (go_at_call 143; refine (Tryz.strings_ContainsFunc 167 #[] (enters_of Tryz.func167 (by kernel_rfl) rfl) (fun r => ltr (r : Int)) s _ (fun W x _ => ?_)).mono ?_; rotate_left; rintro e w' ⟨rfl, hb⟩)
  · go_ret
    exact ⟨rfl, hb⟩
  · exact (c167 (x : Int) W).mono fun e w' h => ⟨h.1, 0, h.2.symm⟩
end Go.Proofs.YtagcfgoofiibfaaGreatDoor
namespace Go.Proofs.YtagcfgoofiibfaaGreatDoor
open Go.RowKit

theorem tokCells_len (t : Tk) (dv : Value) : (tokCells t dv).length = 8 := rfl
theorem RowsAt.len {w : World} : ∀ {ts : List Tk} {xs : List Value}, RowsAt w ts xs → xs.length = ts.length * 8
  | [], _, h => by cases h; rfl
  | t :: ts, _, ⟨dv, ys, h1, h2, h3⟩ => by rw [h2, List.length_append, tokCells_len, RowsAt.len h3]; simp; omega
/-- the token at an index -/
theorem RowsAt.get {w : World} : ∀ {ts : List Tk} {xs : List Value}, RowsAt w ts xs → ∀ (k : Nat) (t : Tk), ts[k]? = some t → ∃ dv, IntsAt w dv t.d ∧ ∀ j, j < 8 → xs[k * 8 + j]? = (tokCells t dv)[j]?
  | [], _, _, k, t, ht => by simp at ht
  | t0 :: ts, _, ⟨dv, ys, h1, h2, h3⟩, 0, t, ht => by
    simp only [List.getElem?_cons_zero, Option.some.injEq] at ht
    subst ht h2
    refine ⟨dv, h1, fun j hj => ?_⟩
    rw [List.getElem?_append_left (by rw [tokCells_len]; omega)]; congr 1; omega
  | t0 :: ts, _, ⟨dv, ys, h1, h2, h3⟩, k + 1, t, ht => by
    simp only [List.getElem?_cons_succ] at ht
    subst h2
    obtain ⟨dv', h4, h5⟩ := RowsAt.get h3 k t ht
    refine ⟨dv', h4, fun j hj => ?_⟩
    rw [List.getElem?_append_right (by rw [tokCells_len]; omega), tokCells_len, ← h5 j hj]; congr 1; omega
/-- a token with its place -/
def Tk.placedAt (t : Tk) (l c : Int) : Tk := { t with line := l, col := c }
theorem RowsAt.place {w : World} (l c : Int) : ∀ {ts : List Tk} {xs : List Value}, RowsAt w ts xs → ∀ (k : Nat) (t : Tk), ts[k]? = some t →
    RowsAt w (ts.set k (t.placedAt l c)) ((xs.set (k * 8 + 6) (.int .i64 l)).set (k * 8 + 7) (.int .i64 c))
  | [], _, _, k, t, ht => by simp at ht
  | t0 :: ts, _, ⟨dv, ys, h1, h2, h3⟩, 0, t, ht => by
    simp only [List.getElem?_cons_zero, Option.some.injEq] at ht
    subst ht h2
    exact ⟨dv, ys, h1, by simp [tokCells, Tk.placedAt], h3⟩
  | t0 :: ts, _, ⟨dv, ys, h1, h2, h3⟩, k + 1, t, ht => by
    simp only [List.getElem?_cons_succ] at ht
    subst h2
    have ih := RowsAt.place l c h3 k t ht
    refine ⟨dv, _, h1, ?_, ih⟩
    have e6 : (k + 1) * 8 + 6 = (k * 8 + 6) + 8 := by omega
    have e7 : (k + 1) * 8 + 7 = (k * 8 + 7) + 8 := by omega
    rw [List.set_append_right _ _ (by rw [tokCells_len]; omega), List.set_append_right _ _ (by rw [tokCells_len]; omega), tokCells_len]
    congr 3 <;> omega

/-- a row of tokens behind a value -/
def TokRow (w : World) (v : Value) (ts : List Tk) : Prop := ∃ xs, w.ownsRow 0 41 8 v ts.length xs ∧ RowsAt w ts xs
theorem TokRow.nil (w : World) : TokRow w (.slice none 0 0) [] := ⟨[], World.ownsRow_nil _ _ _ _, rfl⟩
theorem TokRow.below {w w' : World} {v : Value} {ts : List Tk} (h : TokRow w v ts) (hb : Below w.heap.size w w') : TokRow w' v ts := by
  obtain ⟨xs, h1, h2⟩ := h
  exact ⟨xs, ownsRow_blocks h1 fun k hk => hb.block k (h1.lt k hk).2, h2.modd (Below.modd hb 0 (Nat.zero_le _))⟩
theorem TokRow.form {w : World} {v : Value} {ts : List Tk} (h : TokRow w v ts) : (v = .slice none 0 0 ∧ ts = []) ∨
    ∃ b cap, v = .slice (some ⟨b, 0, none⟩) ts.length cap ∧ ts.length ≤ cap ∧ cap ≤ maxLen ∧ b < w.heap.size ∧ (∀ k, w.frozen? ⟨b, k, none⟩ = false) ∧
      ∀ (k : Nat) (t : Tk), ts[k]? = some t → ∃ dv, IntsAt w dv t.d ∧ ∀ j, j < 8 → w.cell? ⟨b, k * 8 + j, none⟩ = (tokCells t dv)[j]? := by
  obtain ⟨xs, h1, h2⟩ := h
  have hh := h1
  rcases h1.2 with ⟨rfl, h0⟩ | ⟨b, cap, cur, rfl, _, hg, hc, hm, hs, ht⟩
  · exact .inl ⟨rfl, List.eq_nil_of_length_eq_zero h0⟩
  · refine .inr ⟨b, cap, rfl, hc, hm, lt_of_blk hg, fun k => frozen_of_row _ _ _ _ _ hg, fun k t hk => ?_⟩
    obtain ⟨dv, h4, h5⟩ := h2.get k t hk
    refine ⟨dv, h4, fun j hj => ?_⟩
    have hkl : k < ts.length := by
      rcases Nat.lt_or_ge k ts.length with h | h
      · exact h
      · rw [List.getElem?_eq_none h] at hk; cases hk
    have h6 := h5 j hj
    have h7 : (tokCells t dv)[j]? = some ((tokCells t dv)[j]'(by rw [tokCells_len]; exact hj)) := List.getElem?_eq_getElem _
    rw [h7] at h6 ⊢
    have h8 := World.ownsRow.cells hh (g := b) rfl _ _ h6
    have e : (⟨b, 0, none⟩ : Addr).add (k * 8 + j) = ⟨b, k * 8 + j, none⟩ := by unfold Addr.add; split <;> simp_all
    rwa [e] at h8
end Go.Proofs.YtagcfgoofiibfaaGreatDoor
