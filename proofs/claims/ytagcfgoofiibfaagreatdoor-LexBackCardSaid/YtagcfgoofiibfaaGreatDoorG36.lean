/- The lexer and what it reaches: part 36 of 41: Q7, Q8. -/
import Derived.Test.YtagcfgoofiibfaaGreatDoorG35
set_option linter.unusedVariables false
set_option linter.unusedSimpArgs false
namespace Go.Proofs.YtagcfgoofiibfaaGreatDoor
open Go Go.RowKit

/-- a text of blanks and comments -/
structure Gap (κ : ByteArray) : Prop where
  sc : ∃ zs, Sc κ 0 [] zs
  nl : ∀ i, i < κ.size → sees κ i ⟨#[92, 42]⟩ = true → i + cnt (fun b => b != 10) κ i < κ.size
theorem Gap.glue {κ : ByteArray} (g : Gap κ) {t : ByteArray} {x : Nat} (H : Agr κ t 0 x κ.size) {ps : List Tk} {ys : List (Nat × Nat)} (h : Sc t (x + κ.size) ps ys) : ∃ zs, Sc t x ps zs := by
  obtain ⟨zs, hs⟩ := g.sc
  have h1 := hs.pt (Nat.zero_le _)
  have h2 := h1.move (i0 := 0) (j0 := x) (t := t) (by rw [Nat.sub_zero]; exact H) (Nat.zero_le _) (.inl rfl) (fun i hi hc hl => by
    have := g.nl i hi hl
    unfold item at hc
    rw [if_pos hl] at hc
    injection hc with hc
    omega)
  simp only [Nat.sub_self, Nat.sub_zero, Nat.add_zero, List.map_nil] at h2
  have hle := H.lt
  have h3 := h.pt hle
  exact ⟨_, (h2.app h3).sc (Nat.le_refl _)⟩
theorem Gap.end {κ : ByteArray} (g : Gap κ) {t : ByteArray} {x : Nat} (H : Agr κ t 0 x κ.size) (he : x + κ.size = t.size) : ∃ zs, Sc t x [] zs := g.glue H (.fin _ (by omega))
def gapOk (κ : ByteArray) : Bool := (match scan κ with | .ok (ps, _) => ps.isEmpty | .error _ => false) && (List.range κ.size).all fun i => !sees κ i ⟨#[92, 42]⟩ || decide (i + cnt (fun b => b != 10) κ i < κ.size)
theorem Gap.of {κ : ByteArray} (h : gapOk κ = true) : Gap κ := by
  unfold gapOk at h
  rw [Bool.and_eq_true] at h
  obtain ⟨h1, h2⟩ := h
  constructor
  · rcases hs : scan κ with a | ⟨ps, ys⟩
    · rw [hs] at h1; cases h1
    · rw [hs] at h1
      have : ps = [] := by simpa using h1
      subst this
      exact ⟨ys, (scan_ok_iff _ _ _).1 hs⟩
  · intro i hi hs
    have := List.all_eq_true.1 h2 i (List.mem_range.2 hi)
    rw [hs] at this
    simpa using this
/-- a token set at another place -/
theorem tok_glue {s t : ByteArray} {p : Tk} {x : Nat} (hi : p.at_ < s.size) (hb : blk (bt s p.at_) = false) (hc : item s p.at_ = .tok p) (H : Agr s t p.at_ x (p.en - p.at_)) (hbar : bar (bt t (x + (p.en - p.at_))) = true)
    {ps : List Tk} {ys : List (Nat × Nat)} (h : Sc t (x + (p.en - p.at_)) ps ys) : Sc t x (p.mv x :: ps) ys := by
  obtain ⟨g1, g2, g3, g4, g5, g6⟩ := item_tok s _ p hi hc
  have := tok_item_loc s t p.at_ x (p.en - p.at_) p hi hc H (by omega) hbar (.inl (by omega))
  have b0 := H.b 0 (by omega)
  rw [Nat.add_zero, Nat.add_zero] at b0
  have hlt := H.lt
  exact .tok x _ _ _ (by omega) (by rw [b0]; exact hb) this h

/-- SPELLINGS -/
def signItem (p : List UInt8 × List UInt8) : Bool := match item ⟨p.1.toArray⟩ 0 with
  | .tok q => q.k == 5 && q.s.data.toList == p.2 && q.d == [] && q.at_ == 0 && q.en == p.1.length && q.line == 0 && q.col == 0
  | _ => false
theorem sign_items : signsL.all (fun p => signItem p && !blk (bt ⟨p.1.toArray⟩ 0) && decide (0 < p.1.length)) = true := by decide +kernel
theorem sign_item {w c : ByteArray} (h : canonOf w = some c) : item w 0 = .tok ⟨5, c, [], 0, w.size, 0, 0⟩ ∧ blk (bt w 0) = false ∧ 0 < w.size := by
  unfold canonOf at h
  rcases hf : signsL.find? (fun p => p.1 == w.data.toList) with _ | q
  · rw [hf] at h; cases h
  · rw [hf] at h
    simp only [Option.map_some, Option.some.injEq] at h
    have hm := List.mem_of_find?_eq_some hf
    have he : q.1 = w.data.toList := by simpa using List.find?_some hf
    have h1 := List.all_eq_true.1 sign_items q hm
    rw [Bool.and_eq_true, Bool.and_eq_true, he] at h1
    have e : (⟨w.data.toList.toArray⟩ : ByteArray) = w := by apply ba_eq; simp
    rw [e] at h1
    unfold signItem at h1
    rw [he, e] at h1
    obtain ⟨⟨h1, h2⟩, h3⟩ := h1
    refine ⟨?_, by simpa using h2, by simpa using h3⟩
    split at h1
    · rename_i p hp
      rw [hp]
      rcases p with ⟨k, s, d, a, en, l, cl⟩
      simp only [Bool.and_eq_true, beq_iff_eq] at h1
      obtain ⟨⟨⟨⟨⟨⟨a1, a2⟩, a3⟩, a4⟩, a5⟩, a6⟩, a7⟩ := h1
      have : s = c := by rw [← h]; apply ba_eq; rw [a2]
      subst a1 a3 a4 a5 a6 a7 this
      simp
    · cases h1

def sp : ByteArray := ⟨#[32]⟩
theorem sp_size : sp.size = 1 := rfl
theorem sp_bt : bt sp 0 = 32 := rfl
theorem respell {s : ByteArray} {p1 p2 : List Tk} {p : Tk} {ys : List (Nat × Nat)} (h : Sc s 0 (p1 ++ p :: p2) ys) (hk : p.k = 5) (hd : p.d = []) (w : ByteArray) (hw : canonOf w = some p.s) :
    ∃ q1 q2 zs, Sc (s.extract 0 p.at_ ++ sp ++ w ++ sp ++ s.extract p.en s.size) 0 (q1 ++ ⟨5, p.s, [], p.at_ + 1, p.at_ + 1 + w.size, 0, 0⟩ :: q2) zs ∧ q1 = p1 ∧ q2 = p2.map fun q => q.mv (p.at_ + 1 + w.size + 1 + (q.at_ - p.en)) := by
  have hmem := h.mem p (by simp)
  obtain ⟨m1, m2, m3⟩ := hmem
  obtain ⟨g1, g2, g3, g4, g5, g6⟩ := item_tok s _ p m1 m3
  obtain ⟨w1, w2, w3⟩ := sign_item hw
  have hbd := h.bd
  -- the parts
  have key : ∀ (p1 : List Tk) (i : Nat) (ys : List (Nat × Nat)), Sc s i (p1 ++ p :: p2) ys → ∃ zs ws, Pt s p.at_ i p1 zs ∧ Sc s p.en p2 ws := by
    intro p1
    induction p1 with
    | nil => intro i ys h; obtain ⟨_, ⟨zs, h1⟩, ws, h2⟩ := h.split; exact ⟨zs, ws, h1, h2⟩
    | cons q p1 ih =>
      intro i ys h
      obtain ⟨_, ⟨zs, h1⟩, ws, h2⟩ := Sc.split h
      obtain ⟨zs', ws', h3, h4⟩ := ih _ _ h2
      have hq := h.mem q (by simp)
      exact ⟨_, _, h1.app (.tok _ _ _ _ hq.1 hq.2.1 hq.2.2 h3), h4⟩
  obtain ⟨zs, ws, h1, h2⟩ := key p1 0 ys h
  have e0 := size_ext s 0 p.at_ (by omega)
  have e1 := size_ext s p.en s.size (Nat.le_refl _)
  -- t
  have tsz : (s.extract 0 p.at_ ++ sp ++ w ++ sp ++ s.extract p.en s.size).size = p.at_ + 1 + w.size + 1 + (s.size - p.en) := by
    simp only [ByteArray.size_append, e0, e1, sp_size]; omega
  have t1 : ∀ k, k < p.at_ → bt (s.extract 0 p.at_ ++ sp ++ w ++ sp ++ s.extract p.en s.size) k = bt s k := fun k hk => by
    rw [bt_app1 _ _ _ (by simp only [ByteArray.size_append, e0, sp_size]; omega), bt_app1 _ _ _ (by simp only [ByteArray.size_append, e0, sp_size]; omega), bt_app1 _ _ _ (by simp only [ByteArray.size_append, e0, sp_size]; omega), bt_app1 _ _ _ (by omega), bt_ext s 0 _ k (by omega) (by omega), Nat.zero_add]
  have t2 : bt (s.extract 0 p.at_ ++ sp ++ w ++ sp ++ s.extract p.en s.size) p.at_ = 32 := by
    rw [bt_app1 _ _ _ (by simp only [ByteArray.size_append, e0, sp_size]; omega), bt_app1 _ _ _ (by simp only [ByteArray.size_append, e0, sp_size]; omega), bt_app1 _ _ _ (by simp only [ByteArray.size_append, e0, sp_size]; omega)]
    have := bt_app2 (s.extract 0 p.at_) sp 0
    rw [e0, Nat.add_zero, Nat.sub_zero] at this
    rw [this]; rfl
  have t3 : ∀ k, k < w.size → bt (s.extract 0 p.at_ ++ sp ++ w ++ sp ++ s.extract p.en s.size) (p.at_ + 1 + k) = bt w k := fun k hk => by
    rw [bt_app1 _ _ _ (by simp only [ByteArray.size_append, e0, sp_size]; omega), bt_app1 _ _ _ (by simp only [ByteArray.size_append, e0, sp_size]; omega)]
    have := bt_app2 (s.extract 0 p.at_ ++ sp) w k
    rw [ByteArray.size_append, e0, sp_size, Nat.sub_zero] at this
    exact this
  have t4 : bt (s.extract 0 p.at_ ++ sp ++ w ++ sp ++ s.extract p.en s.size) (p.at_ + 1 + w.size) = 32 := by
    rw [bt_app1 _ _ _ (by simp only [ByteArray.size_append, e0, sp_size]; omega)]
    have := bt_app2 (s.extract 0 p.at_ ++ sp ++ w) sp 0
    rw [ByteArray.size_append, ByteArray.size_append, e0, sp_size, Nat.sub_zero, Nat.add_zero] at this
    rw [this]; rfl
  have t5 : ∀ k, k < s.size - p.en → bt (s.extract 0 p.at_ ++ sp ++ w ++ sp ++ s.extract p.en s.size) (p.at_ + 1 + w.size + 1 + k) = bt s (p.en + k) := fun k hk => by
    have := bt_app2 (s.extract 0 p.at_ ++ sp ++ w ++ sp) (s.extract p.en s.size) k
    rw [ByteArray.size_append, ByteArray.size_append, ByteArray.size_append, e0, sp_size, Nat.sub_zero] at this
    rw [this, bt_ext s p.en s.size k hk (Nat.le_refl _)]
  generalize s.extract 0 p.at_ ++ sp ++ w ++ sp ++ s.extract p.en s.size = t at tsz t1 t2 t3 t4 t5
  have H1 : Agr s t 0 0 (p.at_ - 0) := ⟨by omega, by omega, fun k hk => by rw [Nat.zero_add]; exact t1 k (by omega)⟩
  have H2 : Agr w t 0 (p.at_ + 1) w.size := ⟨by omega, by omega, fun k hk => by rw [Nat.zero_add]; exact t3 k hk⟩
  have H3 : Agr s t p.en (p.at_ + 1 + w.size + 1) (s.size - p.en) := ⟨by omega, by omega, t5⟩
  have m1' := h1.move H1 (Nat.zero_le _) (.inr (by rw [Nat.zero_add, Nat.sub_zero, t2]; decide)) (fun i hi hc hl => by
    exfalso
    have := com_line s i _ hi hc hl m1
    rw [this] at m2; revert m2; decide)
  have h3 := h2.pt (by omega)
  have m3' := h3.move H3 (Nat.le_refl _) (.inr (bar_end _ _ (by omega))) (fun _ _ _ _ => .inl (by omega))
  simp only [Nat.zero_add, Nat.sub_zero, Nat.sub_self, Nat.add_zero] at m1' m3'
  have c3 := m3'.sc (by omega)
  have c2 : Sc t (p.at_ + 1 + w.size) _ _ := .blank _ _ _ (by omega) (by rw [t4]; decide) c3
  have it := tok_item_loc w t 0 (p.at_ + 1) w.size _ w3 w1 H2 (by simp) (by rw [t4]; decide) (.inl (by simp))
  have b0 := t3 0 w3
  rw [Nat.add_zero] at b0
  have c1 : Sc t (p.at_ + 1) _ _ := .tok _ _ _ _ (by omega) (by rw [b0]; exact w2) it (by
    show Sc t (p.at_ + 1 + (w.size - 0)) _ _
    rw [Nat.sub_zero]; exact c2)
  have c0 : Sc t p.at_ _ _ := .blank _ _ _ (by omega) (by rw [t2]; decide) c1
  have c := (m1'.app (c0.pt (by omega))).sc (Nat.le_refl _)
  have e : p1.map (fun p => p.mv p.at_) = p1 := by
    conv => rhs; rw [← List.map_id p1]
    refine List.map_congr_left fun q hq => ?_
    have := hbd q (by simp [hq])
    unfold Tk.mv; rcases q with ⟨k, s', d, at_, en, l, c⟩; simp only [id] at this ⊢; congr 1; omega
  rw [e] at c
  exact ⟨_, _, _, by simpa [Tk.mv] using c, rfl, rfl⟩
end Go.Proofs.YtagcfgoofiibfaaGreatDoor
namespace Go.Proofs.YtagcfgoofiibfaaGreatDoor
open Go Go.RowKit

/-- a byte of a text without its comments -/
def inC (ys : List (Nat × Nat)) (k : Nat) : Bool := ys.any fun y => decide (y.1 ≤ k) && decide (k < y.2)
theorem Sc.coms {s : ByteArray} {i : Nat} {ps : List Tk} {ys : List (Nat × Nat)} (h : Sc s i ps ys) : ∀ y ∈ ys, i ≤ y.1 ∧ y.1 < y.2 ∧ y.2 ≤ s.size := by
  induction h with
  | fin => intro y hy; cases hy
  | blank i ps ys hi hb _ ih => intro y hy; have := ih y hy; omega
  | com i j ps ys hi hb hc _ ih =>
    intro y hy
    have := item_com s i j hi hc
    rcases List.mem_cons.1 hy with rfl | hy
    · simp only []; omega
    · have := ih y hy; omega
  | tok i p ps ys hi hb hc _ ih => intro y hy; have := ih y hy; have := item_tok s i p hi hc; omega
theorem inC_no {ys : List (Nat × Nat)} {k i : Nat} (h : ∀ y ∈ ys, i ≤ y.1) (hk : k < i) : inC ys k = false := by
  unfold inC
  rw [List.any_eq_false]
  intro y hy
  have := h y hy
  simp; omega
theorem Sc.blanks {t : ByteArray} {ps : List Tk} {ys : List (Nat × Nat)} : ∀ (n i : Nat), (∀ k, i ≤ k → k < i + n → k < t.size ∧ blk (bt t k) = true) → Sc t (i + n) ps ys → Sc t i ps ys
  | 0, i, _, h => h
  | n + 1, i, hb, h => by
    have h0 := hb i (Nat.le_refl _) (by omega)
    refine .blank i _ _ h0.1 h0.2 (Sc.blanks n (i + 1) (fun k a b => hb k (by omega) (by omega)) ?_)
    rw [show i + 1 + n = i + (n + 1) by omega]; exact h
theorem Sc.nextcom {s : ByteArray} {i : Nat} {ps : List Tk} {y : Nat × Nat} {ys : List (Nat × Nat)} (h : Sc s i ps (y :: ys)) : y.1 < s.size ∧ (i = y.1 ∨ Go.Proofs.YtagcfgoofiibfaaGreatDoor.nm s y.1) ∧ ∀ z ∈ ys, y.2 ≤ z.1 := by
  generalize hq : y :: ys = zs at h
  induction h with
  | fin => cases hq
  | blank i ps zs hi hb _ ih =>
    have h1 := ih hq
    refine ⟨h1.1, .inr ?_, h1.2.2⟩
    rcases h1.2.1 with h2 | h2
    · rw [← h2]; exact nm_blank s i hb
    · exact h2
  | com i j ps zs hi hb hc h' ih =>
    injection hq with e1 e2
    subst e1 e2
    exact ⟨hi, .inl rfl, fun z hz => (h'.coms z hz).1⟩
  | tok i p ps zs hi hb hc _ ih =>
    have h1 := ih hq
    refine ⟨h1.1, .inr ?_, h1.2.2⟩
    rcases h1.2.1 with h2 | h2
    · rw [← h2]; exact item_nm_tok s i p hi hc
    · exact h2
/-- STRIPPED: the tokens are read as before -/
theorem strip_sc {s t : ByteArray} (hsz : t.size = s.size) {i : Nat} {ps : List Tk} {ys : List (Nat × Nat)} (h : Sc s i ps ys) :
    (∀ k, i ≤ k → inC ys k = false → bt t k = bt s k) → (∀ k, i ≤ k → inC ys k = true → blk (bt t k) = true) → Sc t i ps [] := by
  induction h with
  | fin i hi => intro _ _; exact .fin i (by omega)
  | blank i ps ys hi hb h' ih =>
    intro h1 h2
    have := h'.coms
    refine .blank i _ _ (by omega) ?_ (ih (fun k a b => h1 k (by omega) b) (fun k a b => h2 k (by omega) b))
    rw [h1 i (Nat.le_refl _) (inC_no (i := i + 1) (fun y hy => (this y hy).1) (by omega))]; exact hb
  | com i j ps ys hi hb hc h' ih =>
    intro h1 h2
    have hbd := item_com s i j hi hc
    have hco := h'.coms
    have key : ∀ k, inC ((i, j) :: ys) k = (decide (i ≤ k) && decide (k < j) || inC ys k) := fun k => by simp [inC]
    have h3 := ih (fun k a b => h1 k (by omega) (by rw [key, b]; simp; omega)) (fun k a b => h2 k (by omega) (by rw [key, b]; simp))
    refine Sc.blanks (j - i) i (fun k a b => ⟨by omega, h2 k a (by rw [key]; simp; left; omega)⟩) ?_
    rw [show i + (j - i) = j by omega]; exact h3
  | tok i p ps ys hi hb hc h' ih =>
    intro h1 h2
    obtain ⟨g1, g2, g3, g4, g5, g6⟩ := item_tok s i p hi hc
    have hco := h'.coms
    have h3 := ih (fun k a b => h1 k (by omega) b) (fun k a b => h2 k (by omega) b)
    have b0 := h1 i (Nat.le_refl _) (inC_no (i := p.en) (fun y hy => (hco y hy).1) g2)
    have hmv : p.mv i = p := by unfold Tk.mv; rcases p with ⟨k, s', d, at_, en, l, c⟩; simp only [] at g4 g2 ⊢; subst g4; congr 1; omega
    refine .tok i p _ _ (by omega) (by rw [b0]; exact hb) ?_ h3
    rcases ys with _ | ⟨y, ys⟩
    · have H : Agr s t i i (s.size - i) := ⟨by omega, by omega, fun k hk => h1 _ (by omega) rfl⟩
      have := tok_item_loc s t i i (s.size - i) p hi hc H (by omega) (bar_end _ _ (by omega)) (by
        right; left; rw [bt_out s _ (by omega)]; decide)
      rw [this, hmv]
    · have hn := h'.nextcom
      have hy := hco y (by simp)
      have hys : ∀ z ∈ y :: ys, y.1 ≤ z.1 := fun z hz => by
        rcases List.mem_cons.1 hz with rfl | hz
        · exact Nat.le_refl _
        · have := hn.2.2 z hz; omega
      have H : Agr s t i i (y.1 - i) := ⟨by omega, by omega, fun k hk => h1 _ (by omega) (inC_no hys (by omega))⟩
      have e : i + (y.1 - i) = y.1 := by omega
      have hbl := h2 y.1 (by omega) (by simp [inC]; left; omega)
      have := tok_item_loc s t i i (y.1 - i) p hi hc H (by omega) (by rw [e]; simp [bar, hbl]) (by
        rw [e]
        rcases hn.2.1 with h4 | h4
        · exact .inl h4
        · exact .inr h4)
      rw [this, hmv]
/-- without comments: blanks alone stand ahead of a token -/
theorem Sc.blank_ahead {s : ByteArray} {i : Nat} {p : Tk} {ps : List Tk} (h : Sc s i (p :: ps) []) : i ≤ p.at_ ∧ (∀ k, i ≤ k → k < p.at_ → blk (bt s k) = true) ∧ Sc s p.en ps [] := by
  generalize hq : p :: ps = qs at h
  generalize hy : ([] : List (Nat × Nat)) = ys at h
  induction h with
  | fin => cases hq
  | blank i ps ys hi hb _ ih =>
    obtain ⟨h1, h2, h3⟩ := ih hq hy
    refine ⟨by omega, fun k a b => ?_, h3⟩
    rcases Nat.lt_or_ge i k with q | q
    · exact h2 k q b
    · rw [show k = i by omega]; exact hb
  | com i j ps ys hi hb hc _ ih => cases hy
  | tok i p' ps' ys hi hb hc h' ih =>
    injection hq with e1 e2
    subst e1 e2 hy
    have := item_tok s i p hi hc
    exact ⟨by omega, fun k a b => by omega, h'⟩
theorem Sc.blank_end {s : ByteArray} {i : Nat} (h : Sc s i [] []) : ∀ k, i ≤ k → k < s.size → blk (bt s k) = true := by
  generalize hq : ([] : List Tk) = qs at h
  generalize hy : ([] : List (Nat × Nat)) = ys at h
  induction h with
  | fin i hi => intro k a b; omega
  | blank i ps ys hi hb _ ih =>
    intro k a b
    rcases Nat.lt_or_ge i k with q | q
    · exact ih hq hy k q b
    · rw [show k = i by omega]; exact hb
  | com i j ps ys hi hb hc _ ih => cases hy
  | tok i p' ps' ys hi hb hc h' ih => cases hq
end Go.Proofs.YtagcfgoofiibfaaGreatDoor
