/- The lexer and what it reaches: part 35 of 41: Q4, Q5, Q6. -/
import Derived.Test.YtagcfgoofiibfaaGreatDoorG34
set_option linter.unusedVariables false
set_option linter.unusedSimpArgs false
namespace Go.Proofs.YtagcfgoofiibfaaGreatDoor
open Go Go.RowKit

theorem ins_loc (s t : ByteArray) (q : Nat) : ∀ (f x y n : Nat) (d : Int) (f' : Nat), x ≤ s.size → ins s f x d = some q → Agr s t x y n → q ≤ x + n → t.size + 1 ≤ y + f' → ins t f' y d = some (y + (q - x))
  | 0, x, y, n, d, f', _, h, _, _, _ => by simp [ins] at h
  | f + 1, x, y, n, d, 0, hx, h, H, hq, hf => by
    exfalso
    have := ins_bd s _ _ _ _ hx h
    have := H.lt
    omega
  | f + 1, x, y, n, d, f' + 1, hx, h, H, hq, hf => by
    have hbd := ins_bd s _ _ _ _ hx h
    simp only [ins] at h ⊢
    have hlt := H.lt
    have hls := H.ls
    split at h
    · rename_i h1
      have l1 := sees_len s x _ 1 rfl h1
      have b2 := ins_bd s _ _ _ _ l1 h
      rw [if_pos (by rw [H.sees _ (by show 2 ≤ n; omega)]; exact h1)]
      have := ins_loc s t q f (x + 2) (y + 2) (n - 2) (d + 1) f' l1 h (H.shift 2 (by omega)) (by omega) (by omega)
      rw [this]; congr 1; omega
    · rename_i h1
      split at h
      · rename_i h2
        have l1 := sees_len s x _ 1 rfl h2
        split at h
        · rename_i h3
          injection h with h
          rw [if_neg (by rw [H.sees _ (by show 2 ≤ n; omega)]; exact h1), if_pos (by rw [H.sees _ (by show 2 ≤ n; omega)]; exact h2), if_pos h3]
          congr 1; omega
        · rename_i h3
          have b2 := ins_bd s _ _ _ _ l1 h
          rw [if_neg (by rw [H.sees _ (by show 2 ≤ n; omega)]; exact h1), if_pos (by rw [H.sees _ (by show 2 ≤ n; omega)]; exact h2), if_neg h3]
          have := ins_loc s t q f (x + 2) (y + 2) (n - 2) (d - 1) f' l1 h (H.shift 2 (by omega)) (by omega) (by omega)
          rw [this]; congr 1; omega
      · rename_i h2
        split at h
        · cases h
        · rename_i h3
          have b2 := ins_bd s _ _ _ _ (by omega) h
          rw [if_neg (by rw [H.sees _ (by show 2 ≤ n; omega)]; exact h1), if_neg (by rw [H.sees _ (by show 2 ≤ n; omega)]; exact h2), if_neg (by omega)]
          have := ins_loc s t q f (x + 1) (y + 1) (n - 1) d f' (by omega) h (H.shift 1 (by omega)) (by omega) (by omega)
          rw [this]; congr 1; omega
/-- a comment is read by its own bytes; one to the end of the line, where the line ends -/
theorem com_loc (s t : ByteArray) (i j m q : Nat) (hi : i < s.size) (h : item s i = .com q) (H : Agr s t i j m) (hq : q ≤ i + m)
    (hl : sees s i ⟨#[92, 42]⟩ = true → t.size ≤ j + (q - i) ∨ bt t (j + (q - i)) = 10) : item t j = .com (j + (q - i)) := by
  have hbd := item_com s i q hi h
  unfold item at h ⊢
  split at h
  · rename_i h1
    have l1 := sees_len s i _ 1 rfl h1
    have b0 := sees_byte s i _ h1 0 (by decide)
    have b1 := sees_byte s i _ h1 1 (by decide)
    have y0 := cnt_yes (fun b => b != 10) s i hi (by rw [Nat.add_zero] at b0; rw [b0]; decide)
    have y1 := cnt_yes (fun b => b != 10) s (i + 1) (by omega) (by rw [b1]; decide)
    injection h with h
    rw [if_pos (by rw [H.sees _ (by show 2 ≤ m; omega)]; exact h1)]
    have hc : cnt (fun b => b != 10) t j = cnt (fun b => b != 10) s i := by
      refine cnt_is _ t _ j (fun k hk => ?_) ?_
      · have := cnt_lt (fun b => b != 10) s _ i rfl k hk
        exact ⟨by have := H.lt; omega, by rw [H.b k (by omega)]; exact this.2⟩
      · rcases hl h1 with h2 | h2
        · left; omega
        · right; rw [show j + cnt (fun b => b != 10) s i = j + (q - i) by omega, h2]; rfl
    rw [hc]; congr 1; omega
  · rename_i h1
    split at h
    · rename_i h2
      split at h
      · cases h
      · rename_i q' hq'
        injection h with h; subst h
        have hi2 : ¬ sees t j ⟨#[92, 42]⟩ = true := by
          rw [H.sees _ (by show 2 ≤ m; have := sees_len s i _ 1 rfl h2; have := insA_eq s i 0 (by omega); rw [if_pos h2] at this; rw [this] at hq'; have := insA_bd s _ _ _ (by omega) hq'; omega)]; exact h1
        have hi3 : sees t j ⟨#[40, 42]⟩ = true := by
          rw [H.sees _ (by show 2 ≤ m; have := sees_len s i _ 1 rfl h2; have := insA_eq s i 0 (by omega); rw [if_pos h2] at this; rw [this] at hq'; have := insA_bd s _ _ _ (by omega) hq'; omega)]; exact h2
        rw [if_neg hi2, if_pos hi3]
        have := ins_loc s t q' _ i j m 0 (t.size + 1 - j) (by omega) hq' H hq (by have := H.lt; omega)
        have e : insA t j 0 = some (j + (q' - i)) := this
        rw [e]
    · split at h <;> cases h
theorem nobar1 : ∀ k, k < (⟨#[92, 42]⟩ : ByteArray).size → 1 ≤ k → bar (bt ⟨#[92, 42]⟩ k) = false := by decide
theorem nobar2 : ∀ k, k < (⟨#[40, 42]⟩ : ByteArray).size → 1 ≤ k → bar (bt ⟨#[40, 42]⟩ k) = false := by decide
theorem tok_item_loc (s t : ByteArray) (i j m : Nat) (p : Tk) (hi : i < s.size) (h : item s i = .tok p) (H : Agr s t i j m) (hen : p.en ≤ i + m) (hb : bar (bt t (j + m)) = true) (hS : p.en = i + m ∨ ltr (bt s (i + m)) = false ∨ ltr (bt s (i + m - 1)) = false) : item t j = .tok (p.mv j) := by
  obtain ⟨h1, h2, h3, h4, h5, h6⟩ := item_tok s i p hi h
  have := tok_loc s t i j m p hi h1 H hen hb hS
  unfold item
  rw [if_neg (fun q => by have := H.sees_bar _ hb (fun k a b => nobar1 k a (by omega)) q; rw [h5] at this; cases this), if_neg (fun q => by have := H.sees_bar _ hb (fun k a b => nobar2 k a (by omega)) q; rw [h6] at this; cases this), this]

/-- no letter stands ahead of a letter here -/
def nm (s : ByteArray) (x : Nat) : Prop := ltr (bt s x) = false ∨ ltr (bt s (x - 1)) = false
theorem rnb_ltr {b : Int} (h : rnb b = false) : ltr b = false := by
  rcases hl : ltr b with _ | _
  · rfl
  · rw [ltr_rnb hl] at h; cases h
theorem tokF_nm (s : ByteArray) (i : Nat) (p : Tk) (hi : i < s.size) (h : tokF s i = .ok p) : nm s p.en := by
  have bd := tokF_bd s i p hi h
  unfold tokF at h
  split at h
  · rename_i hr
    unfold runF at h
    have hs := rnb_ltr (cnt_stop0 rnb (by decide) s i)
    split at h
    · split at h
      · cases h
      · injection h with h; subst h; exact .inl hs
    split at h
    · rename_i hp
      injection h with h; subst h
      right
      show ltr (bt s (i + 3 - 1)) = false
      have key : ∀ q : List UInt8, q.length = 3 → q[2]? = some 95 → Lib.hasPrefix (s.extract i (i + cnt rnb s i)).data.toList q = true → bt s (i + 2) = 95 := by
        intro q hq hq2 hp
        have h3 := pre_byte s i _ q hp
        have h4 := congrArg (fun l => l[2]?) h3
        rw [hq2, hq, List.getElem?_take_of_lt (by omega)] at h4
        by_cases h5 : 2 < cnt rnb s i
        · rw [List.getElem?_take_of_lt h5, List.getElem?_drop] at h4
          unfold bt
          rw [List.getD_eq_getElem?_getD, ← h4]; rfl
        · rw [List.getElem?_take, if_neg h5] at h4; cases h4
      have h5 : bt s (i + 2) = 95 := by
        rw [Bool.or_eq_true] at hp
        rcases hp with hp | hp
        · exact key _ rfl rfl hp
        · exact key _ rfl rfl hp
      rw [show i + 3 - 1 = i + 2 by omega, h5]; decide
    split at h
    · injection h with h; subst h; exact .inl hs
    split at h
    · injection h with h; subst h; exact .inl hs
    split at h
    · cases h
    split at h
    · cases h
    · injection h with h; subst h; exact .inl hs
  split at h
  · unfold basedF at h
    have hs := rnb_ltr (cnt_stop0 rnb (by decide) s (i + 2))
    split at h
    · cases h
    · injection h with h; subst h
      left
      show ltr (bt s (i + (cnt rnb s (i + 2) + 2))) = false
      rw [show i + (cnt rnb s (i + 2) + 2) = i + 2 + cnt rnb s (i + 2) by omega]; exact hs
  split at h
  · right
    have : ∀ f k o, quo s i f k o = .ok p → bt s (p.en - 1) = 34 := by
      intro f
      induction f with
      | zero => intro k o h; simp only [quo] at h; cases h
      | succ f ih =>
        intro k o h
        simp only [quo] at h
        split at h
        · cases h
        split at h
        · rename_i h34
          split at h
          · cases h
          · injection h with h; subst h
            show bt s (i + (k + 1) - 1) = 34
            rw [show i + (k + 1) - 1 = i + k by omega]; exact h34
        split at h
        · split at h
          · split at h
            · cases h
            · exact ih _ _ h
          · cases h
        split at h
        · cases h
        · exact ih _ _ h
    rw [this _ _ _ h]; decide
  split at h
  · rename_i h1
    have hb := sees_bt s i _ 45 _ rfl h1
    have h2 := cnt_yes (fun b => b == 45) s i hi (by rw [hb]; decide)
    injection h with h; subst h
    right
    have := (cnt_lt (fun b => b == 45) s _ i rfl (cnt (fun b => b == 45) s i - 1) (by omega)).2
    simp only [beq_iff_eq] at this
    show ltr (bt s (i + cnt (fun b => b == 45) s i - 1)) = false
    rw [show i + cnt (fun b => b == 45) s i - 1 = i + (cnt (fun b => b == 45) s i - 1) by omega, this]; decide
  split at h
  · rename_i h1
    have hb := sees_bt s i _ 61 _ rfl h1
    have h2 := cnt_yes (fun b => b == 61) s i hi (by rw [hb]; decide)
    injection h with h; subst h
    right
    have := (cnt_lt (fun b => b == 61) s _ i rfl (cnt (fun b => b == 61) s i - 1) (by omega)).2
    simp only [beq_iff_eq] at this
    show ltr (bt s (i + cnt (fun b => b == 61) s i - 1)) = false
    rw [show i + cnt (fun b => b == 61) s i - 1 = i + (cnt (fun b => b == 61) s i - 1) by omega, this]; decide
  unfold signF at h
  split at h
  · injection h with h; subst h
    left
    have := cnt_stop0 ltr (by decide) s (i + 1)
    show ltr (bt s (i + (1 + cnt ltr s (i + 1)))) = false
    rw [show i + (1 + cnt ltr s (i + 1)) = i + 1 + cnt ltr s (i + 1) by omega]; exact this
  · obtain ⟨L, c, h1, h2, h3, h4, h5, h6⟩ := sgn_ok s i p _ h
    subst h3
    right
    have := sign_nolet s i L c h4 h5 (by simp only [] at bd; omega) (L - 1) (by omega)
    show ltr (bt s (i + L - 1)) = false
    rw [show i + L - 1 = i + (L - 1) by omega]; exact this
theorem item_nm_tok (s : ByteArray) (i : Nat) (p : Tk) (hi : i < s.size) (h : item s i = .tok p) : nm s p.en := tokF_nm s i p hi (item_tok s i p hi h).1
theorem ins_nm (s : ByteArray) : ∀ (f i : Nat) (d : Int) (q : Nat), ins s f i d = some q → bt s (q - 1) = 41
  | 0, _, _, _, h => by simp [ins] at h
  | f + 1, i, d, q, h => by
    simp only [ins] at h
    split at h
    · exact ins_nm s f _ _ _ h
    · split at h
      · rename_i h1
        split at h
        · injection h with h; subst h
          have := sees_byte s i _ h1 1 (by decide)
          rw [show i + 2 - 1 = i + 1 by omega, this]; rfl
        · exact ins_nm s f _ _ _ h
      · split at h
        · cases h
        · exact ins_nm s f _ _ _ h
theorem item_nm_com (s : ByteArray) (i j : Nat) (hi : i < s.size) (h : item s i = .com j) : nm s j := by
  unfold item at h
  split at h
  · injection h with h; subst h
    left
    by_cases hl : i + cnt (fun b => b != 10) s i < s.size
    · have := cnt_stop (fun b => b != 10) s _ i rfl hl
      have e : bt s (i + cnt (fun b => b != 10) s i) = 10 := by simpa using this
      rw [e]; decide
    · rw [bt_out s _ (by omega)]; decide
  · split at h
    · split at h
      · cases h
      · rename_i q hq
        injection h with h; subst h
        right
        rw [ins_nm s _ _ _ _ hq]; decide
    · split at h <;> cases h
theorem nm_blank (s : ByteArray) (i : Nat) (h : blk (bt s i) = true) : nm s (i + 1) := by
  right
  rw [show i + 1 - 1 = i by omega]
  exact (bar_no (by simp [bar, h])).2.1
theorem com_line (s : ByteArray) (i q : Nat) (hi : i < s.size) (h : item s i = .com q) (hs : sees s i ⟨#[92, 42]⟩ = true) (hq : q < s.size) : bt s q = 10 := by
  unfold item at h
  rw [if_pos hs] at h
  injection h with h; subst h
  have := cnt_stop (fun b => b != 10) s _ i rfl hq
  simpa using this
end Go.Proofs.YtagcfgoofiibfaaGreatDoor
namespace Go.Proofs.YtagcfgoofiibfaaGreatDoor
open Go Go.RowKit

/-- a text read from a byte to another one -/
inductive Pt (s : ByteArray) (M : Nat) : Nat → List Tk → List (Nat × Nat) → Prop
  | nil : Pt s M M [] []
  | blank (i : Nat) (ps : List Tk) (ys : List (Nat × Nat)) : i < s.size → blk (bt s i) = true → Pt s M (i + 1) ps ys → Pt s M i ps ys
  | com (i j : Nat) (ps : List Tk) (ys : List (Nat × Nat)) : i < s.size → blk (bt s i) = false → item s i = .com j → Pt s M j ps ys → Pt s M i ps ((i, j) :: ys)
  | tok (i : Nat) (p : Tk) (ps : List Tk) (ys : List (Nat × Nat)) : i < s.size → blk (bt s i) = false → item s i = .tok p → Pt s M p.en ps ys → Pt s M i (p :: ps) ys

theorem Pt.le {s : ByteArray} {M i : Nat} {ps : List Tk} {ys : List (Nat × Nat)} (h : Pt s M i ps ys) : i ≤ M := by
  induction h with
  | nil => exact Nat.le_refl _
  | blank i ps ys hi hb _ ih => omega
  | com i j ps ys hi hb hc _ ih => have := item_com s i j hi hc; omega
  | tok i p ps ys hi hb hc _ ih => have := item_tok s i p hi hc; omega
theorem Pt.app {s : ByteArray} {M N i : Nat} {ps qs : List Tk} {ys zs : List (Nat × Nat)} (h : Pt s M i ps ys) (g : Pt s N M qs zs) : Pt s N i (ps ++ qs) (ys ++ zs) := by
  induction h with
  | nil => exact g
  | blank i ps ys hi hb _ ih => exact .blank i _ _ hi hb ih
  | com i j ps ys hi hb hc _ ih => exact .com i j _ _ hi hb hc ih
  | tok i p ps ys hi hb hc _ ih => exact .tok i p _ _ hi hb hc ih
theorem Sc.pt {s : ByteArray} {i : Nat} {ps : List Tk} {ys : List (Nat × Nat)} (h : Sc s i ps ys) : i ≤ s.size → Pt s s.size i ps ys := by
  induction h with
  | fin i hi => intro h; have : i = s.size := by omega
                subst this; exact .nil
  | blank i ps ys hi hb _ ih => intro _; exact .blank i _ _ hi hb (ih (by omega))
  | com i j ps ys hi hb hc _ ih => intro _; exact .com i j _ _ hi hb hc (ih (item_com s i j hi hc).2)
  | tok i p ps ys hi hb hc _ ih => intro _; exact .tok i p _ _ hi hb hc (ih (item_tok s i p hi hc).2.2.1)
theorem Pt.sc {s : ByteArray} {M i : Nat} {ps : List Tk} {ys : List (Nat × Nat)} (h : Pt s M i ps ys) (hM : s.size ≤ M) : Sc s i ps ys := by
  induction h with
  | nil => exact .fin _ hM
  | blank i ps ys hi hb _ ih => exact .blank i _ _ hi hb ih
  | com i j ps ys hi hb hc _ ih => exact .com i j _ _ hi hb hc ih
  | tok i p ps ys hi hb hc _ ih => exact .tok i p _ _ hi hb hc ih
theorem ScE.pt {s : ByteArray} {a : Nat} {e : Int} {i : Nat} (h : ScE s a e i) : (∃ ps ys, Pt s a i ps ys) ∧ a < s.size ∧ blk (bt s a) = false ∧ item s a = .bad e := by
  induction h with
  | bad ha hb hc => exact ⟨⟨_, _, .nil⟩, ha, hb, hc⟩
  | blank i hi hb _ ih => obtain ⟨⟨ps, ys, h1⟩, h2⟩ := ih; exact ⟨⟨_, _, .blank i _ _ hi hb h1⟩, h2⟩
  | com i j hi hb hc _ ih => obtain ⟨⟨ps, ys, h1⟩, h2⟩ := ih; exact ⟨⟨_, _, .com i j _ _ hi hb hc h1⟩, h2⟩
  | tok i p hi hb hc _ ih => obtain ⟨⟨ps, ys, h1⟩, h2⟩ := ih; exact ⟨⟨_, _, .tok i p _ _ hi hb hc h1⟩, h2⟩
theorem Pt.sce {s : ByteArray} {a i : Nat} {e : Int} {ps : List Tk} {ys : List (Nat × Nat)} (h : Pt s a i ps ys) (ha : a < s.size) (hb : blk (bt s a) = false) (hc : item s a = .bad e) : ScE s a e i := by
  induction h with
  | nil => exact .bad ha hb hc
  | blank i ps ys hi hb _ ih => exact .blank i hi hb ih
  | com i j ps ys hi hb hc _ ih => exact .com i j hi hb hc ih
  | tok i p ps ys hi hb hc _ ih => exact .tok i p hi hb hc ih
theorem Pt.nm {s : ByteArray} {M i : Nat} {ps : List Tk} {ys : List (Nat × Nat)} (h : Pt s M i ps ys) : i = M ∨ Go.Proofs.YtagcfgoofiibfaaGreatDoor.nm s M := by
  induction h with
  | nil => exact .inl rfl
  | blank i ps ys hi hb _ ih => rcases ih with h | h; exact .inr (h ▸ nm_blank s i hb); exact .inr h
  | com i j ps ys hi hb hc _ ih => rcases ih with h | h; exact .inr (h ▸ item_nm_com s i j hi hc); exact .inr h
  | tok i p ps ys hi hb hc _ ih => rcases ih with h | h; exact .inr (h ▸ item_nm_tok s i p hi hc); exact .inr h
theorem Pt.nm1 {s : ByteArray} {M i : Nat} {p : Tk} {ps : List Tk} {ys : List (Nat × Nat)} (h : Pt s M i (p :: ps) ys) : Go.Proofs.YtagcfgoofiibfaaGreatDoor.nm s M := by
  rcases h.nm with rfl | h2
  · exfalso
    generalize hq : p :: ps = qs at h
    have : ∀ j, Pt s i j qs ys → i ≤ j → qs = [] := by
      intro j hj
      induction hj with
      | nil => intro _; rfl
      | blank j ps' ys' hi hb h' ih => intro hle; have := h'.le; omega
      | com j k ps' ys' hi hb hc h' ih => intro hle; have := h'.le; have := item_com s j k hi hc; omega
      | tok j p' ps' ys' hi hb hc h' ih => intro hle; have := h'.le; have := item_tok s j p' hi hc; omega
    have := this i h (Nat.le_refl _)
    subst this; cases hq
  · exact h2

/-- WHAT IS READ IN s IS READ IN t, where the bytes are the same. -/
theorem Pt.move {s t : ByteArray} {M i0 j0 : Nat} (H : Agr s t i0 j0 (M - i0)) {x : Nat} {ps : List Tk} {ys : List (Nat × Nat)} (h : Pt s M x ps ys) (hx : i0 ≤ x)
    (hb : ps = [] ∨ bar (bt t (j0 + (M - i0))) = true)
    (hL : ∀ i, i < s.size → item s i = .com M → sees s i ⟨#[92, 42]⟩ = true → t.size ≤ j0 + (M - i0) ∨ bt t (j0 + (M - i0)) = 10) :
    Pt t (j0 + (M - i0)) (j0 + (x - i0)) (ps.map fun p => p.mv (j0 + (p.at_ - i0))) (ys.map fun y => (j0 + (y.1 - i0), j0 + (y.2 - i0))) := by
  have hnm : ps ≠ [] → Go.Proofs.YtagcfgoofiibfaaGreatDoor.nm s M := fun hne => by
    rcases ps with _ | ⟨p, ps⟩
    · exact absurd rfl hne
    · exact h.nm1
  induction h with
  | nil => exact .nil
  | blank i ps ys hi hbl h' ih =>
    have hle := h'.le
    have ih' := ih (by omega) hb hnm
    have hlt := H.lt
    refine .blank _ _ _ (by omega) (by rw [H.b _ (by omega), show i0 + (i - i0) = i by omega]; exact hbl) ?_
    rw [show j0 + (i - i0) + 1 = j0 + (i + 1 - i0) by omega]; exact ih'
  | com i j ps ys hi hbl hc h' ih =>
    have hle := h'.le
    have hbd := item_com s i j hi hc
    have ih' := ih (by omega) hb hnm
    have hlt := H.lt
    have H' := H.shift (i - i0) (by omega)
    rw [show i0 + (i - i0) = i by omega] at H'
    refine .com _ _ _ _ (by omega) (by rw [H.b _ (by omega), show i0 + (i - i0) = i by omega]; exact hbl) ?_ ih'
    have := com_loc s t i (j0 + (i - i0)) (M - i0 - (i - i0)) j hi hc H' (by omega) (fun hs => by
      rcases Nat.lt_or_ge j M with q | q
      · right
        have hls := H.ls
        rw [show j0 + (i - i0) + (j - i) = j0 + (j - i0) by omega, H.b (j - i0) (by omega), show i0 + (j - i0) = j by omega]
        exact com_line s i j hi hc hs (by omega)
      · have : j = M := by omega
        subst this
        rw [show j0 + (i - i0) + (j - i) = j0 + (j - i0) by omega]
        exact hL i hi hc hs)
    rw [this]; congr 1; omega
  | tok i p ps ys hi hbl hc h' ih =>
    have hle := h'.le
    obtain ⟨h1, h2, h3, h4, h5, h6⟩ := item_tok s i p hi hc
    have hb' : bar (bt t (j0 + (M - i0))) = true := by rcases hb with hb | hb; cases hb; exact hb
    have ih' := ih (by omega) (.inr hb') (fun _ => hnm (by simp))
    have hlt := H.lt
    have H' := H.shift (i - i0) (by omega)
    rw [show i0 + (i - i0) = i by omega] at H'
    have e1 : i + (M - i0 - (i - i0)) = M := by omega
    have e2 : j0 + (i - i0) + (M - i0 - (i - i0)) = j0 + (M - i0) := by omega
    have := tok_item_loc s t i (j0 + (i - i0)) (M - i0 - (i - i0)) p hi hc H' (by omega) (by rw [e2]; exact hb') (by
      rw [e1]; exact .inr (hnm (by simp)))
    have e3 : j0 + (p.at_ - i0) = j0 + (i - i0) := by rw [h4]
    refine .tok _ _ _ _ (by omega) (by rw [H.b _ (by omega), show i0 + (i - i0) = i by omega]; exact hbl) (by show item t (j0 + (i - i0)) = .tok (p.mv (j0 + (p.at_ - i0))); rw [e3]; exact this) ?_
    have e4 : (p.mv (j0 + (p.at_ - i0))).en = j0 + (p.en - i0) := by
      show j0 + (p.at_ - i0) + (p.en - p.at_) = _
      omega
    rw [e4]; exact ih'

theorem bt_app1 (a b : ByteArray) (k : Nat) (h : k < a.size) : bt (a ++ b) k = bt a k := by
  unfold bt
  rw [List.getD_eq_getElem?_getD, List.getD_eq_getElem?_getD]
  have : (a ++ b).data.toList = a.data.toList ++ b.data.toList := by simp [ByteArray.data_append]
  rw [this, List.getElem?_append_left (by simpa using h)]
theorem bt_app2 (a b : ByteArray) (k : Nat) : bt (a ++ b) (a.size + k) = bt b k := by
  unfold bt
  rw [List.getD_eq_getElem?_getD, List.getD_eq_getElem?_getD]
  have : (a ++ b).data.toList = a.data.toList ++ b.data.toList := by simp [ByteArray.data_append]
  rw [this, List.getElem?_append_right (by simp)]
  congr 3; simp
theorem bt_ext (s : ByteArray) (i j k : Nat) (h : k < j - i) (hj : j ≤ s.size) : bt (s.extract i j) k = bt s (i + k) := by
  have := ext_bt s i (j - i) k h (by omega)
  rw [show i + (j - i) = j by omega] at this
  unfold bt
  rw [List.getD_eq_getElem?_getD, this]; rfl
theorem size_ext (s : ByteArray) (i j : Nat) (hj : j ≤ s.size) : (s.extract i j).size = j - i := by simp [ByteArray.size_extract]; omega
theorem Agr.extract (s : ByteArray) (i j : Nat) (hij : i ≤ j) (hj : j ≤ s.size) : Agr s (s.extract i j) i 0 (j - i) :=
  ⟨by omega, by rw [size_ext s i j hj]; omega, fun k hk => by rw [Nat.zero_add]; exact bt_ext s i j k hk hj⟩
theorem Agr.app1 (a b : ByteArray) : Agr a (a ++ b) 0 0 a.size := ⟨by omega, by rw [ByteArray.size_append]; omega, fun k hk => by rw [Nat.zero_add]; exact bt_app1 a b k hk⟩
theorem Agr.app2 (a b : ByteArray) : Agr b (a ++ b) 0 a.size b.size := ⟨by omega, by rw [ByteArray.size_append]; omega, fun k _ => by rw [Nat.zero_add]; exact bt_app2 a b k⟩
theorem bar_end (t : ByteArray) (k : Nat) (h : t.size ≤ k) : bar (bt t k) = true := by rw [bt_out t k h]; decide

/-- ERRORS: ahead of an error there is none -/
theorem err_prefix {s : ByteArray} {a : Nat} {e : Int} (h : ScE s a e 0) : ∃ ps ys, Sc (s.extract 0 a) 0 ps ys := by
  obtain ⟨⟨ps, ys, h1⟩, h2, h3, h4⟩ := h.pt
  have H := Agr.extract s 0 a (Nat.zero_le _) (by omega)
  have hs := size_ext s 0 a (by omega)
  have := h1.move H (Nat.zero_le _) (.inr (bar_end _ _ (by omega))) (fun _ _ _ _ => .inl (by omega))
  exact ⟨_, _, this.sc (by omega)⟩

theorem sgn_err_iff (s : ByteArray) (i : Nat) : ∀ N, (∀ M, 0 < M → M ≤ N → good (s.extract i (i + M)) = false) → sgn s i N = .error 20
  | 0, _ => rfl
  | N + 1, h => by
    simp only [sgn]
    have ih := sgn_err_iff s i N (fun M a b => h M a (by omega))
    have hg := h (N + 1) (by omega) (Nat.le_refl _)
    unfold good at hg
    split
    · rename_i c hc
      rw [hc] at hg
      simp at hg
      rw [hg, ih]; rfl
    · exact ih
theorem sgn_err_good (s : ByteArray) (i : Nat) : ∀ (N : Nat) (e : Int), sgn s i N = .error e → e = 20 ∧ ∀ M, 0 < M → M ≤ N → good (s.extract i (i + M)) = false
  | 0, e, h => by simp only [sgn] at h; injection h with h; exact ⟨h.symm, fun M a b => by omega⟩
  | N + 1, e, h => by
    simp only [sgn] at h
    split at h
    · rename_i c hc
      split at h
      · rename_i hl
        obtain ⟨h1, h2⟩ := sgn_err_good s i N e h
        refine ⟨h1, fun M a b => ?_⟩
        rcases Nat.lt_or_ge N M with q | q
        · have : M = N + 1 := by omega
          subst this; unfold good; rw [hl]; simp
        · exact h2 M a q
      · cases h
    · rename_i hc
      obtain ⟨h1, h2⟩ := sgn_err_good s i N e h
      refine ⟨h1, fun M a b => ?_⟩
      rcases Nat.lt_or_ge N M with q | q
      · have : M = N + 1 := by omega
        subst this; unfold good; rw [hc]; rfl
      · exact h2 M a q
theorem quo_err21 (s : ByteArray) (i : Nat) : ∀ (f k : Nat) (o : List UInt8) (e : Int), quo s i f k o = .error e → e = 21
  | 0, _, _, e, h => by simp only [quo] at h; injection h with h; exact h.symm
  | f + 1, k, o, e, h => by
    simp only [quo] at h
    split at h
    · injection h with h; exact h.symm
    · split at h
      · split at h
        · injection h with h; exact h.symm
        · cases h
      · split at h
        · split at h
          · split at h
            · injection h with h; exact h.symm
            · exact quo_err21 s i f _ _ e h
          · injection h with h; exact h.symm
        · split at h
          · injection h with h; exact h.symm
          · exact quo_err21 s i f _ _ e h
/-- a string that is wrong stays wrong behind a line feed -/
theorem quo_err_loc (s t : ByteArray) (i n : Nat) (H : Agr s t i i n) (hn : i + n = s.size) (h10 : bt t s.size = 10) : ∀ (f k : Nat) (o : List UInt8) (f' : Nat) (e : Int), quo s i f k o = .error e → s.size + 1 ≤ i + k + f → k ≤ n → quo t i f' k o = .error 21
  | f, k, o, 0, e, _, _, _ => rfl
  | 0, k, o, f' + 1, e, _, h2, h3 => by omega
  | f + 1, k, o, f' + 1, e, h, h2, hk => by
    simp only [quo] at h ⊢
    have hlt := H.lt
    split
    · rfl
    rename_i hts
    rcases Nat.lt_or_ge k n with q | q
    · have e0 := H.b k q
      rw [if_neg (by omega)] at h
      rw [e0]
      split at h
      · rename_i h34
        rw [if_pos h34]
        split at h
        · rename_i h5; rw [if_pos h5]
        · cases h
      rename_i h34
      rw [if_neg h34]
      split at h
      · rename_i h92
        rw [if_pos h92]
        rcases Nat.lt_or_ge (k + 1) n with q2 | q2
        · have e1 := H.b (k + 1) q2
          rw [e1]
          split at h
          · rename_i c hc
            rw [if_neg (by omega)] at h
            split
            · rfl
            · exact quo_err_loc s t i n H hn h10 f (k + 2) _ f' e h (by omega) (by omega)
          · rfl
        · have : i + (k + 1) = s.size := by omega
          rw [this, h10]; rfl
      rename_i h92
      rw [if_neg h92]
      split at h
      · rename_i h3; rw [if_pos h3]
      rename_i h3
      rw [if_neg h3]
      exact quo_err_loc s t i n H hn h10 f (k + 1) _ f' e h (by omega) (by omega)
    · have : i + k = s.size := by omega
      rw [this, h10]; rfl
/-- an error stays behind a line feed -/
theorem err_loc (s t : ByteArray) (i : Nat) (e : Int) (hi : i < s.size) (h : tokF s i = .error e) (H : Agr s t i i (s.size - i)) (h10 : bt t s.size = 10) : tokF t i = .error e := by
  have e1 : i + (s.size - i) = s.size := by omega
  have e0 := H.b 0 (by omega)
  rw [Nat.add_zero] at e0
  have hlt := H.lt
  unfold tokF at h ⊢
  rw [e0]
  split at h
  · rename_i h1
    rw [if_pos h1]
    have hle := cnt_le rnb s i
    have hr := H.cnt rnb (by decide) hle (fun _ => by rw [e1, h10]; decide)
    have hd := H.cnt dgt (by decide) (cnt_le dgt s i) (fun _ => by rw [e1, h10]; decide)
    unfold runF at h ⊢
    rw [hr, hd, H.ext _ hle]; exact h
  rename_i h1
  rw [if_neg h1]
  have hb10 : bar (bt t (i + (s.size - i))) = true := by rw [e1, h10]; decide
  split at h
  · rename_i h2
    have h92 : bt s i = 92 := by
      by_cases h9 : bt s i = 92
      · exact h9
      · exact absurd (by unfold baseF; rw [if_pos h9]) h2
    have hp2 := cnt_pos2 s i h92 h2 hi
    have b1 := H.b 1 (by omega)
    have b2 := H.b 2 (by omega)
    have eb : baseF t i = baseF s i := by unfold baseF; rw [e0, b1, b2]
    have H2 := H.shift 2 (by omega)
    have hle := cnt_le rnb s (i + 2)
    have hr := H2.cnt rnb (by decide) (by omega) (fun _ => by rw [show i + 2 + (s.size - i - 2) = s.size by omega, h10]; decide)
    rw [eb, if_pos h2]
    unfold basedF at h ⊢
    rw [eb, hr, H2.ext _ (by omega)]; exact h
  rename_i h2
  have h2 : baseF s i = 0 := by simpa using h2
  rw [if_neg (by rw [base0_loc s t i i _ h2 (by omega) H hb10]; simp)]
  split at h
  · rename_i h3
    rw [if_pos h3]
    have := quo_err21 s i _ _ _ _ h
    subst this
    exact quo_err_loc s t i _ H (by omega) h10 _ 1 [] _ _ h (by omega) (by omega)
  rename_i h3
  rw [if_neg h3]
  split at h
  · cases h
  rename_i h4
  rw [if_neg (fun q => h4 (H.sees_bar _ hb10 (fun k a _ => nobar45 k a) q))]
  split at h
  · cases h
  rename_i h5
  rw [if_neg (fun q => h5 (H.sees_bar _ hb10 (fun k a _ => nobar61 k a) q))]
  unfold signF at h ⊢
  split at h
  · cases h
  rename_i h6
  have H1 := H.shift 1 (by omega)
  have hle := cnt_le ltr s (i + 1)
  have hc : cnt ltr t (i + 1) = cnt ltr s (i + 1) := H1.cnt ltr (by decide) (by omega) (fun _ => by rw [show i + 1 + (s.size - i - 1) = s.size by omega, h10]; decide)
  rw [e0, hc, H.ext _ (by omega), if_neg h6]
  obtain ⟨q1, q2⟩ := sgn_err_good s i _ _ h
  subst q1
  refine sgn_err_iff t i _ (fun M m1 m2 => ?_)
  rcases Nat.lt_or_ge (s.size - i) M with q | q
  · unfold good
    rcases hk : canonOf (t.extract i (i + M)) with _ | d
    · rfl
    · have := sign_nobar t i M d hk (by omega) (s.size - i) (by omega) q
      rw [hb10] at this; cases this
  · rw [H.ext M q]; exact q2 M m1 (by omega)
/-- ERRORS: a line feed and anything behind do not take it away -/
theorem err_more {s : ByteArray} {a : Nat} {e : Int} (h : ScE s a e 0) (he : e ≠ 22) (m : ByteArray) : ScE (s ++ ⟨#[10]⟩ ++ m) a e 0 := by
  obtain ⟨⟨ps, ys, h1⟩, h2, h3, h4⟩ := h.pt
  have hsz : (s ++ ⟨#[10]⟩ : ByteArray).size = s.size + 1 := by rw [ByteArray.size_append]; rfl
  have h10 : bt (s ++ ⟨#[10]⟩ ++ m) s.size = 10 := by
    rw [bt_app1 _ _ _ (by omega)]
    exact bt_app2 s ⟨#[10]⟩ 0
  have hszt : (s ++ ⟨#[10]⟩ ++ m : ByteArray).size = s.size + 1 + m.size := by rw [ByteArray.size_append, hsz]
  have H : Agr s (s ++ ⟨#[10]⟩ ++ m) 0 0 s.size := ⟨by omega, by omega, fun k hk => by
    rw [Nat.zero_add, bt_app1 _ _ _ (by omega), bt_app1 _ _ _ hk]⟩
  generalize s ++ ⟨#[10]⟩ ++ m = t at h10 hszt H
  have Ha := H.shift a (by omega)
  rw [Nat.zero_add] at Ha
  have hb : blk (bt t a) = false := by have := H.b a h2; rw [Nat.zero_add] at this; rw [this]; exact h3
  -- the item of the error
  have hit : item t a = .bad e ∧ ∀ b, item s a = .bad b → bt s a = bt s a := by
    refine ⟨?_, fun _ _ => rfl⟩
    have hbt : bar (bt t (a + (s.size - a))) = true := by rw [show a + (s.size - a) = s.size by omega, h10]; decide
    unfold item at h4 ⊢
    split at h4
    · cases h4
    rename_i g1
    split at h4
    · split at h4
      · injection h4 with h4; exact absurd h4.symm he
      · cases h4
    rename_i g2
    rw [if_neg (fun q => g1 (Ha.sees_bar _ hbt (fun k x y => nobar1 k x (by omega)) q)), if_neg (fun q => g2 (Ha.sees_bar _ hbt (fun k x y => nobar2 k x (by omega)) q))]
    split at h4
    · cases h4
    · rename_i e' he'
      injection h4 with h4; subst h4
      rw [err_loc s t a e' h2 he' Ha h10]
  -- the way to it
  have hp : ∀ x ps ys, Pt s a x ps ys → Pt t a x ps ys := by
    intro x ps ys hx
    induction hx with
    | nil => exact .nil
    | blank i ps ys hi hbl h' ih => exact .blank i _ _ (by omega) (by have := H.b i hi; rw [Nat.zero_add] at this; rw [this]; exact hbl) ih
    | com i j ps ys hi hbl hc h' ih =>
      have Hi := H.shift i (by omega)
      rw [Nat.zero_add] at Hi
      have hbd := item_com s i j hi hc
      refine .com i j _ _ (by omega) (by have := H.b i hi; rw [Nat.zero_add] at this; rw [this]; exact hbl) ?_ ih
      have := com_loc s t i i (s.size - i) j hi hc Hi (by omega) (fun hs => by
        right
        rw [show i + (j - i) = j by omega]
        rcases Nat.lt_or_ge j s.size with q | q
        · have := H.b j q; rw [Nat.zero_add] at this; rw [this]; exact com_line s i j hi hc hs q
        · rw [show j = s.size by omega]; exact h10)
      rw [this]; congr 1; omega
    | tok i p ps ys hi hbl hc h' ih =>
      have Hi := H.shift i (by omega)
      rw [Nat.zero_add] at Hi
      obtain ⟨g1, g2, g3, g4, g5, g6⟩ := item_tok s i p hi hc
      refine .tok i p _ _ (by omega) (by have := H.b i hi; rw [Nat.zero_add] at this; rw [this]; exact hbl) ?_ ih
      have := tok_item_loc s t i i (s.size - i) p hi hc Hi (by omega) (by rw [show i + (s.size - i) = s.size by omega, h10]; decide) (by
        right; left; rw [show i + (s.size - i) = s.size by omega, bt_out s _ (Nat.le_refl _)]; decide)
      rw [this]
      have : p.mv i = p := by unfold Tk.mv; rcases p with ⟨k, s', d, at_, en, l, c⟩; simp only [] at g4 g2 ⊢; subst g4; congr 1; omega
      rw [this]
  exact (hp _ _ _ h1).sce (by omega) hb hit.1
end Go.Proofs.YtagcfgoofiibfaaGreatDoor
namespace Go.Proofs.YtagcfgoofiibfaaGreatDoor
open Go Go.RowKit

theorem pos_agr {s t : ByteArray} {n : Nat} (H : ∀ k, k < n → bt t k = bt s k) : ∀ k, k ≤ n → pos t k = pos s k
  | 0, _ => rfl
  | k + 1, h => by simp only [pos]; rw [pos_agr H k (by omega), H k (by omega)]
theorem pos_after {b t : ByteArray} {j0 n : Nat} (H : ∀ k, k < n → bt t (j0 + k) = bt b k) (L : Int) (h0 : pos t j0 = (L + 1, 1)) : ∀ k, k ≤ n → pos t (j0 + k) = (L + (pos b k).1, (pos b k).2)
  | 0, _ => by rw [Nat.add_zero, h0]; rfl
  | k + 1, h => by
    have ih := pos_after H L h0 k (by omega)
    rw [show j0 + (k + 1) = j0 + k + 1 by omega]
    simp only [pos]
    rw [ih, H k (by omega)]
    unfold nxt
    split
    · simp only []; congr 1; omega
    · split <;> rfl

theorem Sc.bd {s : ByteArray} {i : Nat} {ps : List Tk} {ys : List (Nat × Nat)} (h : Sc s i ps ys) : ∀ p ∈ ps, i ≤ p.at_ ∧ p.at_ < p.en ∧ p.en ≤ s.size := by
  induction h with
  | fin => intro p hp; cases hp
  | blank i ps ys hi hb _ ih => intro p hp; have := ih p hp; omega
  | com i j ps ys hi hb hc _ ih => intro p hp; have := ih p hp; have := item_com s i j hi hc; omega
  | tok i p ps ys hi hb hc _ ih =>
    intro q hq
    have := item_tok s i p hi hc
    rcases List.mem_cons.1 hq with rfl | hq
    · omega
    · have := ih q hq; omega

def lf : ByteArray := ⟨#[10]⟩
theorem lf_size : lf.size = 1 := rfl
/-- a text below another one -/
def Tk.down (n : Nat) (l : Int) (t : Tk) : Tk := { t with at_ := t.at_ + n, en := t.en + n, line := t.line + l }
theorem app3_size (a b : ByteArray) : (a ++ lf ++ b).size = a.size + 1 + b.size := by rw [ByteArray.size_append, ByteArray.size_append, lf_size]
theorem app3_1 (a b : ByteArray) (k : Nat) (h : k < a.size) : bt (a ++ lf ++ b) k = bt a k := by rw [bt_app1 _ _ _ (by rw [ByteArray.size_append]; omega), bt_app1 _ _ _ h]
theorem app3_10 (a b : ByteArray) : bt (a ++ lf ++ b) a.size = 10 := by rw [bt_app1 _ _ _ (by rw [ByteArray.size_append, lf_size]; omega)]; exact bt_app2 a lf 0
theorem app3_2 (a b : ByteArray) (k : Nat) : bt (a ++ lf ++ b) (a.size + 1 + k) = bt b k := by
  have := bt_app2 (a ++ lf) b k
  rw [ByteArray.size_append, lf_size] at this; exact this

theorem together {a b : ByteArray} {ps qs : List Tk} {ys zs : List (Nat × Nat)} (ha : Sc a 0 ps ys) (hb : Sc b 0 qs zs) : ∃ ws, Sc (a ++ lf ++ b) 0 (ps ++ qs.map fun p => p.mv (a.size + 1 + p.at_)) ws := by
  have h1 := ha.pt (Nat.zero_le _)
  have h2 := hb.pt (Nat.zero_le _)
  have s0 := app3_size a b
  have s1 := app3_1 a b
  have s10 := app3_10 a b
  have s2 := app3_2 a b
  have bd := ha.bd
  generalize a ++ lf ++ b = t at s0 s1 s10 s2
  have H1 : Agr a t 0 0 (a.size - 0) := ⟨by omega, by omega, fun k hk => by rw [Nat.zero_add]; exact s1 k (by omega)⟩
  have H2 : Agr b t 0 (a.size + 1) (b.size - 0) := ⟨by omega, by omega, fun k hk => by rw [Nat.zero_add]; exact s2 k⟩
  have m1 := h1.move H1 (Nat.zero_le _) (.inr (by rw [Nat.zero_add, Nat.sub_zero, s10]; decide)) (fun _ _ _ _ => .inr (by rw [Nat.zero_add, Nat.sub_zero, s10]))
  have m2 := h2.move H2 (Nat.zero_le _) (.inr (bar_end _ _ (by omega))) (fun _ _ _ _ => .inl (by omega))
  simp only [Nat.zero_add, Nat.sub_zero, Nat.add_zero] at m1 m2
  have mid : Pt t (a.size + 1) a.size [] [] := .blank _ _ _ (by omega) (by rw [s10]; decide) .nil
  have := (m1.app mid).app m2
  have e : ps.map (fun p => p.mv p.at_) = ps := by
    conv => rhs; rw [← List.map_id ps]
    refine List.map_congr_left fun p hp => ?_
    have := bd p hp
    unfold Tk.mv; rcases p with ⟨k, s', d, at_, en, l, c⟩; simp only [id] at this ⊢; congr 1; omega
  rw [e] at this
  simp only [List.append_nil] at this
  exact ⟨_, this.sc (by omega)⟩
theorem together_tokens (a b : ByteArray) (ha : a.size ≤ 3000) (hb : b.size ≤ 3000) (l m : List Tk) (h1 : tokens a = .ok l) (h2 : tokens b = .ok m) : tokens (a ++ lf ++ b) = .ok (l ++ m.map (Tk.down (a.size + 1) (pos a a.size).1)) := by
  rw [tokens_ok_iff _ (by omega)] at h1 h2
  obtain ⟨ps, ys, h1, rfl⟩ := h1
  obtain ⟨qs, zs, h2, rfl⟩ := h2
  obtain ⟨ws, h3⟩ := together h1 h2
  rw [tokens_ok_iff _ (by rw [app3_size]; omega)]
  refine ⟨_, _, h3, ?_⟩
  have s1 := app3_1 a b
  have s10 := app3_10 a b
  have s2 := app3_2 a b
  have bd1 := h1.bd
  have bd2 := h2.bd
  generalize a ++ lf ++ b = t at s1 s10 s2
  have p1 := pos_agr (s := a) (t := t) (n := a.size) s1
  have p2 := pos_after (b := b) (t := t) (j0 := a.size + 1) (n := b.size) (fun k _ => s2 k) (pos a a.size).1 (by
    simp only [pos]; rw [p1 _ (Nat.le_refl _), s10]; rfl)
  rw [List.map_append, List.map_map, List.map_map]
  congr 1
  · refine List.map_congr_left fun p hp => ?_
    have := bd1 p hp
    unfold placed Tk.placedAt; rw [p1 _ (by omega)]
  · refine List.map_congr_left fun p hp => ?_
    have := bd2 p hp
    have e := p2 p.at_ (by omega)
    simp only [Function.comp, placed, Tk.placedAt, Tk.mv, Tk.down]
    rw [e]
    congr 1
    · omega
    · omega
    · simp only []; omega

/-- WITHIN: a token alone -/
theorem tok_alone {s : ByteArray} {i : Nat} {p : Tk} (hi : i < s.size) (hb : blk (bt s i) = false) (hc : item s i = .tok p) : Sc (s.extract p.at_ p.en) 0 [p.mv 0] [] := by
  obtain ⟨g1, g2, g3, g4, g5, g6⟩ := item_tok s i p hi hc
  have H := Agr.extract s i p.en (by omega) g3
  have hs := size_ext s i p.en g3
  rw [g4]
  generalize s.extract i p.en = t at H hs
  have := tok_item_loc s t i 0 (p.en - i) p hi hc H (by omega) (bar_end _ _ (by omega)) (.inl (by omega))
  have b0 := H.b 0 (by omega)
  rw [Nat.add_zero, Nat.add_zero] at b0
  refine .tok 0 _ _ _ (by omega) (by rw [b0]; exact hb) this (.fin _ ?_)
  show t.size ≤ 0 + (p.en - p.at_)
  omega
/-- what a token is read from -/
theorem Sc.mem {s : ByteArray} {i : Nat} {ps : List Tk} {ys : List (Nat × Nat)} (h : Sc s i ps ys) : ∀ p ∈ ps, p.at_ < s.size ∧ blk (bt s p.at_) = false ∧ item s p.at_ = .tok p := by
  induction h with
  | fin => intro p hp; cases hp
  | blank i ps ys hi hb _ ih => exact ih
  | com i j ps ys hi hb hc _ ih => exact ih
  | tok i p ps ys hi hb hc _ ih =>
    intro q hq
    have := item_tok s i p hi hc
    rcases List.mem_cons.1 hq with rfl | hq
    · rw [this.2.2.2.1]; exact ⟨hi, hb, hc⟩
    · exact ih q hq
/-- .. and what stands ahead of it, and behind it -/
theorem Sc.split {s : ByteArray} {i : Nat} {p : Tk} {ps : List Tk} {ys : List (Nat × Nat)} (h : Sc s i (p :: ps) ys) : i ≤ p.at_ ∧ (∃ zs, Pt s p.at_ i [] zs) ∧ ∃ ws, Sc s p.en ps ws := by
  generalize hq : p :: ps = qs at h
  induction h with
  | fin => cases hq
  | blank i ps ys hi hb _ ih =>
    obtain ⟨h1, ⟨zs, h2⟩, h3⟩ := ih hq
    exact ⟨by omega, ⟨_, .blank i _ _ hi hb h2⟩, h3⟩
  | com i j ps ys hi hb hc _ ih =>
    obtain ⟨h1, ⟨zs, h2⟩, h3⟩ := ih hq
    have := item_com s i j hi hc
    exact ⟨by omega, ⟨_, .com i j _ _ hi hb hc h2⟩, h3⟩
  | tok i p' ps' ys hi hb hc h' ih =>
    injection hq with e1 e2
    subst e1 e2
    have := item_tok s i p hi hc
    rw [this.2.2.2.1]
    exact ⟨Nat.le_refl _, ⟨_, .nil⟩, ⟨_, h'⟩⟩
theorem between {s : ByteArray} {i j : Nat} {zs : List (Nat × Nat)} (h : Pt s j i [] zs) (hj : j ≤ s.size) : ∃ ws, Sc (s.extract i j) 0 [] ws := by
  have hle := h.le
  have H := Agr.extract s i j hle hj
  have hs := size_ext s i j hj
  have := h.move H (Nat.le_refl _) (.inl rfl) (fun _ _ _ _ => .inl (by omega))
  simp only [Nat.zero_add, Nat.sub_self] at this
  exact ⟨_, this.sc (by omega)⟩
end Go.Proofs.YtagcfgoofiibfaaGreatDoor
