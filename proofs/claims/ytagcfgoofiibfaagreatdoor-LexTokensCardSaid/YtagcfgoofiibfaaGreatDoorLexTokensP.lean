/- The law LexTokensP: its walk and its statement: Q9, Q10, Q12. -/
import Derived.Test.YtagcfgoofiibfaaGreatDoorG36
import Derived.Test.YtagcfgoofiibfaaGreatDoorG37
set_option linter.unusedVariables false
set_option linter.unusedSimpArgs false
namespace Go.Proofs.YtagcfgoofiibfaaGreatDoor
open Go Go.RowKit

/-- where the token ahead of the k-th one ends -/
def prevEn (l : List Tk) : Nat → Nat
  | 0 => 0
  | k + 1 => match l[k]? with
    | some t => t.en
    | none => 0
/-- what LexWithin says of a token -/
structure WithinAt (s : ByteArray) (a : Nat) (x : Tk) : Prop where
  ap : a ≤ x.at_
  lt : x.at_ < x.en
  le : x.en ≤ s.size
  own : ∃ y, tokens (s.extract x.at_ x.en) = .ok [y] ∧ y.k = x.k ∧ y.s = x.s ∧ y.d = x.d ∧ y.at_ = 0 ∧ y.en = (s.extract x.at_ x.en).size
  loc : pos s x.at_ = (x.line, x.col)
  bet : tokens (s.extract a x.at_) = .ok []
theorem Sc.gap {s : ByteArray} : ∀ {ps : List Tk} {i : Nat} {ys : List (Nat × Nat)}, Sc s i ps ys → ∀ (k : Nat) (p : Tk), ps[k]? = some p → ∃ a zs, Pt s p.at_ a [] zs ∧ (k = 0 → a = i) ∧ (∀ j q, k = j + 1 → ps[j]? = some q → a = q.en)
  | [], _, _, _, k, p, hk => by simp at hk
  | q :: ps, i, ys, h, 0, p, hk => by
    simp only [List.getElem?_cons_zero, Option.some.injEq] at hk
    subst hk
    obtain ⟨_, ⟨zs, h1⟩, _⟩ := h.split
    exact ⟨i, zs, h1, fun _ => rfl, fun j q e => absurd e (by omega)⟩
  | q :: ps, i, ys, h, k + 1, p, hk => by
    simp only [List.getElem?_cons_succ] at hk
    obtain ⟨_, _, ws, h2⟩ := h.split
    obtain ⟨a, zs, h3, h4, h5⟩ := Sc.gap h2 k p hk
    refine ⟨a, zs, h3, (fun e => absurd e (by omega)), fun j r e hr => ?_⟩
    injection e with e
    subst e
    rcases k with _ | k
    · simp only [List.getElem?_cons_zero, Option.some.injEq] at hr
      subst hr
      exact h4 rfl
    · simp only [List.getElem?_cons_succ] at hr
      exact h5 k r rfl hr
theorem within_plain {s : ByteArray} (hs : s.size ≤ 3000) {l : List Tk} (h : tokens s = .ok l) (k : Nat) (x : Tk) (hx : l[k]? = some x) : WithinAt s (prevEn l k) x := by
  rw [tokens_ok_iff s (by omega)] at h
  obtain ⟨ps, ys, h1, rfl⟩ := h
  rw [List.getElem?_map] at hx
  rcases hp : ps[k]? with _ | p
  · rw [hp] at hx; cases hx
  rw [hp] at hx
  simp only [Option.map_some, Option.some.injEq] at hx
  subst hx
  have hm := List.mem_of_getElem? hp
  obtain ⟨m1, m2, m3⟩ := h1.mem p hm
  obtain ⟨b1, b2, b3⟩ := h1.bd p hm
  obtain ⟨a, zs, g1, g2, g3⟩ := h1.gap k p hp
  have ha : prevEn (ps.map (placed s)) k = a := by
    rcases k with _ | k
    · exact (g2 rfl).symm
    · simp only [prevEn]
      have hlt : k < ps.length := by
        rcases Nat.lt_or_ge k ps.length with q | q
        · exact q
        · rw [List.getElem?_eq_none (by omega)] at hp; cases hp
      rw [List.getElem?_map, List.getElem?_eq_getElem hlt]
      exact (g3 k _ rfl (List.getElem?_eq_getElem hlt)).symm
  rw [ha]
  have hle := g1.le
  have e1 := size_ext s p.at_ p.en b3
  refine ⟨hle, b2, b3, ?_, rfl, ?_⟩
  · have := tok_alone m1 m2 m3
    refine ⟨placed (s.extract p.at_ p.en) (p.mv 0), (tokens_ok_iff _ (by show (s.extract p.at_ p.en).size ≤ _; omega) _).2 ⟨_, _, this, rfl⟩, rfl, rfl, rfl, rfl, ?_⟩
    show 0 + (p.en - p.at_) = (s.extract p.at_ p.en).size
    omega
  · obtain ⟨ws, h5⟩ := between g1 (by omega)
    have e2 := size_ext s a p.at_ (by omega)
    exact (tokens_ok_iff _ (by show (s.extract a p.at_).size ≤ _; omega) _).2 ⟨_, _, h5, rfl⟩
end Go.Proofs.YtagcfgoofiibfaaGreatDoor
namespace Go.Proofs.YtagcfgoofiibfaaGreatDoor
open Go Go.RowKit

/-- what a token says, without its place -/
def Tk.key (t : Tk) : Int × ByteArray × List Int := (t.k, t.s, t.d)
theorem Tk.key_mv (t : Tk) (j : Nat) : (t.mv j).key = t.key := rfl
theorem Tk.key_placed (s : ByteArray) (t : Tk) : (placed s t).key = t.key := rfl
/-- a gap that can stand behind a token -/
structure GapB (κ : ByteArray) : Prop where
  g : Gap κ
  p : 0 < κ.size
  b : bar (bt κ 0) = true
/-- tokens with gaps behind them -/
def bl (s : ByteArray) (κ : Nat → ByteArray) : List Tk → Nat → ByteArray
  | [], _ => ByteArray.empty
  | p :: ps, i => (s.extract p.at_ p.en ++ κ (i + 1)) ++ bl s κ ps (i + 1)
theorem bl_snoc (s : ByteArray) (κ : Nat → ByteArray) (p : Tk) : ∀ (ps : List Tk) (i : Nat), bl s κ (ps ++ [p]) i = bl s κ ps i ++ (s.extract p.at_ p.en ++ κ (i + ps.length + 1))
  | [], i => by simp [bl]
  | q :: ps, i => by
    simp only [List.cons_append, bl, List.length_cons]
    rw [bl_snoc s κ p ps (i + 1), ByteArray.append_assoc (a := s.extract q.at_ q.en ++ κ (i + 1))]
    rw [show i + 1 + ps.length + 1 = i + (ps.length + 1) + 1 by omega]
theorem agr_parts {a b t : ByteArray} {x : Nat} (H : Agr (a ++ b) t 0 x (a ++ b).size) : Agr a t 0 x a.size ∧ Agr b t 0 (x + a.size) b.size := by
  have h1 := H.lt
  have h0 := ByteArray.size_append (a := a) (b := b)
  refine ⟨⟨by omega, by omega, fun k hk => ?_⟩, ⟨by omega, by omega, fun k hk => ?_⟩⟩
  · rw [H.b k (by omega)]; simp only [Nat.zero_add]; rw [bt_app1 _ _ _ hk]
  · rw [show x + a.size + k = x + (a.size + k) by omega, H.b (a.size + k) (by omega)]; simp only [Nat.zero_add]; rw [bt_app2]
theorem bl_sc {s t : ByteArray} {κ : Nat → ByteArray} (hκ : ∀ i, GapB (κ i)) : ∀ (ps : List Tk) (i x : Nat), (∀ p ∈ ps, p.at_ < s.size ∧ blk (bt s p.at_) = false ∧ item s p.at_ = .tok p) → Agr (bl s κ ps i) t 0 x (bl s κ ps i).size → x + (bl s κ ps i).size = t.size →
    ∃ qs zs, Sc t x qs zs ∧ qs.map Tk.key = ps.map Tk.key
  | [], i, x, _, _, he => ⟨[], [], .fin _ (by have : (bl s κ [] i).size = 0 := rfl; omega), rfl⟩
  | p :: ps, i, x, hp, H, he => by
    simp only [bl] at H he
    obtain ⟨m1, m2, m3⟩ := hp p (by simp)
    obtain ⟨g1, g2, g3, g4, g5, g6⟩ := item_tok s _ p m1 m3
    have e1 := size_ext s p.at_ p.en g3
    obtain ⟨H1, H2⟩ := agr_parts H
    obtain ⟨H3, H4⟩ := agr_parts H1
    have z1 := ByteArray.size_append (a := s.extract p.at_ p.en ++ κ (i + 1)) (b := bl s κ ps (i + 1))
    have z2 := ByteArray.size_append (a := s.extract p.at_ p.en) (b := κ (i + 1))
    obtain ⟨qs, zs, h1, h2⟩ := bl_sc hκ ps (i + 1) _ (fun q hq => hp q (by simp [hq])) H2 (by omega)
    rw [z2, ← Nat.add_assoc] at h1
    obtain ⟨ws, h3⟩ := (hκ (i + 1)).g.glue H4 h1
    rw [e1] at h3 H3 H4
    have hA : Agr s t p.at_ x (p.en - p.at_) := ⟨by omega, by have := H3.lt; omega, fun k hk => by
      rw [H3.b k hk, Nat.zero_add, bt_ext s _ _ k hk g3]⟩
    have hbar : bar (bt t (x + (p.en - p.at_))) = true := by
      have := H4.b 0 (hκ (i + 1)).p
      rw [Nat.add_zero, Nat.add_zero] at this
      rw [this]; exact (hκ (i + 1)).b
    exact ⟨_, _, tok_glue m1 m2 m3 hA hbar h3, by simp only [List.map_cons, Tk.key_mv, h2]⟩
theorem bl_size (s : ByteArray) (κ : Nat → ByteArray) (hκ : ∀ i, (κ i).size ≤ 16) : ∀ (ps : List Tk) (i N : Nat), ps.Pairwise (fun a b => a.en ≤ b.at_) → (∀ p ∈ ps, N ≤ p.at_ ∧ p.at_ < p.en ∧ p.en ≤ s.size) → N ≤ s.size → (bl s κ ps i).size ≤ (s.size - N) + 16 * ps.length
  | [], i, N, _, _, _ => Nat.zero_le _
  | p :: ps, i, N, ho, hb, hN => by
    have h1 := hb p (by simp)
    have e1 := size_ext s p.at_ p.en h1.2.2
    rw [List.pairwise_cons] at ho
    have ih := bl_size s κ hκ ps (i + 1) p.en ho.2 (fun q hq => ⟨ho.1 q hq, (hb q (by simp [hq])).2⟩) h1.2.2
    have := hκ (i + 1)
    simp only [bl, ByteArray.size_append, e1, List.length_cons]
    omega
theorem Sc.ord {s : ByteArray} {i : Nat} {ps : List Tk} {ys : List (Nat × Nat)} (h : Sc s i ps ys) : ps.Pairwise (fun a b => a.en ≤ b.at_) := by
  induction h with
  | fin => exact List.Pairwise.nil
  | blank i ps ys hi hb _ ih => exact ih
  | com i j ps ys hi hb hc _ ih => exact ih
  | tok i p ps ys hi hb hc h' ih => exact List.pairwise_cons.2 ⟨fun q hq => (h'.bd q hq).1, ih⟩
theorem bl_placed (s : ByteArray) (κ : Nat → ByteArray) : ∀ (ps : List Tk) (i : Nat), bl s κ (ps.map (placed s)) i = bl s κ ps i
  | [], _ => rfl
  | p :: ps, i => by simp only [List.map_cons, bl]; rw [bl_placed s κ ps (i + 1)]; rfl
/-- BLANKS -/
theorem blanks_plain {s : ByteArray} (hs : s.size ≤ 3000) {l : List Tk} (h : tokens s = .ok l) (hl : l.length ≤ 300) (κ : Nat → ByteArray) (hκ : ∀ i, GapB (κ i)) (hz : ∀ i, (κ i).size ≤ 16) : ∃ q, tokens (κ 0 ++ bl s κ l 0) = .ok q ∧ q.map Tk.key = l.map Tk.key := by
  rw [tokens_ok_iff s (by omega)] at h
  obtain ⟨ps, ys, h1, rfl⟩ := h
  rw [bl_placed]
  rw [List.length_map] at hl
  have hb := bl_size s κ hz ps 0 0 h1.ord (fun p hp => h1.bd p hp) (Nat.zero_le _)
  have hH : Agr (κ 0 ++ bl s κ ps 0) (κ 0 ++ bl s κ ps 0) 0 0 (κ 0 ++ bl s κ ps 0).size := ⟨by omega, by omega, fun k _ => rfl⟩
  have z := ByteArray.size_append (a := κ 0) (b := bl s κ ps 0)
  have z0 := hz 0
  generalize ht : κ 0 ++ bl s κ ps 0 = t at hH z
  rw [← ht] at hH
  have hH' : Agr (κ 0 ++ bl s κ ps 0) t 0 0 (κ 0 ++ bl s κ ps 0).size := by rw [ht] at hH ⊢; exact hH
  obtain ⟨H1, H2⟩ := agr_parts hH'
  obtain ⟨qs, zs, h2, h3⟩ := bl_sc hκ ps 0 _ (fun p hp => h1.mem p hp) H2 (by omega)
  obtain ⟨ws, h4⟩ := (hκ 0).g.glue H1 h2
  refine ⟨qs.map (placed t), (tokens_ok_iff t (by omega) _).2 ⟨_, _, h4, rfl⟩, ?_⟩
  rw [List.map_map, List.map_map]
  exact h3
/-- the gaps of LexBlanks -/
def gapRows : List ByteArray := [⟨#[32]⟩, ⟨#[9]⟩, ⟨#[10]⟩, ⟨#[32, 13, 10]⟩, ⟨#[32, 40, 42, 42, 41]⟩, ⟨#[40, 42, 32, 97, 32, 40, 42, 32, 34, 32, 42, 41, 32, 42, 41, 32]⟩, ⟨#[32, 92, 42, 32, 40, 42, 32, 34, 10]⟩, ⟨#[32, 32]⟩]
theorem gapRows_ok : gapRows.all (fun κ => gapOk κ && decide (0 < κ.size) && bar (bt κ 0) && decide (κ.size ≤ 16)) = true := by decide +kernel
theorem gapRows_b {κ : ByteArray} (h : κ ∈ gapRows) : GapB κ ∧ κ.size ≤ 16 := by
  have := List.all_eq_true.1 gapRows_ok κ h
  simp only [Bool.and_eq_true, decide_eq_true_eq] at this
  obtain ⟨⟨⟨h1, h2⟩, h3⟩, h4⟩ := this
  exact ⟨⟨Gap.of h1, h2, h3⟩, h4⟩
end Go.Proofs.YtagcfgoofiibfaaGreatDoor
namespace Go.Proofs.YtagcfgoofiibfaaGreatDoor
open Go Go.RowKit

theorem quo_k (s : ByteArray) (i : Nat) (p : Tk) : ∀ (f k : Nat) (o : List UInt8), quo s i f k o = .ok p → p.k = 3 ∧ p.d = []
  | 0, _, _, h => by simp only [quo] at h; cases h
  | f + 1, k, o, h => by
    simp only [quo] at h
    split at h
    · cases h
    · split at h
      · split at h
        · cases h
        · injection h with h; subst h; exact ⟨rfl, rfl⟩
      · split at h
        · split at h
          · split at h
            · cases h
            · exact quo_k s i p f _ _ h
          · cases h
        · split at h
          · cases h
          · exact quo_k s i p f _ _ h
theorem sgn_k (s : ByteArray) (i : Nat) (p : Tk) (N : Nat) (h : sgn s i N = .ok p) : p.k = 5 ∧ p.d = [] := by
  obtain ⟨L, c, _, _, rfl, _⟩ := sgn_ok s i p N h
  exact ⟨rfl, rfl⟩
/-- a sign has no number -/
theorem tokF_nod (s : ByteArray) (i : Nat) (p : Tk) (h : tokF s i = .ok p) (hk : p.k ≠ 2) : p.d = [] := by
  unfold tokF at h
  split at h
  · unfold runF at h
    (repeat' split at h) <;> first | (cases h; done) | (injection h with h; subst h; first | rfl | exact absurd rfl hk)
  · split at h
    · unfold basedF at h
      split at h
      · cases h
      · injection h with h; subst h; exact absurd rfl hk
    · split at h
      · exact (quo_k s i p _ _ _ h).2
      · split at h
        · injection h with h; subst h; rfl
        · split at h
          · injection h with h; subst h; rfl
          · unfold signF at h
            split at h
            · injection h with h; subst h; rfl
            · exact (sgn_k s i p _ h).2
theorem signs_len40 : signsL.all (fun p => decide (p.1.length ≤ 40)) = true := by decide +kernel
theorem canon_size {w c : ByteArray} (h : canonOf w = some c) : w.size ≤ 40 := by
  obtain ⟨q, hq, he⟩ := canonOf_mem h
  have := List.all_eq_true.1 signs_len40 q hq
  rw [he] at this
  have e : w.size = w.data.toList.length := by rw [Array.length_toList]; rfl
  rw [e]; simpa using this
theorem respell_tokens {s : ByteArray} (hs : s.size ≤ 3000) {l : List Tk} (h : tokens s = .ok l) {x : Tk} (hx : x ∈ l) (hk : x.k = 5) {w : ByteArray} (hw : canonOf w = some x.s) :
    ∃ q, tokens (s.extract 0 x.at_ ++ sp ++ w ++ sp ++ s.extract x.en s.size) = .ok q ∧ q.map Tk.key = l.map Tk.key := by
  rw [tokens_ok_iff s (by omega)] at h
  obtain ⟨ps, ys, h1, rfl⟩ := h
  obtain ⟨p, hp, rfl⟩ := List.mem_map.1 hx
  have hm := h1.mem p hp
  have hbd := h1.bd p hp
  have hd := tokF_nod s p.at_ p (item_tok s _ p hm.1 hm.2.2).1 (by have : p.k = 5 := hk; omega)
  obtain ⟨p1, p2, rfl⟩ := List.append_of_mem hp
  obtain ⟨q1, q2, zs, h2, rfl, rfl⟩ := respell h1 hk hd w hw
  have hz := canon_size hw
  have e1 := size_ext s 0 p.at_ (by omega)
  have e2 := size_ext s p.en s.size (Nat.le_refl _)
  refine ⟨_, (tokens_ok_iff _ (by
    show (s.extract 0 p.at_ ++ sp ++ w ++ sp ++ s.extract p.en s.size).size ≤ 20000
    simp only [ByteArray.size_append, e1, e2, sp_size]; omega) _).2 ⟨_, _, h2, rfl⟩, ?_⟩
  simp only [List.map_map, List.map_append, List.map_cons]
  have e : (⟨5, p.s, [], p.at_ + 1, p.at_ + 1 + w.size, 0, 0⟩ : Tk).key = p.key := by
    have : p.k = 5 := hk
    unfold Tk.key; rw [hd, this]
  simp only [Function.comp_def, Tk.key_placed, Tk.key_mv]
  rw [e]
theorem likeL_key : ∀ {a b : List Tk}, a.map Tk.key = b.map Tk.key → likeL a b = true
  | [], [], _ => rfl
  | [], b :: bs, h => by simp at h
  | a :: as', [], h => by simp at h
  | a :: as', b :: bs', h => by
    simp only [List.map_cons, List.cons.injEq] at h
    obtain ⟨h1, h2⟩ := h
    unfold Tk.key at h1
    injection h1 with k1 h1
    injection h1 with k2 k3
    simp only [likeL, likeL_key h2, likeF, k1, k2, k3]
    simp
theorem tokens_of_sc {s : ByteArray} (hs : s.size ≤ 100000) {ps : List Tk} {ys : List (Nat × Nat)} (h : Sc s 0 ps ys) (hl : ps.length ≤ 20000) : tokens s = .ok (ps.map (placed s)) := by
  unfold tokens
  rw [if_neg (by omega), (scan_ok_iff s ps ys).2 h]
  show (if 20000 < ps.length then _ else _) = _
  rw [if_neg (by omega)]
theorem sc_of_tokens {s : ByteArray} {ts : List Tk} (h : tokens s = .ok ts) : ∃ ps ys, Sc s 0 ps ys ∧ ts = ps.map (placed s) := by
  unfold tokens at h
  split at h
  · cases h
  · rcases hs : scan s with e | ⟨ps, ys⟩
    · rw [hs] at h; cases h
    · rw [hs] at h
      change (if 20000 < ps.length then _ else _) = _ at h
      split at h
      · cases h
      · injection h with h
        exact ⟨ps, ys, (scan_ok_iff s ps ys).1 hs, h.symm⟩
end Go.Proofs.YtagcfgoofiibfaaGreatDoor
