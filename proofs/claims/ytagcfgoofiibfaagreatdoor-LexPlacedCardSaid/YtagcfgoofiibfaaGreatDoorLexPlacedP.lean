/- The law LexPlacedP: its walk and its statement: Q9, Q10, Q12, Q13, Q14, Q15, PD0, Q21, Q22, Q23. -/
import Derived.Test.YtagcfgoofiibfaaGreatDoorG36
import Derived.Test.YtagcfgoofiibfaaGreatDoorG37
import Derived.Test.YtagcfgoofiibfaaGreatDoorG15
import Derived.Lib.ItoaNum
import Derived.Test.YtagcfgoofiibfaaGreatDoorG38
set_option linter.unusedVariables false
set_option linter.unusedSimpArgs false
namespace Go.Proofs.YtagcfgoofiibfaaGreatDoor
open Go Go.RowKit

/-- where the token ahead of the k-th one ends -/
def prevEn (l : List Tk) : Nat → Nat
  | 0 => 0
  | k + 1 => match l[k]? with
    | some t => t.en
    | none => 0
/-- what LexWithin says of a token -/
structure WithinAt (s : ByteArray) (a : Nat) (x : Tk) : Prop where
  ap : a ≤ x.at_
  lt : x.at_ < x.en
  le : x.en ≤ s.size
  own : ∃ y, tokens (s.extract x.at_ x.en) = .ok [y] ∧ y.k = x.k ∧ y.s = x.s ∧ y.d = x.d ∧ y.at_ = 0 ∧ y.en = (s.extract x.at_ x.en).size
  loc : pos s x.at_ = (x.line, x.col)
  bet : tokens (s.extract a x.at_) = .ok []
theorem Sc.gap {s : ByteArray} : ∀ {ps : List Tk} {i : Nat} {ys : List (Nat × Nat)}, Sc s i ps ys → ∀ (k : Nat) (p : Tk), ps[k]? = some p → ∃ a zs, Pt s p.at_ a [] zs ∧ (k = 0 → a = i) ∧ (∀ j q, k = j + 1 → ps[j]? = some q → a = q.en)
  | [], _, _, _, k, p, hk => by simp at hk
  | q :: ps, i, ys, h, 0, p, hk => by
    simp only [List.getElem?_cons_zero, Option.some.injEq] at hk
    subst hk
    obtain ⟨_, ⟨zs, h1⟩, _⟩ := h.split
    exact ⟨i, zs, h1, fun _ => rfl, fun j q e => absurd e (by omega)⟩
  | q :: ps, i, ys, h, k + 1, p, hk => by
    simp only [List.getElem?_cons_succ] at hk
    obtain ⟨_, _, ws, h2⟩ := h.split
    obtain ⟨a, zs, h3, h4, h5⟩ := Sc.gap h2 k p hk
    refine ⟨a, zs, h3, (fun e => absurd e (by omega)), fun j r e hr => ?_⟩
    injection e with e
    subst e
    rcases k with _ | k
    · simp only [List.getElem?_cons_zero, Option.some.injEq] at hr
      subst hr
      exact h4 rfl
    · simp only [List.getElem?_cons_succ] at hr
      exact h5 k r rfl hr
theorem within_plain {s : ByteArray} (hs : s.size ≤ 3000) {l : List Tk} (h : tokens s = .ok l) (k : Nat) (x : Tk) (hx : l[k]? = some x) : WithinAt s (prevEn l k) x := by
  rw [tokens_ok_iff s (by omega)] at h
  obtain ⟨ps, ys, h1, rfl⟩ := h
  rw [List.getElem?_map] at hx
  rcases hp : ps[k]? with _ | p
  · rw [hp] at hx; cases hx
  rw [hp] at hx
  simp only [Option.map_some, Option.some.injEq] at hx
  subst hx
  have hm := List.mem_of_getElem? hp
  obtain ⟨m1, m2, m3⟩ := h1.mem p hm
  obtain ⟨b1, b2, b3⟩ := h1.bd p hm
  obtain ⟨a, zs, g1, g2, g3⟩ := h1.gap k p hp
  have ha : prevEn (ps.map (placed s)) k = a := by
    rcases k with _ | k
    · exact (g2 rfl).symm
    · simp only [prevEn]
      have hlt : k < ps.length := by
        rcases Nat.lt_or_ge k ps.length with q | q
        · exact q
        · rw [List.getElem?_eq_none (by omega)] at hp; cases hp
      rw [List.getElem?_map, List.getElem?_eq_getElem hlt]
      exact (g3 k _ rfl (List.getElem?_eq_getElem hlt)).symm
  rw [ha]
  have hle := g1.le
  have e1 := size_ext s p.at_ p.en b3
  refine ⟨hle, b2, b3, ?_, rfl, ?_⟩
  · have := tok_alone m1 m2 m3
    refine ⟨placed (s.extract p.at_ p.en) (p.mv 0), (tokens_ok_iff _ (by show (s.extract p.at_ p.en).size ≤ _; omega) _).2 ⟨_, _, this, rfl⟩, rfl, rfl, rfl, rfl, ?_⟩
    show 0 + (p.en - p.at_) = (s.extract p.at_ p.en).size
    omega
  · obtain ⟨ws, h5⟩ := between g1 (by omega)
    have e2 := size_ext s a p.at_ (by omega)
    exact (tokens_ok_iff _ (by show (s.extract a p.at_).size ≤ _; omega) _).2 ⟨_, _, h5, rfl⟩
end Go.Proofs.YtagcfgoofiibfaaGreatDoor
namespace Go.Proofs.YtagcfgoofiibfaaGreatDoor
open Go Go.RowKit

/-- what a token says, without its place -/
def Tk.key (t : Tk) : Int × ByteArray × List Int := (t.k, t.s, t.d)
theorem Tk.key_mv (t : Tk) (j : Nat) : (t.mv j).key = t.key := rfl
theorem Tk.key_placed (s : ByteArray) (t : Tk) : (placed s t).key = t.key := rfl
/-- a gap that can stand behind a token -/
structure GapB (κ : ByteArray) : Prop where
  g : Gap κ
  p : 0 < κ.size
  b : bar (bt κ 0) = true
/-- tokens with gaps behind them -/
def bl (s : ByteArray) (κ : Nat → ByteArray) : List Tk → Nat → ByteArray
  | [], _ => ByteArray.empty
  | p :: ps, i => (s.extract p.at_ p.en ++ κ (i + 1)) ++ bl s κ ps (i + 1)
theorem bl_snoc (s : ByteArray) (κ : Nat → ByteArray) (p : Tk) : ∀ (ps : List Tk) (i : Nat), bl s κ (ps ++ [p]) i = bl s κ ps i ++ (s.extract p.at_ p.en ++ κ (i + ps.length + 1))
  | [], i => by simp [bl]
  | q :: ps, i => by
    simp only [List.cons_append, bl, List.length_cons]
    rw [bl_snoc s κ p ps (i + 1), ByteArray.append_assoc (a := s.extract q.at_ q.en ++ κ (i + 1))]
    rw [show i + 1 + ps.length + 1 = i + (ps.length + 1) + 1 by omega]
theorem agr_parts {a b t : ByteArray} {x : Nat} (H : Agr (a ++ b) t 0 x (a ++ b).size) : Agr a t 0 x a.size ∧ Agr b t 0 (x + a.size) b.size := by
  have h1 := H.lt
  have h0 := ByteArray.size_append (a := a) (b := b)
  refine ⟨⟨by omega, by omega, fun k hk => ?_⟩, ⟨by omega, by omega, fun k hk => ?_⟩⟩
  · rw [H.b k (by omega)]; simp only [Nat.zero_add]; rw [bt_app1 _ _ _ hk]
  · rw [show x + a.size + k = x + (a.size + k) by omega, H.b (a.size + k) (by omega)]; simp only [Nat.zero_add]; rw [bt_app2]
theorem bl_sc {s t : ByteArray} {κ : Nat → ByteArray} (hκ : ∀ i, GapB (κ i)) : ∀ (ps : List Tk) (i x : Nat), (∀ p ∈ ps, p.at_ < s.size ∧ blk (bt s p.at_) = false ∧ item s p.at_ = .tok p) → Agr (bl s κ ps i) t 0 x (bl s κ ps i).size → x + (bl s κ ps i).size = t.size →
    ∃ qs zs, Sc t x qs zs ∧ qs.map Tk.key = ps.map Tk.key
  | [], i, x, _, _, he => ⟨[], [], .fin _ (by have : (bl s κ [] i).size = 0 := rfl; omega), rfl⟩
  | p :: ps, i, x, hp, H, he => by
    simp only [bl] at H he
    obtain ⟨m1, m2, m3⟩ := hp p (by simp)
    obtain ⟨g1, g2, g3, g4, g5, g6⟩ := item_tok s _ p m1 m3
    have e1 := size_ext s p.at_ p.en g3
    obtain ⟨H1, H2⟩ := agr_parts H
    obtain ⟨H3, H4⟩ := agr_parts H1
    have z1 := ByteArray.size_append (a := s.extract p.at_ p.en ++ κ (i + 1)) (b := bl s κ ps (i + 1))
    have z2 := ByteArray.size_append (a := s.extract p.at_ p.en) (b := κ (i + 1))
    obtain ⟨qs, zs, h1, h2⟩ := bl_sc hκ ps (i + 1) _ (fun q hq => hp q (by simp [hq])) H2 (by omega)
    rw [z2, ← Nat.add_assoc] at h1
    obtain ⟨ws, h3⟩ := (hκ (i + 1)).g.glue H4 h1
    rw [e1] at h3 H3 H4
    have hA : Agr s t p.at_ x (p.en - p.at_) := ⟨by omega, by have := H3.lt; omega, fun k hk => by
      rw [H3.b k hk, Nat.zero_add, bt_ext s _ _ k hk g3]⟩
    have hbar : bar (bt t (x + (p.en - p.at_))) = true := by
      have := H4.b 0 (hκ (i + 1)).p
      rw [Nat.add_zero, Nat.add_zero] at this
      rw [this]; exact (hκ (i + 1)).b
    exact ⟨_, _, tok_glue m1 m2 m3 hA hbar h3, by simp only [List.map_cons, Tk.key_mv, h2]⟩
theorem bl_size (s : ByteArray) (κ : Nat → ByteArray) (hκ : ∀ i, (κ i).size ≤ 16) : ∀ (ps : List Tk) (i N : Nat), ps.Pairwise (fun a b => a.en ≤ b.at_) → (∀ p ∈ ps, N ≤ p.at_ ∧ p.at_ < p.en ∧ p.en ≤ s.size) → N ≤ s.size → (bl s κ ps i).size ≤ (s.size - N) + 16 * ps.length
  | [], i, N, _, _, _ => Nat.zero_le _
  | p :: ps, i, N, ho, hb, hN => by
    have h1 := hb p (by simp)
    have e1 := size_ext s p.at_ p.en h1.2.2
    rw [List.pairwise_cons] at ho
    have ih := bl_size s κ hκ ps (i + 1) p.en ho.2 (fun q hq => ⟨ho.1 q hq, (hb q (by simp [hq])).2⟩) h1.2.2
    have := hκ (i + 1)
    simp only [bl, ByteArray.size_append, e1, List.length_cons]
    omega
theorem Sc.ord {s : ByteArray} {i : Nat} {ps : List Tk} {ys : List (Nat × Nat)} (h : Sc s i ps ys) : ps.Pairwise (fun a b => a.en ≤ b.at_) := by
  induction h with
  | fin => exact List.Pairwise.nil
  | blank i ps ys hi hb _ ih => exact ih
  | com i j ps ys hi hb hc _ ih => exact ih
  | tok i p ps ys hi hb hc h' ih => exact List.pairwise_cons.2 ⟨fun q hq => (h'.bd q hq).1, ih⟩
theorem bl_placed (s : ByteArray) (κ : Nat → ByteArray) : ∀ (ps : List Tk) (i : Nat), bl s κ (ps.map (placed s)) i = bl s κ ps i
  | [], _ => rfl
  | p :: ps, i => by simp only [List.map_cons, bl]; rw [bl_placed s κ ps (i + 1)]; rfl
/-- BLANKS -/
theorem blanks_plain {s : ByteArray} (hs : s.size ≤ 3000) {l : List Tk} (h : tokens s = .ok l) (hl : l.length ≤ 300) (κ : Nat → ByteArray) (hκ : ∀ i, GapB (κ i)) (hz : ∀ i, (κ i).size ≤ 16) : ∃ q, tokens (κ 0 ++ bl s κ l 0) = .ok q ∧ q.map Tk.key = l.map Tk.key := by
  rw [tokens_ok_iff s (by omega)] at h
  obtain ⟨ps, ys, h1, rfl⟩ := h
  rw [bl_placed]
  rw [List.length_map] at hl
  have hb := bl_size s κ hz ps 0 0 h1.ord (fun p hp => h1.bd p hp) (Nat.zero_le _)
  have hH : Agr (κ 0 ++ bl s κ ps 0) (κ 0 ++ bl s κ ps 0) 0 0 (κ 0 ++ bl s κ ps 0).size := ⟨by omega, by omega, fun k _ => rfl⟩
  have z := ByteArray.size_append (a := κ 0) (b := bl s κ ps 0)
  have z0 := hz 0
  generalize ht : κ 0 ++ bl s κ ps 0 = t at hH z
  rw [← ht] at hH
  have hH' : Agr (κ 0 ++ bl s κ ps 0) t 0 0 (κ 0 ++ bl s κ ps 0).size := by rw [ht] at hH ⊢; exact hH
  obtain ⟨H1, H2⟩ := agr_parts hH'
  obtain ⟨qs, zs, h2, h3⟩ := bl_sc hκ ps 0 _ (fun p hp => h1.mem p hp) H2 (by omega)
  obtain ⟨ws, h4⟩ := (hκ 0).g.glue H1 h2
  refine ⟨qs.map (placed t), (tokens_ok_iff t (by omega) _).2 ⟨_, _, h4, rfl⟩, ?_⟩
  rw [List.map_map, List.map_map]
  exact h3
/-- the gaps of LexBlanks -/
def gapRows : List ByteArray := [⟨#[32]⟩, ⟨#[9]⟩, ⟨#[10]⟩, ⟨#[32, 13, 10]⟩, ⟨#[32, 40, 42, 42, 41]⟩, ⟨#[40, 42, 32, 97, 32, 40, 42, 32, 34, 32, 42, 41, 32, 42, 41, 32]⟩, ⟨#[32, 92, 42, 32, 40, 42, 32, 34, 10]⟩, ⟨#[32, 32]⟩]
theorem gapRows_ok : gapRows.all (fun κ => gapOk κ && decide (0 < κ.size) && bar (bt κ 0) && decide (κ.size ≤ 16)) = true := by decide +kernel
theorem gapRows_b {κ : ByteArray} (h : κ ∈ gapRows) : GapB κ ∧ κ.size ≤ 16 := by
  have := List.all_eq_true.1 gapRows_ok κ h
  simp only [Bool.and_eq_true, decide_eq_true_eq] at this
  obtain ⟨⟨⟨h1, h2⟩, h3⟩, h4⟩ := this
  exact ⟨⟨Gap.of h1, h2, h3⟩, h4⟩
end Go.Proofs.YtagcfgoofiibfaaGreatDoor
namespace Go.Proofs.YtagcfgoofiibfaaGreatDoor
open Go Go.RowKit

theorem quo_k (s : ByteArray) (i : Nat) (p : Tk) : ∀ (f k : Nat) (o : List UInt8), quo s i f k o = .ok p → p.k = 3 ∧ p.d = []
  | 0, _, _, h => by simp only [quo] at h; cases h
  | f + 1, k, o, h => by
    simp only [quo] at h
    split at h
    · cases h
    · split at h
      · split at h
        · cases h
        · injection h with h; subst h; exact ⟨rfl, rfl⟩
      · split at h
        · split at h
          · split at h
            · cases h
            · exact quo_k s i p f _ _ h
          · cases h
        · split at h
          · cases h
          · exact quo_k s i p f _ _ h
theorem sgn_k (s : ByteArray) (i : Nat) (p : Tk) (N : Nat) (h : sgn s i N = .ok p) : p.k = 5 ∧ p.d = [] := by
  obtain ⟨L, c, _, _, rfl, _⟩ := sgn_ok s i p N h
  exact ⟨rfl, rfl⟩
/-- a sign has no number -/
theorem tokF_nod (s : ByteArray) (i : Nat) (p : Tk) (h : tokF s i = .ok p) (hk : p.k ≠ 2) : p.d = [] := by
  unfold tokF at h
  split at h
  · unfold runF at h
    (repeat' split at h) <;> first | (cases h; done) | (injection h with h; subst h; first | rfl | exact absurd rfl hk)
  · split at h
    · unfold basedF at h
      split at h
      · cases h
      · injection h with h; subst h; exact absurd rfl hk
    · split at h
      · exact (quo_k s i p _ _ _ h).2
      · split at h
        · injection h with h; subst h; rfl
        · split at h
          · injection h with h; subst h; rfl
          · unfold signF at h
            split at h
            · injection h with h; subst h; rfl
            · exact (sgn_k s i p _ h).2
theorem signs_len40 : signsL.all (fun p => decide (p.1.length ≤ 40)) = true := by decide +kernel
theorem canon_size {w c : ByteArray} (h : canonOf w = some c) : w.size ≤ 40 := by
  obtain ⟨q, hq, he⟩ := canonOf_mem h
  have := List.all_eq_true.1 signs_len40 q hq
  rw [he] at this
  have e : w.size = w.data.toList.length := by rw [Array.length_toList]; rfl
  rw [e]; simpa using this
theorem respell_tokens {s : ByteArray} (hs : s.size ≤ 3000) {l : List Tk} (h : tokens s = .ok l) {x : Tk} (hx : x ∈ l) (hk : x.k = 5) {w : ByteArray} (hw : canonOf w = some x.s) :
    ∃ q, tokens (s.extract 0 x.at_ ++ sp ++ w ++ sp ++ s.extract x.en s.size) = .ok q ∧ q.map Tk.key = l.map Tk.key := by
  rw [tokens_ok_iff s (by omega)] at h
  obtain ⟨ps, ys, h1, rfl⟩ := h
  obtain ⟨p, hp, rfl⟩ := List.mem_map.1 hx
  have hm := h1.mem p hp
  have hbd := h1.bd p hp
  have hd := tokF_nod s p.at_ p (item_tok s _ p hm.1 hm.2.2).1 (by have : p.k = 5 := hk; omega)
  obtain ⟨p1, p2, rfl⟩ := List.append_of_mem hp
  obtain ⟨q1, q2, zs, h2, rfl, rfl⟩ := respell h1 hk hd w hw
  have hz := canon_size hw
  have e1 := size_ext s 0 p.at_ (by omega)
  have e2 := size_ext s p.en s.size (Nat.le_refl _)
  refine ⟨_, (tokens_ok_iff _ (by
    show (s.extract 0 p.at_ ++ sp ++ w ++ sp ++ s.extract p.en s.size).size ≤ 20000
    simp only [ByteArray.size_append, e1, e2, sp_size]; omega) _).2 ⟨_, _, h2, rfl⟩, ?_⟩
  simp only [List.map_map, List.map_append, List.map_cons]
  have e : (⟨5, p.s, [], p.at_ + 1, p.at_ + 1 + w.size, 0, 0⟩ : Tk).key = p.key := by
    have : p.k = 5 := hk
    unfold Tk.key; rw [hd, this]
  simp only [Function.comp_def, Tk.key_placed, Tk.key_mv]
  rw [e]
theorem likeL_key : ∀ {a b : List Tk}, a.map Tk.key = b.map Tk.key → likeL a b = true
  | [], [], _ => rfl
  | [], b :: bs, h => by simp at h
  | a :: as', [], h => by simp at h
  | a :: as', b :: bs', h => by
    simp only [List.map_cons, List.cons.injEq] at h
    obtain ⟨h1, h2⟩ := h
    unfold Tk.key at h1
    injection h1 with k1 h1
    injection h1 with k2 k3
    simp only [likeL, likeL_key h2, likeF, k1, k2, k3]
    simp
theorem tokens_of_sc {s : ByteArray} (hs : s.size ≤ 100000) {ps : List Tk} {ys : List (Nat × Nat)} (h : Sc s 0 ps ys) (hl : ps.length ≤ 20000) : tokens s = .ok (ps.map (placed s)) := by
  unfold tokens
  rw [if_neg (by omega), (scan_ok_iff s ps ys).2 h]
  show (if 20000 < ps.length then _ else _) = _
  rw [if_neg (by omega)]
theorem sc_of_tokens {s : ByteArray} {ts : List Tk} (h : tokens s = .ok ts) : ∃ ps ys, Sc s 0 ps ys ∧ ts = ps.map (placed s) := by
  unfold tokens at h
  split at h
  · cases h
  · rcases hs : scan s with e | ⟨ps, ys⟩
    · rw [hs] at h; cases h
    · rw [hs] at h
      change (if 20000 < ps.length then _ else _) = _ at h
      split at h
      · cases h
      · injection h with h
        exact ⟨ps, ys, (scan_ok_iff s ps ys).1 hs, h.symm⟩
end Go.Proofs.YtagcfgoofiibfaaGreatDoor
namespace Go.Proofs.YtagcfgoofiibfaaGreatDoor
open Go Go.RowKit
set_option exponentiation.threshold 400

/-- a byte of a string, as it is written -/
def escB (b : UInt8) : List UInt8 := if b = 34 ∨ b = 92 then [92, b] else if b = 9 then [92, 116] else if b = 10 then [92, 110] else if b = 12 then [92, 102] else if b = 13 then [92, 114] else [b]
/-- the spelling of a valid token -/
def spellF (t : Tk) : ByteArray :=
  if t.k = 2 then ⟨(Lib.decDigits (numL t.d)).toArray⟩
  else if t.k = 3 then ⟨(34 :: (t.s.data.toList.flatMap escB ++ [34])).toArray⟩
  else if t.k = 6 then ⟨#[45, 45, 45, 45]⟩
  else if t.k = 7 then ⟨#[61, 61, 61, 61]⟩
  else t.s
theorem spellF_key {a b : Tk} (h : a.key = b.key) : spellF a = spellF b := by
  unfold Tk.key at h
  injection h with h1 h2
  injection h2 with h2 h3
  unfold spellF; rw [h1, h2, h3]

/-- digits -/
theorem valN_app (b : Int) : ∀ (l m : List UInt8) (n : Nat), valN b (l ++ m) n = (valN b l n).bind (valN b m)
  | [], m, n => rfl
  | c :: l, m, n => by
    simp only [List.cons_append, valN]
    split
    · rfl
    · exact valN_app b l m _
theorem dig_val (c : UInt8) (h : 48 ≤ c.toNat) (h2 : c.toNat ≤ 57) : wrth (c.toNat : Int) = (c.toNat : Int) - 48 := by
  unfold wrth dgt
  have h3 : (decide ((48 : Int) ≤ (c.toNat : Int)) && decide ((c.toNat : Int) ≤ 57)) = true := by simp; omega
  rw [if_pos h3]
theorem dig_byte (u : Nat) (h : u < 10) : (UInt8.ofNat (48 + u)).toNat = 48 + u := by simp; omega
theorem dec_digits (u : Nat) : ∀ c ∈ Lib.decDigits u, 48 ≤ c.toNat ∧ c.toNat ≤ 57 := by
  induction u using Nat.strongRecOn with
  | _ u ih =>
    intro c hc
    rw [Lib.decDigits] at hc
    split at hc
    · rename_i h
      simp only [List.mem_singleton] at hc
      subst hc
      rw [dig_byte u h]; omega
    · rename_i h
      rcases List.mem_append.1 hc with hc | hc
      · exact ih (u / 10) (by omega) c hc
      · simp only [List.mem_singleton] at hc
        subst hc
        rw [dig_byte _ (by omega)]; omega
theorem valN_dec (u : Nat) : valN 10 (Lib.decDigits u) 0 = some u := by
  induction u using Nat.strongRecOn with
  | _ u ih =>
    have step : ∀ (d n : Nat), d < 10 → valN 10 [UInt8.ofNat (48 + d)] n = some (n * 10 + d) := fun d n hd => by
      simp only [valN]
      rw [dig_val _ (by rw [dig_byte d hd]; omega) (by rw [dig_byte d hd]; omega), dig_byte d hd, if_neg (by omega)]
      congr 1
      show n * 10 + (((48 + d : Nat) : Int) - 48).toNat = _
      omega
    rw [Lib.decDigits]
    split
    · rename_i h; rw [step u 0 h]; congr 1; omega
    · rename_i h
      rw [valN_app, ih (u / 10) (by omega)]
      show valN 10 [UInt8.ofNat (48 + u % 10)] (u / 10) = _
      rw [step _ _ (by omega)]; congr 1; omega
theorem valN_lt : ∀ (l : List UInt8) (n v : Nat), valN 10 l n = some v → v < (n + 1) * 10 ^ l.length
  | [], n, v, h => by simp only [valN] at h; injection h with h; subst h; simp
  | c :: l, n, v, h => by
    simp only [valN] at h
    split at h
    · cases h
    · rename_i hc
      have ih := valN_lt l _ v h
      rw [List.length_cons, Nat.pow_succ]
      have : (wrth (c.toNat : Int)).toNat < 10 := by omega
      have e : (10 : Int).toNat = 10 := rfl
      rw [e] at ih
      refine Nat.lt_of_lt_of_le ih ?_
      rw [Nat.mul_comm (10 ^ l.length) 10, ← Nat.mul_assoc]
      exact Nat.mul_le_mul_right _ (by omega)
theorem nDig_le : ∀ (m v : Nat), 1 ≤ m → v < 10 ^ m → Lib.nDigits v ≤ m
  | 0, v, h, _ => by omega
  | m + 1, v, _, h => by
    by_cases hv : v < 10
    · rw [Lib.nDigits_small hv]; omega
    · rw [Lib.nDigits_big hv]
      rcases m with _ | m
      · simp at h; omega
      · have := nDig_le (m + 1) (v / 10) (by omega) (by rw [Nat.pow_succ] at h; omega)
        omega

/-- what the string of a quoted text is written with -/
theorem escF_len (b c : Int) (h : escF b = some c) : (escB c.toNat.toUInt8).length = 2 ∧ (c = 34 ∨ c = 92 ∨ c = 9 ∨ c = 10 ∨ c = 12 ∨ c = 13) := by
  unfold escF at h
  (repeat' split at h) <;> first | (cases h; done) | (injection h with h; subst h; decide)
theorem plain_len (s : ByteArray) (k : Nat) (h1 : bt s k ≠ 34) (h2 : bt s k ≠ 92) (h3 : 32 ≤ bt s k) : (escB (bt s k).toNat.toUInt8).length = 1 := by
  have h4 := bt_hi s k
  obtain ⟨n, hn⟩ : ∃ n : Nat, bt s k = (n : Int) := ⟨(bt s k).toNat, by omega⟩
  rw [hn] at h1 h2 h3 h4 ⊢
  have e : ((n : Int).toNat.toUInt8).toNat = n := by
    show (UInt8.ofNat n).toNat = n
    simp; omega
  generalize (n : Int).toNat.toUInt8 = c at e
  have hne : ∀ d : UInt8, d.toNat ≠ n → c ≠ d := fun d hd hc => hd (by rw [← hc, e])
  unfold escB
  rw [if_neg (by rintro (q | q); exact hne 34 (by show 34 ≠ n; omega) q; exact hne 92 (by show 92 ≠ n; omega) q), if_neg (hne 9 (by show 9 ≠ n; omega)), if_neg (hne 10 (by show 10 ≠ n; omega)), if_neg (hne 12 (by show 12 ≠ n; omega)), if_neg (hne 13 (by show 13 ≠ n; omega))]
  rfl
theorem quo_size (s : ByteArray) (i : Nat) (p : Tk) : ∀ (f k : Nat) (o : List UInt8), quo s i f k o = .ok p → p.k = 3 ∧ p.d = [] ∧ p.at_ = i ∧ ∃ r, p.s.data.toList = o ++ r ∧ p.en = i + k + 1 + (r.flatMap escB).length ∧ bt s (p.en - 1) = 34 ∧ (o ++ r).length ≤ 200
  | 0, _, _, h => by simp only [quo] at h; cases h
  | f + 1, k, o, h => by
    simp only [quo] at h
    split at h
    · cases h
    rename_i hsz
    split at h
    · rename_i h34
      split at h
      · cases h
      · rename_i hl
        injection h with h; subst h
        refine ⟨rfl, rfl, rfl, [], by simp, by simp; omega, ?_, by simpa using hl⟩
        show bt s (i + (k + 1) - 1) = 34
        rw [show i + (k + 1) - 1 = i + k by omega]; exact h34
    rename_i h34
    split at h
    · rename_i h92
      split at h
      · rename_i c hc
        split at h
        · cases h
        · obtain ⟨h1, h2, h3, r, h4, h5, h6, h7⟩ := quo_size s i p f _ _ h
          refine ⟨h1, h2, h3, c.toNat.toUInt8 :: r, by rw [h4]; simp, ?_, h6, by rw [List.append_assoc] at h7; exact h7⟩
          rw [h5, List.flatMap_cons, List.length_append, (escF_len _ c hc).1]; omega
      · cases h
    rename_i h92
    split at h
    · cases h
    · rename_i h3
      obtain ⟨h1, h2, h3', r, h4, h5, h6, h7⟩ := quo_size s i p f _ _ h
      refine ⟨h1, h2, h3', (bt s (i + k)).toNat.toUInt8 :: r, by rw [h4]; simp, ?_, h6, by rw [List.append_assoc] at h7; exact h7⟩
      rw [h5, List.flatMap_cons, List.length_append, plain_len s _ h34 h92 (by omega)]; omega
theorem four (b : Int) (s : ByteArray) (i : Nat) (P : ByteArray) (hP : P.size = 4) (hb : ∀ k, k < 4 → bt P k = b) (h : sees s i P = true) : 4 ≤ cnt (fun x => x == b) s i := by
  have hle := sees_le s i P h (by omega)
  rcases Nat.lt_or_ge (cnt (fun x => x == b) s i) 4 with q | q
  · have h1 := cnt_stop (fun x => x == b) s _ i rfl (by omega)
    have h2 := sees_byte s i P h (cnt (fun x => x == b) s i) (by omega)
    rw [hb _ q] at h2
    rw [h2] at h1
    simp at h1
  · exact q
theorem signs_min : signsL.all (fun p => decide (p.2.length ≤ p.1.length)) = true := by decide +kernel
theorem canon_min {w c : ByteArray} (h : canonOf w = some c) : c.size ≤ w.size := by
  unfold canonOf at h
  rcases hf : signsL.find? (fun p => p.1 == w.data.toList) with _ | q
  · rw [hf] at h; cases h
  · rw [hf] at h
    simp only [Option.map_some, Option.some.injEq] at h
    have h1 := List.all_eq_true.1 signs_min q (List.mem_of_find?_eq_some hf)
    have h2 : q.1 = w.data.toList := by simpa using List.find?_some hf
    rw [h2] at h1
    subst h
    have e1 : w.size = w.data.toList.length := by rw [Array.length_toList]; rfl
    have e2 : (⟨q.2.toArray⟩ : ByteArray).size = q.2.length := rfl
    rw [e1, e2]; simpa using h1
theorem spell_s {t : Tk} (h2 : t.k ≠ 2) (h3 : t.k ≠ 3) (h6 : t.k ≠ 6) (h7 : t.k ≠ 7) : spellF t = t.s := by
  unfold spellF; rw [if_neg h2, if_neg h3, if_neg h6, if_neg h7]
theorem base92 {s : ByteArray} {i : Nat} (h : baseF s i ≠ 0) : bt s i = 92 := by
  by_cases h9 : bt s i = 92
  · exact h9
  · exact absurd (by unfold baseF; rw [if_pos h9]) h
/-- A TOKEN IS WRITTEN BY NO FEWER BYTES than its spelling has (but for numbers to another base) -/
theorem tok_min {T : ByteArray} {i : Nat} {p : Tk} (hT : i < T.size) (h : tokF T i = .ok p) (h92 : p.k = 2 → bt T i ≠ 92) : (spellF p).size ≤ p.en - i := by
  have hbd := tokF_bd T i p hT h
  unfold tokF at h
  split at h
  · rename_i hr
    have hcy := cnt_yes rnb T i hT hr
    have hcl := cnt_le rnb T i
    have ez := ext_size T i (cnt rnb T i) (by omega)
    unfold runF at h
    split at h
    · split at h
      · cases h
      · rename_i d hd
        injection h with h; subst h
        unfold valF at hd
        rcases hv : valN 10 (T.extract i (i + cnt rnb T i)).data.toList 0 with _ | v
        · rw [hv] at hd; cases hd
        · rw [hv] at hd
          simp only [Option.bind] at hd
          split at hd
          · rename_i hvb
            injection hd with hd
            have h1 := valN_lt _ _ _ hv
            rw [Array.length_toList] at h1
            change v < (0 + 1) * 10 ^ (T.extract i (i + cnt rnb T i)).size at h1
            rw [ez, Nat.zero_add, Nat.one_mul] at h1
            have h2 := nDig_le _ v (by omega) h1
            show (spellF ⟨2, _, d, _, _, _, _⟩).size ≤ i + cnt rnb T i - i
            unfold spellF
            rw [if_pos rfl]
            show (Lib.decDigits (numL d)).length ≤ _
            rw [Lib.decDigits_length, ← hd, limbs_num v (Nat.lt_trans hvb big_lt)]
            omega
          · cases hd
    split at h
    · rename_i hp
      have h3 : 3 ≤ cnt rnb T i := by
        rw [Bool.or_eq_true] at hp
        rcases hp with hp | hp
        · exact pre3 T i (by omega) _ rfl hp
        · exact pre3 T i (by omega) _ rfl hp
      injection h with h; subst h
      rw [spell_s (by simp) (by simp) (by simp) (by simp)]
      simp only [ByteArray.size_extract]; omega
    split at h
    · injection h with h; subst h
      rw [spell_s (by simp) (by simp) (by simp) (by simp)]
      simp only [ez]; omega
    split at h
    · injection h with h; subst h
      rw [spell_s (by simp) (by simp) (by simp) (by simp)]
      simp only [ez]; omega
    split at h
    · cases h
    split at h
    · cases h
    · injection h with h; subst h
      rw [spell_s (by simp) (by simp) (by simp) (by simp)]
      simp only [ez]; omega
  split at h
  · rename_i hb
    have h9 := base92 hb
    unfold basedF at h
    split at h
    · cases h
    · injection h with h; subst h
      exact absurd h9 (h92 rfl)
  split at h
  · obtain ⟨h1, h2, h3, r, h4, h5, h6, _⟩ := quo_size T i p _ _ _ h
    unfold spellF
    rw [if_neg (by omega), if_pos h1, h4]
    show (34 :: (([] ++ r).flatMap escB ++ [34])).length ≤ _
    rw [List.nil_append, List.length_cons, List.length_append, h5]
    simp only [List.length_singleton]; omega
  split at h
  · rename_i h1
    have := four 45 T i _ rfl (by decide) h1
    injection h with h; subst h
    show (4 : Nat) ≤ i + cnt (fun b => b == 45) T i - i
    omega
  split at h
  · rename_i h1
    have := four 61 T i _ rfl (by decide) h1
    injection h with h; subst h
    show (4 : Nat) ≤ i + cnt (fun b => b == 61) T i - i
    omega
  · unfold signF at h
    split at h
    · rename_i hc
      obtain ⟨_, _, hc⟩ := hc
      injection h with h; subst h
      rcases hk : canonOf (T.extract i (i + (1 + cnt ltr T (i + 1)))) with _ | c
      · rw [hk] at hc; cases hc
      · have := canon_min hk
        have hl := cnt_le ltr T (i + 1)
        rw [ext_size T i _ (by omega)] at this
        rw [spell_s (by simp) (by simp) (by simp) (by simp)]
        show c.size ≤ _
        simp only []; omega
    · obtain ⟨L, c, h1, h2, rfl, h4, _⟩ := sgn_ok T i p _ h
      have := canon_min h4
      rw [ext_size T i _ (by omega)] at this
      rw [spell_s (by simp) (by simp) (by simp) (by simp)]
      show c.size ≤ i + L - i
      omega
theorem rnb_noblk {b : Int} (h : rnb b = true) : blk b = false := by
  rcases hb : blk b with _ | _
  · rfl
  · have : bar b = true := by simp [bar, hb]
    rw [(bar_no this).1] at h; cases h
/-- NO TOKEN ENDS IN A BLANK -/
theorem tok_noblk {T : ByteArray} {i : Nat} {p : Tk} (hT : i < T.size) (hb : blk (bt T i) = false) (h : tokF T i = .ok p) : blk (bt T (p.en - 1)) = false := by
  have hbd := tokF_bd T i p hT h
  have hrun : ∀ n, 0 < n → n ≤ cnt rnb T i → p.en = i + n → blk (bt T (p.en - 1)) = false := fun n h0 hn he => by
    have := (cnt_lt rnb T _ i rfl (n - 1) (by omega)).2
    rw [he, show i + n - 1 = i + (n - 1) by omega]
    exact rnb_noblk this
  unfold tokF at h
  split at h
  · rename_i hr
    have hcy := cnt_yes rnb T i hT hr
    have hcl := cnt_le rnb T i
    unfold runF at h
    split at h
    · split at h
      · cases h
      · injection h with h; exact hrun _ (by omega) (Nat.le_refl _) (by subst h; rfl)
    split at h
    · rename_i hp
      have h3 : 3 ≤ cnt rnb T i := by
        rw [Bool.or_eq_true] at hp
        rcases hp with hp | hp
        · exact pre3 T i (by omega) _ rfl hp
        · exact pre3 T i (by omega) _ rfl hp
      injection h with h; exact hrun 3 (by omega) h3 (by subst h; rfl)
    split at h
    · injection h with h; exact hrun _ (by omega) (Nat.le_refl _) (by subst h; rfl)
    split at h
    · injection h with h; exact hrun _ (by omega) (Nat.le_refl _) (by subst h; rfl)
    split at h
    · cases h
    split at h
    · cases h
    · injection h with h; exact hrun _ (by omega) (Nat.le_refl _) (by subst h; rfl)
  split at h
  · rename_i hbs
    have h9 := base92 hbs
    unfold basedF at h
    split at h
    · cases h
    · injection h with h; subst h
      show blk (bt T (i + (cnt rnb T (i + 2) + 2) - 1)) = false
      rcases Nat.eq_zero_or_pos (cnt rnb T (i + 2)) with q | q
      · rw [q, show i + (0 + 2) - 1 = i + 1 by omega]
        rw [swF_base T i h9] at hbs
        have hsw : swF (bt T (i + 1)) ≠ 0 := by
          intro e; rw [if_pos e] at hbs; exact hbs rfl
        unfold swF at hsw
        generalize bt T (i + 1) = b at hsw
        rcases hq : blk b with _ | _
        · rfl
        · exfalso; apply hsw
          unfold blk at hq
          simp only [Bool.or_eq_true, decide_eq_true_eq] at hq
          rw [if_neg (by omega), if_neg (by omega), if_neg (by omega)]
      · have := (cnt_lt rnb T _ (i + 2) rfl (cnt rnb T (i + 2) - 1) (by omega)).2
        rw [show i + (cnt rnb T (i + 2) + 2) - 1 = i + 2 + (cnt rnb T (i + 2) - 1) by omega]
        exact rnb_noblk this
  split at h
  · obtain ⟨_, _, _, r, _, _, h6, _⟩ := quo_size T i p _ _ _ h
    rw [h6]; decide
  split at h
  · rename_i h1
    have := four 45 T i _ rfl (by decide) h1
    injection h with h; subst h
    have h2 := (cnt_lt (fun b => b == 45) T _ i rfl (cnt (fun b => b == 45) T i - 1) (by omega)).2
    show blk (bt T (i + cnt (fun b => b == 45) T i - 1)) = false
    rw [show i + cnt (fun b => b == 45) T i - 1 = i + (cnt (fun b => b == 45) T i - 1) by omega]
    have : bt T (i + (cnt (fun b => b == 45) T i - 1)) = 45 := by simpa using h2
    rw [this]; decide
  split at h
  · rename_i h1
    have := four 61 T i _ rfl (by decide) h1
    injection h with h; subst h
    have h2 := (cnt_lt (fun b => b == 61) T _ i rfl (cnt (fun b => b == 61) T i - 1) (by omega)).2
    show blk (bt T (i + cnt (fun b => b == 61) T i - 1)) = false
    rw [show i + cnt (fun b => b == 61) T i - 1 = i + (cnt (fun b => b == 61) T i - 1) by omega]
    have : bt T (i + (cnt (fun b => b == 61) T i - 1)) = 61 := by simpa using h2
    rw [this]; decide
  · have key : ∀ (L : Nat) (c : ByteArray), 0 < L → i + L ≤ T.size → canonOf (T.extract i (i + L)) = some c → blk (bt T (i + L - 1)) = false := fun L c h0 hL hc => by
      rcases Nat.lt_or_ge 1 L with q | q
      · have := sign_nobar T i L c hc hL (L - 1) (by omega) (by omega)
        rw [show i + L - 1 = i + (L - 1) by omega]
        rcases hq : blk (bt T (i + (L - 1))) with _ | _
        · rfl
        · simp [bar, hq] at this
      · rw [show i + L - 1 = i by omega]; exact hb
    unfold signF at h
    split at h
    · rename_i hc
      obtain ⟨_, _, hc⟩ := hc
      injection h with h; subst h
      have hl := cnt_le ltr T (i + 1)
      rcases hk : canonOf (T.extract i (i + (1 + cnt ltr T (i + 1)))) with _ | c
      · rw [hk] at hc; cases hc
      · exact key _ c (by omega) (by omega) hk
    · obtain ⟨L, c, h1, h2, rfl, h4, _⟩ := sgn_ok T i p _ h
      exact key L c h1 (by omega) h4
end Go.Proofs.YtagcfgoofiibfaaGreatDoor
namespace Go.Proofs.YtagcfgoofiibfaaGreatDoor
open Go Go.RowKit

/-- tokens' spellings in a text, one behind the other, at most one blank between two -/
inductive Lay (T : ByteArray) : Nat → List Tk → Prop
  | nil : Lay T T.size []
  | tok (p : Tk) (ns : List Tk) : Agr (spellF p) T 0 p.at_ (spellF p).size → p.en = p.at_ + (spellF p).size → 0 < (spellF p).size → blk (bt (spellF p) 0) = false → (p.k = 2 → ∀ k, k < (spellF p).size → bt (spellF p) k ≠ 92) → Lay T p.en ns → Lay T p.at_ (p :: ns)
  | gap (x : Nat) (p : Tk) (ns : List Tk) : x + 1 = p.at_ → x < T.size → bt T x = 32 → Lay T p.at_ (p :: ns) → Lay T x (p :: ns)
theorem Lay.le {T : ByteArray} {x : Nat} {ns : List Tk} (h : Lay T x ns) : x ≤ T.size := by
  induction h with
  | nil => exact Nat.le_refl _
  | tok p ns h1 h2 h3 h4 h5 _ ih => omega
  | gap x p ns h1 h2 h3 _ ih => omega
theorem Sc.blank_inv {T : ByteArray} {x : Nat} {qs : List Tk} {ys : List (Nat × Nat)} (h : Sc T x qs ys) (hx : x < T.size) (hb : blk (bt T x) = true) : Sc T (x + 1) qs ys := by
  cases h with
  | fin _ hi => omega
  | blank _ _ _ _ _ h => exact h
  | com _ _ _ _ _ hb' _ _ => rw [hb] at hb'; cases hb'
  | tok _ _ _ _ _ hb' _ _ => rw [hb] at hb'; cases hb'
theorem key_k {a b : Tk} (h : a.key = b.key) : a.k = b.k := by
  unfold Tk.key at h; injection h
/-- the reading that runs ahead does not come to the end -/
theorem Lay.ahead {T : ByteArray} {x : Nat} {ns : List Tk} (h : Lay T x ns) : ∀ (z : Nat) (qs : List Tk) (ys : List (Nat × Nat)), Sc T z qs ys → qs.map Tk.key = ns.map Tk.key → x < z → z ≤ T.size → ¬ (z = x + 1 ∧ bt T x = 32) → False := by
  induction h with
  | nil => intro z qs ys _ _ h1 h2 _; omega
  | gap x p ns h1 h2 h3 h4 ih =>
    intro z qs ys hs hk hz hzT hnb
    have hb : bt T p.at_ ≠ 32 := by
      have key : ∀ (y : Nat) (ns' : List Tk), Lay T y ns' → ns' = p :: ns → y = p.at_ → bt T y ≠ 32 := by
        intro y ns' h hn hy e
        cases h with
        | nil => cases hn
        | tok q _ g1 g2 g3 g4 g5 _ =>
          have := g1.b 0 g3
          rw [Nat.add_zero, Nat.add_zero, e] at this
          rw [← this] at g4
          revert g4; decide
        | gap _ q _ g1 _ _ _ =>
          injection hn with hn
          subst hn
          omega
      exact key _ _ h4 rfl rfl
    have : z ≠ x + 1 := fun e => hnb ⟨e, h3⟩
    exact ih z qs ys hs hk (by omega) hzT (fun e => hb e.2)
  | tok p ns h1 h2 h3 h4 h5 h6 ih =>
    intro z qs ys hs hk hz hzT _
    rcases qs with _ | ⟨q, qs⟩
    · simp at hk
    simp only [List.map_cons, List.cons.injEq] at hk
    obtain ⟨hk1, hk2⟩ := hk
    obtain ⟨m1, m2, m3⟩ := hs.mem q (by simp)
    obtain ⟨g1, g2, g3, g4, g5, g6⟩ := item_tok T _ q m1 m3
    obtain ⟨s1, _, ws, s2⟩ := hs.split
    have hlt := h1.lt
    have hsz : (spellF q).size = (spellF p).size := by rw [spellF_key hk1]
    have hen : p.en < q.en := by
      rcases Nat.lt_or_ge p.en q.en with c | c
      · exact c
      · exfalso
        have hm := tok_min m1 g1 (fun hq2 => by
          have := h1.b (q.at_ - p.at_) (by omega)
          rw [show p.at_ + (q.at_ - p.at_) = q.at_ by omega, Nat.zero_add] at this
          rw [this]
          exact h5 (by rw [← key_k hk1]; exact hq2) _ (by omega))
        omega
    refine ih q.en qs ws s2 hk2 hen g3 ?_
    rintro ⟨e1, e2⟩
    have hnb := tok_noblk m1 m2 g1
    rw [show q.en - 1 = p.en by omega, e2] at hnb
    revert hnb; decide
theorem tokF_lc (s : ByteArray) (i : Nat) (p : Tk) (h : tokF s i = .ok p) : p.line = 0 ∧ p.col = 0 := by
  have hq : ∀ (f k : Nat) (o : List UInt8), quo s i f k o = .ok p → p.line = 0 ∧ p.col = 0 := by
    intro f
    induction f with
    | zero => intro k o h; simp only [quo] at h; cases h
    | succ f ih =>
      intro k o h
      simp only [quo] at h
      (repeat' split at h) <;> first | (cases h; done) | exact ih _ _ h | (injection h with h; subst h; exact ⟨rfl, rfl⟩)
  unfold tokF runF basedF signF at h
  (repeat' split at h) <;> first | (cases h; done) | (injection h with h; subst h; exact ⟨rfl, rfl⟩) | exact hq _ _ _ h | skip
  obtain ⟨L, c, _, _, rfl, _⟩ := sgn_ok s i p _ h
  exact ⟨rfl, rfl⟩
/-- A READING THAT IS LIKE THE SPELLINGS is the one that they were laid for. -/
theorem Lay.only {T : ByteArray} {x : Nat} {ns : List Tk} (h : Lay T x ns) : ∀ (qs : List Tk) (ys : List (Nat × Nat)), Sc T x qs ys → qs.map Tk.key = ns.map Tk.key → (∀ p ∈ ns, p.line = 0 ∧ p.col = 0) → qs = ns ∧ ys = [] := by
  induction h with
  | nil =>
    intro qs ys hs hk _
    rcases qs with _ | ⟨q, qs⟩
    · cases hs with
      | fin => exact ⟨rfl, rfl⟩
      | blank _ _ _ hi => omega
      | com _ _ _ _ hi => omega
    · simp at hk
  | gap x p ns h1 h2 h3 h4 ih =>
    intro qs ys hs hk hl
    have := hs.blank_inv h2 (by rw [h3]; decide)
    rw [h1] at this
    exact ih qs ys this hk hl
  | tok p ns h1 h2 h3 h4 h5 h6 ih =>
    intro qs ys hs hk hl
    rcases qs with _ | ⟨q, qs⟩
    · simp at hk
    simp only [List.map_cons, List.cons.injEq] at hk
    obtain ⟨hk1, hk2⟩ := hk
    obtain ⟨m1, m2, m3⟩ := hs.mem q (by simp)
    obtain ⟨g1, g2, g3, g4, g5, g6⟩ := item_tok T _ q m1 m3
    obtain ⟨s1, _, ws, s2⟩ := hs.split
    have hlt := h1.lt
    have hsz : (spellF q).size = (spellF p).size := by rw [spellF_key hk1]
    have hen : q.en ≤ p.en := by
      rcases Nat.lt_or_ge p.en q.en with c | c
      · exfalso
        refine h6.ahead q.en qs ws s2 hk2 c g3 ?_
        rintro ⟨e1, e2⟩
        have hnb := tok_noblk m1 m2 g1
        rw [show q.en - 1 = p.en by omega, e2] at hnb
        revert hnb; decide
      · exact c
    have hm := tok_min m1 g1 (fun hq2 => by
      have := h1.b (q.at_ - p.at_) (by omega)
      rw [show p.at_ + (q.at_ - p.at_) = q.at_ by omega, Nat.zero_add] at this
      rw [this]
      exact h5 (by rw [← key_k hk1]; exact hq2) _ (by omega))
    have ea : q.at_ = p.at_ := by omega
    have ee : q.en = p.en := by omega
    have hqp : q = p := by
      have l1 := tokF_lc T _ q g1
      have l2 := hl p (by simp)
      unfold Tk.key at hk1
      injection hk1 with k1 hk1
      injection hk1 with k2 k3
      rcases q with ⟨a1, a2, a3, a4, a5, a6, a7⟩
      rcases p with ⟨b1, b2, b3, b4, b5, b6, b7⟩
      simp only at *
      obtain ⟨l3, l4⟩ := l1
      obtain ⟨l5, l6⟩ := l2
      subst k1 k2 k3 ea ee l3 l4 l5 l6
      rfl
    subst hqp
    have hs2 : Sc T q.en qs ys := by
      cases hs with
      | blank _ _ _ hi hb h' =>
        have := h'.split.1; omega
      | com _ j _ _ hi hb hc h' =>
        have := h'.split.1
        have := item_com T _ j hi hc; omega
      | tok _ _ _ _ hi hb hc h' => exact h'
    obtain ⟨e1, e2⟩ := ih qs ys hs2 hk2 (fun p hp => hl p (by simp [hp]))
    exact ⟨by rw [e1], e2⟩

def lastEn : List Tk → Nat → Nat
  | [], i => i
  | p :: ps, _ => lastEn ps p.en
theorem Sc.cut {T : ByteArray} : ∀ (ps qs : List Tk) (i : Nat) (ys : List (Nat × Nat)), Sc T i (ps ++ qs) ys → ∃ zs ws, Pt T (lastEn ps i) i ps zs ∧ Sc T (lastEn ps i) qs ws
  | [], qs, i, ys, h => ⟨[], ys, .nil, h⟩
  | p :: ps, qs, i, ys, h => by
    obtain ⟨_, ⟨zs, h1⟩, ws, h2⟩ := Sc.split h
    obtain ⟨m1, m2, m3⟩ := h.mem p (by simp)
    obtain ⟨zs', ws', h3, h4⟩ := Sc.cut ps qs p.en ws h2
    exact ⟨_, _, h1.app (.tok _ _ _ _ m1 m2 m3 h3), h4⟩
theorem lastEn_le {T : ByteArray} : ∀ (ps : List Tk) (i : Nat) (ys : List (Nat × Nat)), Sc T i ps ys → i ≤ T.size → lastEn ps i ≤ T.size
  | [], i, ys, _, hi => hi
  | p :: ps, i, ys, h, hi => by
    obtain ⟨m1, m2, m3⟩ := h.mem p (by simp)
    obtain ⟨_, _, ws, h2⟩ := h.split
    exact lastEn_le ps p.en ws h2 (item_tok T _ p m1 m3).2.2.1
/-- a part of a text is read as it was -/
theorem sub_sc {T : ByteArray} {a : Nat} {qs rs : List Tk} {ys : List (Nat × Nat)} (h : Sc T a (qs ++ rs) ys) (ha : a ≤ T.size) : ∃ zs, Sc (T.extract a (lastEn qs a)) 0 (qs.map fun p => p.mv (p.at_ - a)) zs := by
  obtain ⟨zs, ws, h1, h2⟩ := Sc.cut qs rs a ys h
  have hle := h1.le
  have hz : lastEn qs a ≤ T.size := by
    rcases Nat.lt_or_ge T.size (lastEn qs a) with c | c
    · exfalso
      have : ∀ (ps : List Tk) (i : Nat) (ys : List (Nat × Nat)), Sc T i (ps ++ rs) ys → i ≤ T.size → lastEn ps i ≤ T.size := by
        intro ps
        induction ps with
        | nil => intro i ys _ hi; exact hi
        | cons p ps ih =>
          intro i ys h hi
          obtain ⟨m1, m2, m3⟩ := h.mem p (by simp)
          obtain ⟨_, _, ws, h2⟩ := Sc.split h
          exact ih p.en ws h2 (item_tok T _ p m1 m3).2.2.1
      have := this qs a ys h ha
      omega
    · exact c
  have hx := size_ext T a (lastEn qs a) hz
  have H := Agr.extract T a (lastEn qs a) hle hz
  have := h1.move H (Nat.le_refl _) (.inr (bar_end _ _ (by omega))) (fun _ _ _ _ => .inl (by omega))
  simp only [Nat.zero_add, Nat.sub_self] at this
  exact ⟨_, this.sc (by omega)⟩
end Go.Proofs.YtagcfgoofiibfaaGreatDoor
namespace Go.Proofs.YtagcfgoofiibfaaGreatDoor
open Go Go.RowKit
set_option exponentiation.threshold 400

def okB (b : UInt8) : Bool := (decide (32 ≤ b.toNat) && decide (b.toNat ≤ 126)) || decide (b.toNat = 9) || decide (b.toNat = 10) || decide (b.toNat = 12) || decide (b.toNat = 13)
/-- a valid token -/
inductive ValidT (t : Tk) : Prop
  | num : t.k = 2 → t.s = ByteArray.empty → InB t.d → NoZ t.d → t.d.length ≤ 40 → ValidT t
  | name : t.k = 1 → t.d = [] → t.s.size ≤ 40 → kindF t.s = 1 → ValidT t
  | str : t.k = 3 → t.d = [] → t.s.size ≤ 200 → (∀ b ∈ t.s.data.toList, okB b = true) → ValidT t
  | key : t.k = 4 → t.d = [] → isWord t.s = true → ValidT t
  | sign : t.k = 5 → t.d = [] → t.s ≠ ByteArray.empty → canonOf t.s = some t.s → ValidT t
  | line : t.k = 6 ∨ t.k = 7 → t.d = [] → t.s = ByteArray.empty → ValidT t

theorem bt_mk (l : List UInt8) (k : Nat) (h : k < l.length) : bt ⟨l.toArray⟩ k = ((l[k]).toNat : Int) := by
  unfold bt; rw [List.getD_eq_getElem?_getD]
  show ((((l)[k]?).getD 0).toNat : Int) = _
  rw [List.getElem?_eq_getElem h]; rfl
theorem size_mk (l : List UInt8) : (⟨l.toArray⟩ : ByteArray).size = l.length := rfl
theorem cnt_all (p : Int → Bool) (s : ByteArray) (h : ∀ k, k < s.size → p (bt s k) = true) : cnt p s 0 = s.size :=
  cnt_is p s s.size 0 (fun k hk => by rw [Nat.zero_add]; exact ⟨hk, h k hk⟩) (.inl (by omega))
theorem ext_all (s : ByteArray) : s.extract 0 s.size = s := by
  apply ba_eq
  have := extLst s 0 s.size
  rw [Nat.zero_add] at this
  rw [this, List.drop_zero, List.take_of_length_le (by rw [Array.length_toList]; exact Nat.le_refl _)]
theorem sees_first (s : ByteArray) (i : Nat) (p : ByteArray) (h0 : 0 < p.size) (h : bt s i ≠ bt p 0) : sees s i p = false := by
  rcases hs : sees s i p with _ | _
  · rfl
  · have := sees_byte s i p hs 0 h0
    rw [Nat.add_zero] at this
    exact absurd this h
/-- what reads as a token reads as an item -/
theorem item_of {s : ByteArray} {i : Nat} {p : Tk} (h : tokF s i = .ok p) (h1 : sees s i ⟨#[92, 42]⟩ = false) (h2 : sees s i ⟨#[40, 42]⟩ = false) : item s i = .tok p := by
  unfold item; rw [h1, h2, h]; rfl
theorem dgt_facts {b : Int} (h : dgt b = true) : b ≠ 92 ∧ b ≠ 40 ∧ blk b = false ∧ rnb b = true := by
  refine ⟨?_, ?_, rnb_noblk (dgt_rnb h), dgt_rnb h⟩ <;> (intro e; subst e; revert h; decide)
theorem numL_big {d : List Int} (hb : InB d) (hl : d.length ≤ 40) : numL d < big := by
  have h1 := numL_lt d hb
  refine Nat.lt_of_lt_of_le h1 ?_
  have e : big = 1000000000 ^ 40 := by decide
  rw [e]
  exact Nat.pow_le_pow_right (by decide) hl
theorem num_item {d : List Int} (hb : InB d) (hz : NoZ d) (hl : d.length ≤ 40) (S : ByteArray) (hS : S = ⟨(Lib.decDigits (numL d)).toArray⟩) :
    item S 0 = .tok ⟨2, ByteArray.empty, d, 0, S.size, 0, 0⟩ ∧ blk (bt S 0) = false ∧ 0 < S.size := by
  have hbt : ∀ k, k < S.size → dgt (bt S k) = true := fun k hk => by
    subst hS
    have hk' : k < (Lib.decDigits (numL d)).length := hk
    rw [bt_mk _ k hk']
    have := dec_digits (numL d) _ (List.getElem_mem hk')
    unfold dgt; simp; omega
  have hpos : 0 < S.size := by
    subst hS
    rw [size_mk, Lib.decDigits_length]
    exact Lib.nDigits_pos _
  obtain ⟨f1, f2, f3, f4⟩ := dgt_facts (hbt 0 hpos)
  have c1 := cnt_all dgt S hbt
  have c2 := cnt_all rnb S (fun k hk => dgt_rnb (hbt k hk))
  have hv : valF (S.extract 0 (0 + S.size)) 10 = some d := by
    rw [Nat.zero_add, ext_all]
    unfold valF
    have : S.data.toList = Lib.decDigits (numL d) := by subst hS; simp
    rw [this, valN_dec]
    show (if numL d < big then some (limbs (numL d)) else none) = _
    rw [if_pos (numL_big hb hl), limbs_of d hb hz (by omega)]
  refine ⟨item_of ?_ (sees_first _ _ _ (by decide) (by rw [show bt (⟨#[92, 42]⟩ : ByteArray) 0 = 92 by rfl]; exact f1)) (sees_first _ _ _ (by decide) (by rw [show bt (⟨#[40, 42]⟩ : ByteArray) 0 = 40 by rfl]; exact f2)), f3, hpos⟩
  unfold tokF
  rw [if_pos f4]
  unfold runF
  rw [c1, c2, if_pos rfl, hv]
  simp
theorem tokF_name (s : ByteArray) (i : Nat) (p : Tk) (h : tokF s i = .ok p) (hk : p.k = 1) : p.s = s.extract i p.en ∧ p.d = [] := by
  unfold tokF at h
  split at h
  · unfold runF at h
    (repeat' split at h) <;> first | (cases h; done) | (injection h with h; subst h; first | (exfalso; revert hk; simp; done) | exact ⟨rfl, rfl⟩)
  · split at h
    · unfold basedF at h
      split at h
      · cases h
      · injection h with h; subst h; exfalso; revert hk; simp
    · split at h
      · have := (quo_k s i p _ _ _ h).1; omega
      · split at h
        · injection h with h; subst h; exfalso; revert hk; simp
        · split at h
          · injection h with h; subst h; exfalso; revert hk; simp
          · unfold signF at h
            split at h
            · injection h with h; subst h; exfalso; revert hk; simp
            · have := (sgn_k s i p _ h).1; omega
theorem name_item {s : ByteArray} (hs : s.size ≤ 40) (h : kindF s = 1) : item s 0 = .tok ⟨1, s, [], 0, s.size, 0, 0⟩ ∧ blk (bt s 0) = false ∧ 0 < s.size := by
  unfold kindF at h
  rcases ht : tokens s with e | l
  · rw [ht] at h; simp [kindR] at h
  rw [ht] at h
  rcases l with _ | ⟨x, _ | ⟨y, l⟩⟩
  · simp [kindR] at h
  · simp only [kindR] at h
    split at h
    · rename_i hx
      obtain ⟨ps, ys, h1, h2⟩ := (tokens_ok_iff s (by omega) _).1 ht
      rcases ps with _ | ⟨p, _ | ⟨q, ps⟩⟩
      · cases h2
      · simp only [List.map_cons, List.map_nil, List.cons.injEq, and_true] at h2
        subst h2
        obtain ⟨m1, m2, m3⟩ := h1.mem p (by simp)
        obtain ⟨g1, g2, g3, g4, g5, g6⟩ := item_tok s _ p m1 m3
        have k1 : p.at_ = 0 := hx.1
        have k2 : p.en = s.size := hx.2
        have k3 : p.k = 1 := h
        obtain ⟨n1, n2⟩ := tokF_name s _ p g1 k3
        obtain ⟨l1, l2⟩ := tokF_lc s _ p g1
        rw [k1] at m1 m2 m3 n1
        rw [k2, ext_all] at n1
        refine ⟨?_, m2, m1⟩
        rw [m3]
        rcases p with ⟨a1, a2, a3, a4, a5, a6, a7⟩
        simp only at *
        subst k1 k2 k3 n1 n2 l1 l2
        rfl
      · simp at h2
    · cases h
  · simp [kindR] at h

def wordItem (w : List UInt8) : Bool := match item ⟨w.toArray⟩ 0 with
  | .tok q => q.k == 4 && q.s.data.toList == w && q.d == [] && q.at_ == 0 && q.en == w.length && q.line == 0 && q.col == 0
  | _ => false
theorem word_items : wordsL.all (fun w => wordItem w && !blk (bt ⟨w.toArray⟩ 0) && decide (0 < w.length)) = true := by decide +kernel
theorem word_item {s : ByteArray} (h : isWord s = true) : item s 0 = .tok ⟨4, s, [], 0, s.size, 0, 0⟩ ∧ blk (bt s 0) = false ∧ 0 < s.size := by
  unfold isWord at h
  have hm : s.data.toList ∈ wordsL := by simpa using h
  have h1 := List.all_eq_true.1 word_items _ hm
  rw [Bool.and_eq_true, Bool.and_eq_true] at h1
  have e : (⟨s.data.toList.toArray⟩ : ByteArray) = s := by apply ba_eq; simp
  unfold wordItem at h1
  rw [e] at h1
  obtain ⟨⟨h1, h2⟩, h3⟩ := h1
  have ez : s.data.toList.length = s.size := by rw [Array.length_toList]; rfl
  rw [ez] at h3
  refine ⟨?_, by simpa using h2, by simpa using h3⟩
  split at h1
  · rename_i p hp
    rw [hp]
    rcases p with ⟨k, q, d, a, en, l, cl⟩
    simp only [Bool.and_eq_true, beq_iff_eq] at h1
    obtain ⟨⟨⟨⟨⟨⟨a1, a2⟩, a3⟩, a4⟩, a5⟩, a6⟩, a7⟩ := h1
    have : q = s := ba_eq a2
    rw [ez] at a5
    subst a1 a3 a4 a5 a6 a7 this
    rfl
  · cases h1

theorem bt_at {S : ByteArray} {k : Nat} {l : List UInt8} {b : UInt8} (h : S.data.toList.drop k = b :: l) : bt S k = (b.toNat : Int) ∧ k < S.size ∧ S.data.toList.drop (k + 1) = l := by
  have hk : k < S.data.toList.length := by
    rcases Nat.lt_or_ge k S.data.toList.length with q | q
    · exact q
    · rw [List.drop_eq_nil_of_le q] at h; cases h
  rw [List.drop_eq_getElem_cons hk] at h
  injection h with h1 h2
  refine ⟨?_, by rw [Array.length_toList] at hk; exact hk, h2⟩
  unfold bt
  rw [List.getD_eq_getElem?_getD, List.getElem?_eq_getElem hk, h1]; rfl
theorem u8_back (b : UInt8) : ((b.toNat : Int)).toNat.toUInt8 = b := by
  show UInt8.ofNat b.toNat = b
  simp
/-- a string that was written is read -/
theorem quo_run (S : ByteArray) : ∀ (r : List UInt8) (f k : Nat) (o : List UInt8), S.data.toList.drop k = r.flatMap escB ++ [34] → (∀ b ∈ r, okB b = true) → (r.flatMap escB).length + 1 ≤ f → (o ++ r).length ≤ 200 →
    quo S 0 f k o = .ok ⟨3, ⟨(o ++ r).toArray⟩, [], 0, k + (r.flatMap escB).length + 1, 0, 0⟩
  | [], 0, k, o, _, _, hf, _ => by simp at hf
  | [], f + 1, k, o, h, _, _, hl => by
    obtain ⟨h1, h2, _⟩ := bt_at (b := 34) (l := []) h
    simp only [quo, Nat.zero_add]
    rw [if_neg (by omega), h1, if_pos (by decide), if_neg (by simp at hl; omega)]
    simp
  | b :: r, 0, k, o, _, _, hf, _ => by omega
  | b :: r, f + 1, k, o, h, hb, hf, hl => by
    have hok := hb b (by simp)
    have hb' := fun c hc => hb c (List.mem_cons_of_mem _ hc)
    rw [List.flatMap_cons, List.length_append] at hf
    have hfin : (o ++ [b]) ++ r = o ++ b :: r := by simp
    have two : ∀ (x : UInt8) (e : Int), escB b = [92, x] → escF (x.toNat : Int) = some e → e.toNat.toUInt8 = b → quo S 0 (f + 1) k o = .ok ⟨3, ⟨(o ++ b :: r).toArray⟩, [], 0, k + ((b :: r).flatMap escB).length + 1, 0, 0⟩ := by
      intro x e he hx hxb
      rw [List.flatMap_cons, he] at h
      obtain ⟨h1, h2, h3⟩ := bt_at (b := 92) h
      obtain ⟨h4, h5, h6⟩ := bt_at (b := x) h3
      rw [he] at hf
      simp only [List.length_cons, List.length_nil] at hf
      simp only [quo, Nat.zero_add]
      rw [if_neg (by omega), h1, if_neg (by decide), if_pos (by decide), h4, hx]
      simp only
      rw [if_neg (by omega), hxb, quo_run S r f (k + 2) (o ++ [b]) h6 hb' (by omega) (by rw [hfin]; exact hl), hfin, List.flatMap_cons, List.length_append, he]
      congr 2
      simp only [List.length_cons, List.length_nil]
      omega
    by_cases c1 : b = 34 ∨ b = 92
    · refine two b (b.toNat : Int) (by unfold escB; rw [if_pos c1]) (by rcases c1 with rfl | rfl <;> decide) (u8_back b)
    by_cases c2 : b = 9
    · subst c2; exact two 116 9 rfl (by decide) (by decide)
    by_cases c3 : b = 10
    · subst c3; exact two 110 10 rfl (by decide) (by decide)
    by_cases c4 : b = 12
    · subst c4; exact two 102 12 rfl (by decide) (by decide)
    by_cases c5 : b = 13
    · subst c5; exact two 114 13 rfl (by decide) (by decide)
    have he : escB b = [b] := by unfold escB; rw [if_neg c1, if_neg c2, if_neg c3, if_neg c4, if_neg c5]
    rw [List.flatMap_cons, he] at h
    obtain ⟨h1, h2, h3⟩ := bt_at (b := b) h
    rw [he] at hf
    simp only [List.length_cons, List.length_nil] at hf
    have hn : ∀ d : UInt8, b ≠ d → b.toNat ≠ d.toNat := fun d hd e => hd (UInt8.toNat.inj e)
    have hr : 32 ≤ b.toNat ∧ b.toNat ≤ 126 := by
      have e1 := hn 9 c2
      have e2 := hn 10 c3
      have e3 := hn 12 c4
      have e4 := hn 13 c5
      change b.toNat ≠ 9 at e1
      change b.toNat ≠ 10 at e2
      change b.toNat ≠ 12 at e3
      change b.toNat ≠ 13 at e4
      unfold okB at hok
      simp only [Bool.or_eq_true, Bool.and_eq_true, decide_eq_true_eq] at hok
      omega
    have n34 : b.toNat ≠ 34 := hn 34 fun e => c1 (.inl e)
    have n92 : b.toNat ≠ 92 := hn 92 fun e => c1 (.inr e)
    simp only [quo, Nat.zero_add]
    rw [if_neg (by omega), h1, if_neg (by omega), if_neg (by omega), if_neg (by omega), u8_back, quo_run S r f (k + 1) (o ++ [b]) h3 hb' (by omega) (by rw [hfin]; exact hl), hfin, List.flatMap_cons, List.length_append, he]
    congr 2
    simp only [List.length_cons, List.length_nil]
    omega
theorem str_item {s : ByteArray} (hs : s.size ≤ 200) (hb : ∀ b ∈ s.data.toList, okB b = true) (S : ByteArray) (hS : S = ⟨(34 :: (s.data.toList.flatMap escB ++ [34])).toArray⟩) :
    item S 0 = .tok ⟨3, s, [], 0, S.size, 0, 0⟩ ∧ blk (bt S 0) = false ∧ 0 < S.size := by
  have hl : S.data.toList = 34 :: (s.data.toList.flatMap escB ++ [34]) := by subst hS; simp
  obtain ⟨h1, h2, h3⟩ := bt_at (S := S) (k := 0) (b := 34) (by rw [List.drop_zero]; exact hl)
  rw [Nat.zero_add] at h3
  have ez : S.size = 1 + (s.data.toList.flatMap escB).length + 1 := by
    subst hS; rw [size_mk]; simp; omega
  have hq := quo_run S s.data.toList (S.size + 1 - 0) 1 [] h3 hb (by omega) (by rw [List.nil_append, Array.length_toList]; exact hs)
  have h34 : bt S 0 = 34 := h1
  refine ⟨item_of ?_ (sees_first _ _ _ (by decide) (by rw [h34]; decide)) (sees_first _ _ _ (by decide) (by rw [h34]; decide)), by rw [h34]; decide, h2⟩
  unfold tokF
  rw [h34, if_neg (by decide), if_neg (by unfold baseF; rw [if_pos (by rw [h34]; decide)]; simp), if_pos rfl, hq]
  congr 2
  exact ez.symm
/-- THE SPELLING OF A VALID TOKEN IS READ AS IT -/
theorem spell_item {t : Tk} (h : ValidT t) : item (spellF t) 0 = .tok ⟨t.k, t.s, t.d, 0, (spellF t).size, 0, 0⟩ ∧ blk (bt (spellF t) 0) = false ∧ 0 < (spellF t).size := by
  cases h with
  | num h1 h2 h3 h4 h5 =>
    have e : spellF t = ⟨(Lib.decDigits (numL t.d)).toArray⟩ := by unfold spellF; rw [if_pos h1]
    have := num_item h3 h4 h5 (spellF t) e
    rw [h1, h2]; exact this
  | name h1 h2 h3 h4 =>
    rw [spell_s (by omega) (by omega) (by omega) (by omega), h1, h2]
    exact name_item h3 h4
  | str h1 h2 h3 h4 =>
    have e : spellF t = ⟨(34 :: (t.s.data.toList.flatMap escB ++ [34])).toArray⟩ := by unfold spellF; rw [if_neg (by omega), if_pos h1]
    have := str_item h3 h4 (spellF t) e
    rw [h1, h2]; exact this
  | key h1 h2 h3 =>
    rw [spell_s (by omega) (by omega) (by omega) (by omega), h1, h2]
    exact word_item h3
  | sign h1 h2 h3 h4 =>
    rw [spell_s (by omega) (by omega) (by omega) (by omega), h1, h2]
    exact sign_item h4
  | line h1 h2 h3 =>
    rcases h1 with h1 | h1
    · have e : spellF t = ⟨#[45, 45, 45, 45]⟩ := by unfold spellF; rw [if_neg (by omega), if_neg (by omega), if_pos h1]
      rw [e, h1, h2, h3]
      exact ⟨by kernel_rfl, by decide, by decide⟩
    · have e : spellF t = ⟨#[61, 61, 61, 61]⟩ := by unfold spellF; rw [if_neg (by omega), if_neg (by omega), if_neg (by omega), if_pos h1]
      rw [e, h1, h2, h3]
      exact ⟨by kernel_rfl, by decide, by decide⟩
theorem spell_no92 {t : Tk} (h : t.k = 2) : ∀ k, k < (spellF t).size → bt (spellF t) k ≠ 92 := by
  intro k hk
  have e : spellF t = ⟨(Lib.decDigits (numL t.d)).toArray⟩ := by unfold spellF; rw [if_pos h]
  rw [e] at hk ⊢
  have hk' : k < (Lib.decDigits (numL t.d)).length := hk
  rw [bt_mk _ k hk']
  have := dec_digits (numL t.d) _ (List.getElem_mem hk')
  omega
end Go.Proofs.YtagcfgoofiibfaaGreatDoor
namespace Go.Proofs.YtagcfgoofiibfaaGreatDoor
open Go Go.RowKit

/-- Place's variables behind a token -/
def PS.gstep (st : PS) (x : Tk) : PS := ⟨x.line, x.col + (spellF x).size, st.t ++ ((Lib.repeatL [10] (x.line - st.line).toNat ++ Lib.repeatL [32] (x.col - st.c0 x).toNat) ++ (spellF x).data.toList)⟩
/-- a token stands where it may, and not far away -/
structure PS.GFits (st : PS) (x : Tk) : Prop where
  a : st.line ≤ x.line
  b : 1 ≤ x.col
  c : x.line = st.line → st.col ≤ x.col
  l0 : 1 ≤ st.line
  l1 : x.line ≤ 4000
  c0 : 1 ≤ st.col
  c1 : st.col ≤ 50000
  c2 : x.col ≤ 30000
  s : (spellF x).size ≤ 10000
  t : st.t.length ≤ 40000
def PS.gat (ts : List Tk) (i : Nat) : PS := (ts.take i).foldl PS.gstep ⟨1, 1, []⟩
theorem PS.gat_succ (ts : List Tk) (i : Nat) (x : Tk) (hx : ts[i]? = some x) : PS.gat ts (i + 1) = (PS.gat ts i).gstep x := by
  unfold PS.gat
  rw [List.take_add_one, hx]; simp
/-- a token stands ahead of where it may -/
def Cf (st : PS) (x : Tk) : Prop := x.line < st.line ∨ (x.line = st.line ∧ 1 ≤ x.col ∧ x.col < st.col)
end Go.Proofs.YtagcfgoofiibfaaGreatDoor
namespace Go.Proofs.YtagcfgoofiibfaaGreatDoor
open Go Go.RowKit
set_option exponentiation.threshold 400

/-- no line feed and no tab within a token -/
theorem quo_bytes (s : ByteArray) (i : Nat) (p : Tk) : ∀ (f k : Nat) (o : List UInt8), quo s i f k o = .ok p → ∀ j, i + k ≤ j → j < p.en → bt s j ≠ 9 ∧ bt s j ≠ 10
  | 0, _, _, h, j, _, _ => by simp only [quo] at h; cases h
  | f + 1, k, o, h, j, h1, h2 => by
    simp only [quo] at h
    split at h
    · cases h
    split at h
    · rename_i h34
      split at h
      · cases h
      · injection h with h; subst h
        simp only [] at h2
        have : j = i + k := by omega
        subst this; rw [h34]; exact ⟨by decide, by decide⟩
    rename_i h34
    split at h
    · rename_i h92
      split at h
      · rename_i c hc
        split at h
        · cases h
        · rcases Nat.lt_or_ge j (i + k + 2) with q | q
          · rcases Nat.lt_or_ge j (i + k + 1) with q2 | q2
            · have : j = i + k := by omega
              subst this; rw [h92]; exact ⟨by decide, by decide⟩
            · have : j = i + (k + 1) := by omega
              subst this
              constructor <;> (intro e; rw [e] at hc; revert hc; simp [escF])
          · exact quo_bytes s i p f _ _ h j (by omega) h2
      · cases h
    split at h
    · cases h
    · rename_i h3
      rcases Nat.lt_or_ge j (i + k + 1) with q | q
      · have : j = i + k := by omega
        subst this; omega
      · exact quo_bytes s i p f _ _ h j (by omega) h2
theorem rnb_no {b : Int} (h : rnb b = true) : b ≠ 9 ∧ b ≠ 10 := by constructor <;> (intro e; subst e; revert h; decide)
theorem bar_no9 {b : Int} (h : bar b = false) : b ≠ 9 ∧ b ≠ 10 := by constructor <;> (intro e; subst e; revert h; decide)
theorem tok_bytes {T : ByteArray} {i : Nat} {p : Tk} (hT : i < T.size) (hb : blk (bt T i) = false) (h : tokF T i = .ok p) : ∀ j, i ≤ j → j < p.en → bt T j ≠ 9 ∧ bt T j ≠ 10 := by
  have hbd := tokF_bd T i p hT h
  have hi : bt T i ≠ 9 ∧ bt T i ≠ 10 := by constructor <;> (intro e; rw [e] at hb; revert hb; decide)
  have hrun : ∀ n, n ≤ cnt rnb T i → p.en = i + n → ∀ j, i ≤ j → j < p.en → bt T j ≠ 9 ∧ bt T j ≠ 10 := fun n hn he j h1 h2 => by
    have := (cnt_lt rnb T _ i rfl (j - i) (by omega)).2
    rw [show i + (j - i) = j by omega] at this
    exact rnb_no this
  unfold tokF at h
  split at h
  · rename_i hr
    have hcl := cnt_le rnb T i
    unfold runF at h
    split at h
    · split at h
      · cases h
      · injection h with h; exact hrun _ (Nat.le_refl _) (by subst h; rfl)
    split at h
    · rename_i hp
      have h3 : 3 ≤ cnt rnb T i := by
        rw [Bool.or_eq_true] at hp
        rcases hp with hp | hp
        · exact pre3 T i (by omega) _ rfl hp
        · exact pre3 T i (by omega) _ rfl hp
      injection h with h; exact hrun 3 h3 (by subst h; rfl)
    split at h
    · injection h with h; exact hrun _ (Nat.le_refl _) (by subst h; rfl)
    split at h
    · injection h with h; exact hrun _ (Nat.le_refl _) (by subst h; rfl)
    split at h
    · cases h
    split at h
    · cases h
    · injection h with h; exact hrun _ (Nat.le_refl _) (by subst h; rfl)
  split at h
  · rename_i hbs
    have h9 := base92 hbs
    unfold basedF at h
    split at h
    · cases h
    · injection h with h; subst h
      intro j h1 h2
      simp only [] at h2
      rcases Nat.lt_or_ge j (i + 2) with q | q
      · rcases Nat.lt_or_ge j (i + 1) with q2 | q2
        · have : j = i := by omega
          subst this; exact hi
        · have : j = i + 1 := by omega
          subst this
          rw [swF_base T i h9] at hbs
          have hsw : swF (bt T (i + 1)) ≠ 0 := by
            intro e; rw [if_pos e] at hbs; exact hbs rfl
          constructor <;> (intro e; rw [e] at hsw; exact hsw (by decide))
      · have := (cnt_lt rnb T _ (i + 2) rfl (j - (i + 2)) (by omega)).2
        rw [show i + 2 + (j - (i + 2)) = j by omega] at this
        exact rnb_no this
  split at h
  · intro j h1 h2
    rcases Nat.lt_or_ge j (i + 1) with q | q
    · have : j = i := by omega
      subst this; exact hi
    · exact quo_bytes T i p _ _ _ h j q h2
  split at h
  · injection h with h; subst h
    intro j h1 h2
    simp only [] at h2
    have h3 := (cnt_lt (fun b => b == 45) T _ i rfl (j - i) (by omega)).2
    rw [show i + (j - i) = j by omega] at h3
    have : bt T j = 45 := by simpa using h3
    rw [this]; exact ⟨by decide, by decide⟩
  split at h
  · injection h with h; subst h
    intro j h1 h2
    simp only [] at h2
    have h3 := (cnt_lt (fun b => b == 61) T _ i rfl (j - i) (by omega)).2
    rw [show i + (j - i) = j by omega] at h3
    have : bt T j = 61 := by simpa using h3
    rw [this]; exact ⟨by decide, by decide⟩
  · have key : ∀ (L : Nat) (c : ByteArray), i + L ≤ T.size → canonOf (T.extract i (i + L)) = some c → ∀ j, i ≤ j → j < i + L → bt T j ≠ 9 ∧ bt T j ≠ 10 := fun L c hL hc j h1 h2 => by
      rcases Nat.lt_or_ge i j with q | q
      · have := sign_nobar T i L c hc hL (j - i) (by omega) (by omega)
        rw [show i + (j - i) = j by omega] at this
        exact bar_no9 this
      · rw [show j = i by omega]; exact hi
    unfold signF at h
    split at h
    · rename_i hc
      obtain ⟨_, _, hc⟩ := hc
      injection h with h; subst h
      have hl := cnt_le ltr T (i + 1)
      rcases hk : canonOf (T.extract i (i + (1 + cnt ltr T (i + 1)))) with _ | c
      · rw [hk] at hc; cases hc
      · exact key _ c (by omega) hk
    · obtain ⟨L, c, h1, h2, rfl, h4, _⟩ := sgn_ok T i p _ h
      exact key L c (by omega) h4
/-- the column grows by one with each byte of a token -/
theorem pos_within {s : ByteArray} (a : Nat) : ∀ n, (∀ j, a ≤ j → j < a + n → bt s j ≠ 9 ∧ bt s j ≠ 10) → pos s (a + n) = ((pos s a).1, (pos s a).2 + n)
  | 0, _ => by simp
  | n + 1, h => by
    have ih := pos_within a n (fun j h1 h2 => h j h1 (by omega))
    rw [show a + (n + 1) = a + n + 1 by omega]
    simp only [pos]
    rw [ih]
    have := h (a + n) (by omega) (by omega)
    unfold nxt
    rw [if_neg this.2, if_neg this.1]
    congr 1
    simp only []
    omega
/-- places grow -/
theorem pos_step (s : ByteArray) (n : Nat) : 1 ≤ (pos s n).1 ∧ 1 ≤ (pos s n).2 ∧ ((pos s (n + 1)).1 = (pos s n).1 ∧ (pos s n).2 < (pos s (n + 1)).2 ∧ (pos s (n + 1)).2 ≤ (pos s n).2 + 8 ∨ (pos s (n + 1)).1 = (pos s n).1 + 1 ∧ (pos s (n + 1)).2 = 1) := by
  have h1 : ∀ n, 1 ≤ (pos s n).1 ∧ 1 ≤ (pos s n).2 := by
    intro n
    induction n with
    | zero => exact ⟨by show (1 : Int) ≤ 1; omega, by show (1 : Int) ≤ 1; omega⟩
    | succ n ih =>
      simp only [pos]
      unfold nxt
      split
      · exact ⟨by simp only []; omega, by simp only []; omega⟩
      · split
        · exact ⟨by simp only []; omega, by simp only []; omega⟩
        · exact ⟨by simp only []; omega, by simp only []; omega⟩
  refine ⟨(h1 n).1, (h1 n).2, ?_⟩
  have h2 := (h1 n).2
  simp only [pos]
  unfold nxt
  split
  · right; exact ⟨rfl, rfl⟩
  · split
    · left; simp only []; exact ⟨trivial, by omega, by omega⟩
    · left; simp only []; exact ⟨trivial, by omega, by omega⟩
/-- .. and how far -/
theorem pos_far (s : ByteArray) (a : Nat) : ∀ n, (pos s (a + n)).1 = (pos s a).1 ∧ (pos s a).2 + n ≤ (pos s (a + n)).2 ∧ (pos s (a + n)).2 ≤ (pos s a).2 + 8 * n ∨ (pos s a).1 < (pos s (a + n)).1 ∧ (pos s (a + n)).1 ≤ (pos s a).1 + n ∧ 1 ≤ (pos s (a + n)).2 ∧ (pos s (a + n)).2 ≤ 8 * n + 1
  | 0 => .inl ⟨rfl, by simp, by simp⟩
  | n + 1 => by
    have ih := pos_far s a n
    have h := pos_step s (a + n)
    rw [show a + (n + 1) = a + n + 1 by omega]
    omega

/-- A TOKEN OF A TEXT IS VALID -/
theorem limbs_valid {v : Nat} (h : v < big) : InB (limbs v) ∧ NoZ (limbs v) ∧ (limbs v).length ≤ 40 := ⟨limbs_inB v, limbs_noZ v (Nat.lt_trans h big_lt), limbs_len40 v h⟩
theorem valF_valid {w : ByteArray} {b : Int} {d : List Int} (h : valF w b = some d) : InB d ∧ NoZ d ∧ d.length ≤ 40 := by
  unfold valF at h
  rcases hv : valN b w.data.toList 0 with _ | v
  · rw [hv] at h; cases h
  · rw [hv] at h
    change (if v < big then some (limbs v) else none) = some d at h
    split at h
    · rename_i hb; injection h with h; subst h; exact limbs_valid hb
    · cases h
theorem signs_canon : signsL.all (fun p => decide (canonOf ⟨p.2.toArray⟩ = some ⟨p.2.toArray⟩) && !p.2.isEmpty) = true := by decide +kernel
theorem canon_canon {w c : ByteArray} (h : canonOf w = some c) : canonOf c = some c ∧ c ≠ ByteArray.empty := by
  unfold canonOf at h
  rcases hf : signsL.find? (fun p => p.1 == w.data.toList) with _ | q
  · rw [hf] at h; cases h
  · rw [hf] at h
    simp only [Option.map_some, Option.some.injEq] at h
    have h1 := List.all_eq_true.1 signs_canon q (List.mem_of_find?_eq_some hf)
    rw [Bool.and_eq_true] at h1
    rw [← h]
    refine ⟨of_decide_eq_true h1.1, fun e => ?_⟩
    have h2 := h1.2
    have h3 : q.2 = [] := by
      have := congrArg (fun b : ByteArray => b.data.toList) e
      simpa using this
    rw [h3] at h2; cases h2
theorem word_wf : isWord ⟨#[87, 70, 95]⟩ = true ∧ isWord ⟨#[83, 70, 95]⟩ = true := by decide
theorem us_sign : canonOf ⟨#[95]⟩ = some ⟨#[95]⟩ := by decide +kernel
theorem quo_ok (s : ByteArray) (i : Nat) (p : Tk) : ∀ (f k : Nat) (o : List UInt8), (∀ b ∈ o, okB b = true) → quo s i f k o = .ok p → ∀ b ∈ p.s.data.toList, okB b = true
  | 0, _, _, _, h => by simp only [quo] at h; cases h
  | f + 1, k, o, ho, h => by
    simp only [quo] at h
    split at h
    · cases h
    split at h
    · split at h
      · cases h
      · injection h with h; subst h; simpa using ho
    rename_i h34
    split at h
    · split at h
      · rename_i c hc
        split at h
        · cases h
        · refine quo_ok s i p f _ _ (fun b hb => ?_) h
          rcases List.mem_append.1 hb with hb | hb
          · exact ho b hb
          · simp at hb
            subst hb
            have := (escF_len _ c hc).2
            rcases this with rfl | rfl | rfl | rfl | rfl | rfl <;> decide
      · cases h
    rename_i h92
    split at h
    · cases h
    · rename_i h3
      refine quo_ok s i p f _ _ (fun b hb => ?_) h
      rcases List.mem_append.1 hb with hb | hb
      · exact ho b hb
      · simp at hb
        subst hb
        obtain ⟨n, hn⟩ : ∃ n : Nat, bt s (i + k) = (n : Int) := ⟨(bt s (i + k)).toNat, by have := bt_lo s (i + k); omega⟩
        rw [hn] at h3 ⊢
        have e : ((n : Int).toNat.toUInt8).toNat = n := by
          show (UInt8.ofNat n).toNat = n
          simp; omega
        unfold okB
        rw [e]
        simp; omega
theorem tok_valid {s : ByteArray} {i : Nat} {p : Tk} (hi : i < s.size) (hb : blk (bt s i) = false) (hc : item s i = .tok p) (hs : s.size ≤ 20000) : ValidT p := by
  obtain ⟨h, g2, g3, g4, g5, g6⟩ := item_tok s i p hi hc
  by_cases hk1 : p.k = 1
  · have hn := tokF_name s i p h hk1
    have hal := tok_alone hi hb hc
    have hx := size_ext s p.at_ p.en g3
    have hkf : kindF (s.extract p.at_ p.en) = 1 := by
      have ht := (tokens_ok_iff (s.extract p.at_ p.en) (by omega) _).2 ⟨_, _, hal, rfl⟩
      unfold kindF
      rw [ht]
      simp only [List.map_cons, List.map_nil, kindR]
      rw [if_pos ⟨rfl, by show 0 + (p.en - p.at_) = _; omega⟩]
      exact hk1
    rw [g4, ← hn.1] at hkf
    refine .name hk1 hn.2 ?_ hkf
    have hs40 : p.en - i ≤ 40 := by
      unfold tokF at h
      split at h
      · unfold runF at h
        (repeat' split at h) <;> first | (cases h; done) | (injection h with h; subst h; exfalso; revert hk1; simp; done) | (injection h with h; subst h; simp only []; omega)
      · split at h
        · unfold basedF at h
          split at h
          · cases h
          · injection h with h; subst h; exfalso; revert hk1; simp
        · split at h
          · have := (quo_k s i p _ _ _ h).1; omega
          · split at h
            · injection h with h; subst h; exfalso; revert hk1; simp
            · split at h
              · injection h with h; subst h; exfalso; revert hk1; simp
              · unfold signF at h
                split at h
                · injection h with h; subst h; exfalso; revert hk1; simp
                · have := (sgn_k s i p _ h).1; omega
    rw [hn.1, size_ext s i p.en g3]; exact hs40
  · unfold tokF at h
    split at h
    · unfold runF at h
      split at h
      · split at h
        · cases h
        · rename_i d hd
          injection h with h; subst h
          obtain ⟨v1, v2, v3⟩ := valF_valid hd
          exact .num rfl rfl v1 v2 v3
      split at h
      · rename_i hp
        injection h with h; subst h
        have hcl := cnt_le rnb s i
        refine .key rfl rfl ?_
        have key : ∀ q : List UInt8, q.length = 3 → Lib.hasPrefix (s.extract i (i + cnt rnb s i)).data.toList q = true → (s.extract i (i + cnt rnb s i)).extract 0 3 = ⟨q.toArray⟩ := fun q hq hpq => by
          apply ba_eq
          have z : (3 : Nat) = 0 + 3 := rfl
          rw [z, extLst, List.drop_zero]
          unfold Lib.hasPrefix at hpq
          rw [List.isPrefixOf_iff_prefix, List.prefix_iff_eq_take, hq] at hpq
          rw [← hpq]
        show isWord ((s.extract i (i + cnt rnb s i)).extract 0 3) = true
        rw [Bool.or_eq_true] at hp
        rcases hp with hp | hp
        · rw [key [87, 70, 95] rfl hp]; exact word_wf.1
        · rw [key [83, 70, 95] rfl hp]; exact word_wf.2
      split at h
      · rename_i hus
        injection h with h; subst h
        have e : s.extract i (i + cnt rnb s i) = ⟨#[95]⟩ := by
          apply ba_eq
          have h1 : (s.extract i (i + cnt rnb s i)).toList = [95] := by simpa using hus
          rw [← ByteArray.toList_eq, h1]
        refine .sign rfl rfl ?_ ?_
        · show s.extract i (i + cnt rnb s i) ≠ ByteArray.empty
          rw [e]; decide
        · show canonOf (s.extract i (i + cnt rnb s i)) = some (s.extract i (i + cnt rnb s i))
          rw [e]; exact us_sign
      split at h
      · rename_i hw
        injection h with h; subst h
        exact .key rfl rfl hw
      split at h
      · cases h
      split at h
      · cases h
      · injection h with h; subst h; exact absurd rfl hk1
    split at h
    · unfold basedF at h
      split at h
      · cases h
      · rename_i d hd
        injection h with h; subst h
        obtain ⟨v1, v2, v3⟩ := valF_valid hd
        exact .num rfl rfl v1 v2 v3
    split at h
    · obtain ⟨h1, h2, h3, r, h4, h5, h6, h7⟩ := quo_size s i p _ _ _ h
      refine .str h1 h2 ?_ (quo_ok s i p _ _ _ (by simp) h)
      have : p.s.size = p.s.data.toList.length := by rw [Array.length_toList]; rfl
      rw [this, h4]; exact h7
    split at h
    · injection h with h; subst h; exact .line (.inl rfl) rfl rfl
    split at h
    · injection h with h; subst h; exact .line (.inr rfl) rfl rfl
    · unfold signF at h
      split at h
      · rename_i hcc
        obtain ⟨_, _, hcc⟩ := hcc
        injection h with h; subst h
        rcases hk : canonOf (s.extract i (i + (1 + cnt ltr s (i + 1)))) with _ | c
        · rw [hk] at hcc; cases hcc
        · have := canon_canon hk
          exact .sign rfl rfl this.2 this.1
      · obtain ⟨L, c, h1, h2, rfl, h4, _⟩ := sgn_ok s i p _ h
        have := canon_canon h4
        exact .sign rfl rfl this.2 this.1
theorem tokens_valid {s : ByteArray} (hs : s.size ≤ 20000) {l : List Tk} (h : tokens s = .ok l) : ∀ t ∈ l, ValidT t := by
  obtain ⟨ps, ys, h1, rfl⟩ := (tokens_ok_iff s hs _).1 h
  intro t ht
  obtain ⟨p, hp, rfl⟩ := List.mem_map.1 ht
  obtain ⟨m1, m2, m3⟩ := h1.mem p hp
  have := tok_valid m1 m2 m3 hs
  cases this with
  | num a b c d e => exact .num a b c d e
  | name a b c d => exact .name a b c d
  | str a b c d => exact .str a b c d
  | key a b c => exact .key a b c
  | sign a b c d => exact .sign a b c d
  | line a b c => exact .line a b c
end Go.Proofs.YtagcfgoofiibfaaGreatDoor
namespace Go.Proofs.YtagcfgoofiibfaaGreatDoor
open Go Go.RowKit
set_option exponentiation.threshold 400

def padK (k b : Nat) : List UInt8 := List.replicate (k - (Lib.decDigits b).length) 48 ++ Lib.decDigits b
theorem dec_one {n : Nat} (h : n < 10) : Lib.decDigits n = [UInt8.ofNat (48 + n)] := by rw [Lib.decDigits, dif_pos h]
theorem dec_more {n : Nat} (h : ¬ n < 10) : Lib.decDigits n = Lib.decDigits (n / 10) ++ [UInt8.ofNat (48 + n % 10)] := by rw [Lib.decDigits, dif_neg h]
theorem dec_pad (a : Nat) (ha : 0 < a) : ∀ (k b : Nat), b < 10 ^ (k + 1) → Lib.decDigits (a * 10 ^ (k + 1) + b) = Lib.decDigits a ++ padK (k + 1) b
  | 0, b, hb => by
    have hb' : b < 10 := by simpa using hb
    rw [dec_more (by omega), show (a * 10 ^ (0 + 1) + b) / 10 = a by omega, show (a * 10 ^ (0 + 1) + b) % 10 = b by omega]
    unfold padK
    rw [dec_one hb']; rfl
  | k + 1, b, hb => by
    have e0 : a * 10 ^ (k + 1 + 1) = (a * 10 ^ (k + 1)) * 10 := by rw [Nat.pow_succ 10 (k + 1), Nat.mul_assoc]
    have hge : 10 ≤ a * 10 ^ (k + 1) * 10 := by
      have : 1 ≤ a * 10 ^ (k + 1) := Nat.mul_pos ha (Nat.pow_pos (by omega))
      omega
    rw [dec_more (by omega), e0, show (a * 10 ^ (k + 1) * 10 + b) / 10 = a * 10 ^ (k + 1) + b / 10 by omega, show (a * 10 ^ (k + 1) * 10 + b) % 10 = b % 10 by omega]
    rw [dec_pad a ha k (b / 10) (by rw [Nat.pow_succ 10 (k + 1)] at hb; omega), List.append_assoc]
    congr 1
    unfold padK
    by_cases h : b < 10
    · rw [show b / 10 = 0 by omega, show b % 10 = b by omega, dec_one h, dec_one (show 0 < 10 by omega)]
      show List.replicate (k + 1 - 1) 48 ++ [UInt8.ofNat 48] ++ [UInt8.ofNat (48 + b)] = List.replicate (k + 1 + 1 - 1) 48 ++ [UInt8.ofNat (48 + b)]
      congr 1
      show List.replicate k (48 : UInt8) ++ [48] = List.replicate (k + 1) 48
      rw [List.replicate_succ']
    · rw [dec_more h, List.length_append, List.length_singleton, show k + 1 + 1 - ((Lib.decDigits (b / 10)).length + 1) = k + 1 - (Lib.decDigits (b / 10)).length by omega, List.append_assoc]
/-- what stands behind the parts from i on -/
def textL (l : List Int) (i : Nat) : List UInt8 := if l.length ≤ i then [] else Lib.decDigits (numL (l.drop i))
theorem numL_pos : ∀ (l : List Int), InB l → NoZ l → l ≠ [] → 0 < numL l
  | [], _, _, h => absurd rfl h
  | [d], hb, hz, _ => by
    have h1 := hb d (by simp)
    have h2 : d ≠ 0 := fun e => hz (by rw [e]; rfl)
    simp only [numL]; omega
  | d :: e :: l, hb, hz, _ => by
    have := numL_pos (e :: l) (fun x hx => hb x (List.mem_cons_of_mem _ hx)) (fun h => hz (by rw [List.getLast?_cons_cons]; exact h)) (by simp)
    simp only [numL] at this ⊢; omega
theorem NoZ.drop {l : List Int} (h : NoZ l) (i : Nat) (hi : i < l.length) : NoZ (l.drop i) := by
  intro e
  apply h
  rw [List.getLast?_drop] at e
  rw [if_neg (by omega)] at e; exact e
theorem itoa_nat (d : Int) (h : 0 ≤ d) : Lib.itoa d = Lib.decDigits d.toNat := by unfold Lib.itoa; rw [if_neg (by omega)]
theorem dec_len9 {n : Nat} (h : n < 1000000000) : (Lib.decDigits n).length ≤ 9 := by
  rw [Lib.decDigits_length]; exact nDig_le 9 n (by omega) h
theorem textL_top (l : List Int) (i : Nat) (d : Int) (hb : InB l) (hd : l[i]? = some d) (hi : i + 1 = l.length) : textL l i = textL l (i + 1) ++ Lib.itoa d := by
  have hlt : i < l.length := by omega
  unfold textL
  rw [if_neg (by omega), if_pos (by omega), List.nil_append, List.drop_eq_getElem_cons hlt, List.drop_eq_nil_of_le (by omega)]
  have he : l[i] = d := by rw [List.getElem?_eq_getElem hlt] at hd; injection hd
  rw [he, itoa_nat d (hb d (List.mem_of_getElem? hd)).1]
  congr 1
theorem textL_step (l : List Int) (i : Nat) (d : Int) (hb : InB l) (hz : NoZ l) (hd : l[i]? = some d) (hi : i + 1 < l.length) : textL l i = textL l (i + 1) ++ (List.replicate (9 - (Lib.itoa d).length) 48 ++ Lib.itoa d) := by
  have hlt : i < l.length := by omega
  have he : l[i] = d := by rw [List.getElem?_eq_getElem hlt] at hd; injection hd
  have hr := hb d (List.mem_of_getElem? hd)
  unfold textL
  rw [if_neg (by omega), if_neg (by omega), List.drop_eq_getElem_cons hlt, he, itoa_nat d hr.1]
  have hp := numL_pos (l.drop (i + 1)) (fun x hx => hb x (List.mem_of_mem_drop hx)) (hz.drop (i + 1) hi) (by simp; omega)
  have := dec_pad (numL (l.drop (i + 1))) hp 8 d.toNat (by omega)
  have e : numL (d :: l.drop (i + 1)) = numL (l.drop (i + 1)) * 10 ^ (8 + 1) + d.toNat := by simp only [numL]; omega
  rw [e, this]; rfl
theorem textL_all (l : List Int) (h : l ≠ []) : textL l 0 = Lib.decDigits (numL l) := by
  unfold textL
  rw [if_neg (by have := List.length_pos_iff.2 h; omega), List.drop_zero]
theorem textL_len (l : List Int) (i : Nat) (hb : InB l) (hl : l.length ≤ 40) : (textL l i).length ≤ 400 := by
  unfold textL
  split
  · simp
  · rw [Lib.decDigits_length]
    have h1 := numL_lt (l.drop i) (fun x hx => hb x (List.mem_of_mem_drop hx))
    refine nDig_le 400 _ (by omega) (Nat.lt_of_lt_of_le h1 ?_)
    have h2 : (l.drop i).length ≤ 40 := by rw [List.length_drop]; omega
    refine Nat.le_trans (Nat.pow_le_pow_right (by omega) h2) ?_
    decide
end Go.Proofs.YtagcfgoofiibfaaGreatDoor
namespace Go.Proofs.YtagcfgoofiibfaaGreatDoor
open Go Go.RowKit
set_option exponentiation.threshold 400

/-- a token's spelling is no longer than twice the token -/
theorem valN_lt16 (b : Int) (h0 : 0 ≤ b) (h1 : b ≤ 16) : ∀ (l : List UInt8) (n v : Nat), valN b l n = some v → v < (n + 1) * 16 ^ l.length
  | [], n, v, h => by simp only [valN] at h; injection h with h; subst h; simp
  | c :: l, n, v, h => by
    simp only [valN] at h
    split at h
    · cases h
    · rename_i hc
      have ih := valN_lt16 b h0 h1 l _ v h
      rw [List.length_cons, Nat.pow_succ]
      refine Nat.lt_of_lt_of_le ih ?_
      rw [Nat.mul_comm (16 ^ l.length) 16, ← Nat.mul_assoc]
      refine Nat.mul_le_mul_right _ ?_
      have hw : (wrth (c.toNat : Int)).toNat < b.toNat := by omega
      have hb : b.toNat ≤ 16 := by omega
      have := Nat.mul_le_mul_left n hb
      omega
theorem base_rng (s : ByteArray) (i : Nat) : 0 ≤ baseF s i ∧ baseF s i ≤ 16 := by
  unfold baseF
  repeat' split
  all_goals decide
theorem tok_max {T : ByteArray} {i : Nat} {p : Tk} (hT : i < T.size) (h : tokF T i = .ok p) : (spellF p).size ≤ 2 * (p.en - i) := by
  by_cases hq : p.k = 2 ∧ bt T i = 92
  · obtain ⟨hk, h92⟩ := hq
    unfold tokF at h
    rw [if_neg (by rw [h92]; decide)] at h
    split at h
    · unfold basedF at h
      split at h
      · cases h
      · rename_i d hd
        injection h with h
        subst h
        unfold valF at hd
        rcases hv : valN (baseF T i) (T.extract (i + 2) (i + 2 + cnt rnb T (i + 2))).data.toList 0 with _ | v
        · rw [hv] at hd; cases hd
        · rw [hv] at hd
          simp only [Option.bind] at hd
          split at hd
          · rename_i hvb
            injection hd with hd
            have h1 := valN_lt16 _ (base_rng T i).1 (base_rng T i).2 _ _ _ hv
            have hl : (T.extract (i + 2) (i + 2 + cnt rnb T (i + 2))).data.toList.length ≤ cnt rnb T (i + 2) := by
              rw [Array.length_toList]
              show (T.extract _ _).size ≤ _
              rw [ByteArray.size_extract]; omega
            have h2 : v < 10 ^ (2 * (cnt rnb T (i + 2) + 2)) := by
              refine Nat.lt_of_lt_of_le h1 ?_
              rw [Nat.zero_add, Nat.one_mul]
              refine Nat.le_trans (Nat.pow_le_pow_right (by decide) hl) ?_
              refine Nat.le_trans (Nat.pow_le_pow_left (show 16 ≤ 10 ^ 2 by decide) _) ?_
              rw [← Nat.pow_mul]
              exact Nat.pow_le_pow_right (by decide) (by omega)
            have h3 := nDig_le _ v (by omega) h2
            show (spellF ⟨2, _, d, _, _, _, _⟩).size ≤ 2 * (i + (cnt rnb T (i + 2) + 2) - i)
            unfold spellF
            rw [if_pos rfl]
            show (Lib.decDigits (numL d)).length ≤ _
            rw [Lib.decDigits_length, ← hd, limbs_num v (Nat.lt_trans hvb big_lt)]
            omega
          · cases hd
    split at h
    · have := (quo_k T i p _ _ _ h).1; omega
    split at h
    · injection h with h; subst h; simp at hk
    split at h
    · injection h with h; subst h; simp at hk
    · unfold signF at h
      split at h
      · injection h with h; subst h; simp at hk
      · have := (sgn_k T i p _ h).1; omega
  · have := tok_min hT h (fun hk h92 => hq ⟨hk, h92⟩)
    omega

theorem rep_eq (b : UInt8) : ∀ n, Lib.repeatL [b] n = List.replicate n b
  | 0 => rfl
  | n + 1 => by show [b] ++ Lib.repeatL [b] n = _; rw [rep_eq b n]; rfl

/-- Place's variables behind a token of a text -/
structure PInv (s : ByteArray) (a e : Nat) (st : PS) : Prop where
  ae : a ≤ e
  es : e ≤ s.size
  l : st.line = (pos s a).1
  c0 : (pos s a).2 ≤ st.col
  c1 : st.col ≤ (pos s a).2 + 2 * ((e - a : Nat) : Int)
  t : st.t.length ≤ 9 * a + 2 * e
theorem placed_spell (s : ByteArray) (p : Tk) : spellF (placed s p) = spellF p := spellF_key rfl
theorem PInv.step {s : ByteArray} {a e : Nat} {st : PS} (h : PInv s a e st) {p : Tk} (h1 : e ≤ p.at_) (h2 : p.at_ < p.en) (h3 : p.en ≤ s.size) (hz : (spellF p).size ≤ 2 * (p.en - p.at_)) : PInv s p.at_ p.en (st.gstep (placed s p)) := by
  have hs := placed_spell s p
  obtain ⟨n, hn⟩ : ∃ n, p.at_ = a + n := ⟨p.at_ - a, by have := h.ae; omega⟩
  have hf := pos_far s a n
  rw [← hn] at hf
  have hp := pos_bd s p.at_
  have hl := h.l
  have hc := h.c0
  have ht := h.t
  have hae := h.ae
  refine ⟨by omega, h3, rfl, ?_, ?_, ?_⟩
  · show (pos s p.at_).2 ≤ (pos s p.at_).2 + ((spellF (placed s p)).size : Int); omega
  · show (pos s p.at_).2 + ((spellF (placed s p)).size : Int) ≤ _; rw [hs]; omega
  · show (st.t ++ ((Lib.repeatL [10] ((pos s p.at_).1 - st.line).toNat ++ Lib.repeatL [32] ((pos s p.at_).2 - (if 0 < (pos s p.at_).1 - st.line then 1 else st.col)).toNat) ++ (spellF (placed s p)).data.toList)).length ≤ _
    rw [hs, rep_eq, rep_eq]
    simp only [List.length_append, List.length_replicate, Array.length_toList]
    change _ + (_ + (spellF p).size) ≤ _
    split <;> omega
theorem PInv.fits {s : ByteArray} {a e : Nat} {st : PS} (h : PInv s a e st) (hs : s.size ≤ 3000) {p : Tk} (h1 : e ≤ p.at_) (h2 : p.at_ < p.en) (h3 : p.en ≤ s.size) (hz : (spellF p).size ≤ 2 * (p.en - p.at_)) (hc : ¬ Cf st (placed s p)) : st.GFits (placed s p) := by
  have hp := pos_bd s p.at_
  have ha := pos_bd s a
  have h4 := h.l
  have h5 := h.c0
  have h6 := h.c1
  have h7 := h.t
  have h8 := h.ae
  have e1 : (placed s p).line = (pos s p.at_).1 := rfl
  have e2 : (placed s p).col = (pos s p.at_).2 := rfl
  unfold Cf at hc
  rw [e1, e2] at hc
  refine ⟨by rw [e1]; omega, by rw [e2]; omega, by rw [e1, e2]; omega, by omega, by rw [e1]; omega, by omega, by omega, by rw [e2]; omega, by rw [placed_spell]; omega, by omega⟩
/-- what is known of a token of a text -/
structure TkIn (s : ByteArray) (p : Tk) : Prop where
  lt : p.at_ < s.size
  nb : blk (bt s p.at_) = false
  it : item s p.at_ = .tok p
theorem TkIn.bd {s : ByteArray} {p : Tk} (h : TkIn s p) : p.at_ < p.en ∧ p.en ≤ s.size ∧ (spellF p).size ≤ 2 * (p.en - p.at_) := by
  obtain ⟨k1, k2, k3, _⟩ := item_tok s p.at_ p h.lt h.it
  exact ⟨k2, k3, tok_max h.lt k1⟩
theorem inv_all {s : ByteArray} : ∀ (l : List Tk) (a i : Nat) (st : PS) (ys : List (Nat × Nat)), Sc s i l ys → PInv s a i st → ∀ (k : Nat) (p : Tk), l[k]? = some p → ∃ a' e', PInv s a' e' (((l.map (placed s)).take k).foldl PS.gstep st) ∧ e' ≤ p.at_
  | [], _, _, _, _, _, _, k, p, hk => by simp at hk
  | q :: l, a, i, st, ys, h, hI, 0, p, hk => by
    simp at hk; subst hk
    exact ⟨a, i, by simpa using hI, h.split.1⟩
  | q :: l, a, i, st, ys, h, hI, k + 1, p, hk => by
    obtain ⟨h1, _, ws, h2⟩ := h.split
    obtain ⟨m1, m2, m3⟩ := h.mem q (by simp)
    obtain ⟨b1, b2, b3⟩ := TkIn.bd ⟨m1, m2, m3⟩
    have := inv_all l q.at_ q.en _ ws h2 (hI.step h1 b1 b2 b3) k p (by simpa using hk)
    simpa using this
theorem inv_end {s : ByteArray} : ∀ (l : List Tk) (a i : Nat) (st : PS) (ys : List (Nat × Nat)), Sc s i l ys → PInv s a i st → ∃ a' e', PInv s a' e' ((l.map (placed s)).foldl PS.gstep st)
  | [], a, i, st, _, _, hI => ⟨a, i, hI⟩
  | q :: l, a, i, st, ys, h, hI => by
    obtain ⟨h1, _, ws, h2⟩ := h.split
    obtain ⟨m1, m2, m3⟩ := h.mem q (by simp)
    obtain ⟨b1, b2, b3⟩ := TkIn.bd ⟨m1, m2, m3⟩
    have := inv_end l q.at_ q.en _ ws h2 (hI.step h1 b1 b2 b3)
    simpa using this

/-- where all tokens are spelled as they stand, none stands too far ahead -/
theorem pos_end {s : ByteArray} {p : Tk} (h : TkIn s p) : pos s p.en = ((pos s p.at_).1, (pos s p.at_).2 + ((p.en - p.at_ : Nat) : Int)) := by
  obtain ⟨k1, k2, k3, _⟩ := item_tok s p.at_ p h.lt h.it
  have hb := tok_bytes h.lt h.nb k1
  have := pos_within p.at_ (p.en - p.at_) (fun j h1 h2 => hb j h1 (by omega))
  rw [show p.at_ + (p.en - p.at_) = p.en by omega] at this
  exact this
theorem no_cf {s : ByteArray} : ∀ (l : List Tk) (i : Nat) (st : PS) (ys : List (Nat × Nat)), Sc s i l ys → (∀ p ∈ l, s.extract p.at_ p.en = spellF p) → st.line = (pos s i).1 → st.col = (pos s i).2 → ∀ (k : Nat) (p : Tk), l[k]? = some p → ¬ Cf (((l.map (placed s)).take k).foldl PS.gstep st) (placed s p)
  | [], _, _, _, _, _, _, _, k, p, hk => by simp at hk
  | q :: l, i, st, ys, h, hm, h1, h2, 0, p, hk => by
    simp at hk; subst hk
    have hi := h.split.1
    have hf := pos_far s i (q.at_ - i)
    rw [show i + (q.at_ - i) = q.at_ by omega] at hf
    simp only [List.take_zero, List.foldl_nil]
    unfold Cf
    show ¬ ((pos s q.at_).1 < st.line ∨ ((pos s q.at_).1 = st.line ∧ 1 ≤ (pos s q.at_).2 ∧ (pos s q.at_).2 < st.col))
    omega
  | q :: l, i, st, ys, h, hm, h1, h2, k + 1, p, hk => by
    obtain ⟨h3, _, ws, h4⟩ := h.split
    obtain ⟨m1, m2, m3⟩ := h.mem q (by simp)
    have hT : TkIn s q := ⟨m1, m2, m3⟩
    have hb := hT.bd
    have he := pos_end hT
    have hz : (spellF q).size = q.en - q.at_ := by rw [← hm q (by simp)]; exact size_ext s _ _ hb.2.1
    have := no_cf l q.en (st.gstep (placed s q)) ws h4 (fun p hp => hm p (List.mem_cons_of_mem _ hp)) (by rw [he]; rfl) (by
      rw [he]; show (pos s q.at_).2 + ((spellF (placed s q)).size : Int) = _; rw [placed_spell, hz]) k p (by simpa using hk)
    simpa using this

/-- the text behind a place -/
def gRest : PS → List Tk → List UInt8
  | _, [] => []
  | st, x :: l => ((Lib.repeatL [10] (x.line - st.line).toNat ++ Lib.repeatL [32] (x.col - st.c0 x).toNat) ++ (spellF x).data.toList) ++ gRest (st.gstep x) l
theorem gRest_eq : ∀ (l : List Tk) (st : PS), (l.foldl PS.gstep st).t = st.t ++ gRest st l
  | [], st => by simp [gRest]
  | x :: l, st => by
    rw [List.foldl_cons, gRest_eq l (st.gstep x)]
    show (st.t ++ _) ++ _ = st.t ++ (_ ++ _)
    rw [List.append_assoc]
theorem drop_parts {T : ByteArray} {j : Nat} {A B : List UInt8} (h : T.data.toList.drop j = A ++ B) (hj : j ≤ T.size) : T.data.toList.drop (j + A.length) = B ∧ j + A.length ≤ T.size ∧ ∀ k, k < A.length → bt T (j + k) = ((A.getD k 0).toNat : Int) := by
  refine ⟨?_, ?_, fun k hk => ?_⟩
  · rw [← List.drop_drop, h, List.drop_left]
  · have := congrArg List.length h
    rw [List.length_drop, List.length_append, Array.length_toList] at this
    change T.size - j = _ at this
    omega
  · unfold bt
    rw [List.getD_eq_getElem?_getD, List.getD_eq_getElem?_getD, ← List.getElem?_drop, h, List.getElem?_append_left hk]
theorem pos_nl {T : ByteArray} {j : Nat} : ∀ a, (∀ k, k < a → bt T (j + k) = 10) → (pos T (j + a)).1 = (pos T j).1 + a ∧ (0 < a → (pos T (j + a)).2 = 1) ∧ (a = 0 → (pos T (j + a)).2 = (pos T j).2)
  | 0, _ => by simp
  | a + 1, h => by
    have ih := pos_nl a (fun k hk => h k (by omega))
    have e : pos T (j + (a + 1)) = ((pos T (j + a)).1 + 1, 1) := by
      rw [show j + (a + 1) = j + a + 1 by omega]
      simp only [pos]
      rw [h a (by omega)]
      unfold nxt
      rw [if_pos rfl]
    rw [e]
    refine ⟨?_, fun _ => rfl, fun h => by omega⟩
    show (pos T (j + a)).1 + 1 = _
    rw [ih.1]; omega
theorem getD_rep (n k : Nat) (b : UInt8) (h : k < n) : (List.replicate n b).getD k 0 = b := by
  rw [List.getD_eq_getElem?_getD, List.getElem?_replicate, if_pos h]; rfl

/-- THE TEXT READS BACK -/
theorem rest_sc {s T : ByteArray} : ∀ (l : List Tk) (i j : Nat) (st : PS) (ys : List (Nat × Nat)), Sc s i l ys → i ≤ s.size → (∀ p ∈ l, s.extract p.at_ p.en = spellF p) → st.line = (pos s i).1 → st.col = (pos s i).2 → pos T j = pos s i → j ≤ T.size → T.data.toList.drop j = gRest st (l.map (placed s)) →
    ∃ (M : Nat) (qs : List Tk), i ≤ M ∧ Agr s T i j (M - i) ∧ bar (bt T (j + (M - i))) = true ∧ (M = i ∨ nm s M) ∧ Sc T j qs [] ∧ qs.map (fun q => (q.key, pos T q.at_)) = l.map (fun p => (p.key, pos s p.at_))
  | [], i, j, st, ys, h, hi, hm, hl, hc, hp, hj, hT => by
    have hsz : T.size ≤ j := by
      have := congrArg List.length hT
      rw [List.length_drop, Array.length_toList] at this
      change T.size - j = 0 at this
      omega
    exact ⟨i, [], Nat.le_refl _, ⟨by omega, by omega, fun k hk => by omega⟩, bar_end _ _ (by omega), .inl rfl, .fin _ hsz, rfl⟩
  | p :: l, i, j, st, ys, h, hi, hm, hl, hc, hp, hj, hT => by
    obtain ⟨h1, _, ws, h2⟩ := h.split
    obtain ⟨m1, m2, m3⟩ := h.mem p (by simp)
    have hTk : TkIn s p := ⟨m1, m2, m3⟩
    obtain ⟨k1, k2, k3, _⟩ := item_tok s p.at_ p m1 m3
    have hsp : s.extract p.at_ p.en = spellF p := hm p (by simp)
    have hlen : (spellF p).size = p.en - p.at_ := by rw [← hsp]; exact size_ext s _ _ k3
    have hpe := pos_end hTk
    have hf := pos_far s i (p.at_ - i)
    rw [show i + (p.at_ - i) = p.at_ by omega] at hf
    have hpb := pos_bd s p.at_
    obtain ⟨a, ha⟩ : ∃ a, ((pos s p.at_).1 - st.line).toNat = a := ⟨_, rfl⟩
    obtain ⟨b, hb⟩ : ∃ b, ((pos s p.at_).2 - (if 0 < (pos s p.at_).1 - st.line then 1 else st.col)).toNat = b := ⟨_, rfl⟩
    have hT0 : T.data.toList.drop j = List.replicate a 10 ++ (List.replicate b 32 ++ ((spellF p).data.toList ++ gRest (st.gstep (placed s p)) (l.map (placed s)))) := by
      rw [hT]
      show ((Lib.repeatL [10] ((pos s p.at_).1 - st.line).toNat ++ Lib.repeatL [32] ((pos s p.at_).2 - (if 0 < (pos s p.at_).1 - st.line then 1 else st.col)).toNat) ++ (spellF (placed s p)).data.toList) ++ _ = _
      rw [ha, hb, rep_eq, rep_eq, placed_spell, List.append_assoc, List.append_assoc]
    obtain ⟨d1, d2, d3⟩ := drop_parts hT0 hj
    obtain ⟨e1, e2, e3⟩ := drop_parts d1 d2
    obtain ⟨f1, f2, f3⟩ := drop_parts e1 e2
    rw [List.length_replicate] at d2 d3 e1 e2 e3 f1 f2 f3
    rw [List.length_replicate] at e2 e3 f1 f2 f3
    have hln : (spellF p).data.toList.length = p.en - p.at_ := by rw [Array.length_toList]; exact hlen
    rw [hln] at f1 f2 f3
    have g10 : ∀ k, k < a → bt T (j + k) = 10 := fun k hk => by rw [d3 k hk, getD_rep _ _ _ hk]; rfl
    have g32 : ∀ k, k < b → bt T (j + a + k) = 32 := fun k hk => by rw [e3 k hk, getD_rep _ _ _ hk]; rfl
    have gsp : ∀ k, k < p.en - p.at_ → bt T (j + a + b + k) = bt s (p.at_ + k) := fun k hk => by
      rw [f3 k hk, ← bt_ext s p.at_ p.en k hk k3, hsp]; rfl
    have hp1 := pos_nl a g10
    have hp2 := pos_within (s := T) (j + a) b (fun q h1 h2 => by
      have := g32 (q - (j + a)) (by omega)
      rw [show j + a + (q - (j + a)) = q by omega] at this
      rw [this]; decide)
    have hpj : pos T (j + a + b) = pos s p.at_ := by
      rw [hp2]
      rw [hp] at hp1
      apply Prod.ext
      · show (pos T (j + a)).1 = _
        omega
      · show (pos T (j + a)).2 + (b : Int) = _
        split at hb <;> omega
    obtain ⟨J, hJ⟩ : ∃ J, j + a + b = J := ⟨_, rfl⟩
    rw [hJ] at f1 f2 gsp hpj
    have hTb := tok_bytes m1 m2 k1
    have hpe2 : pos T (J + (p.en - p.at_)) = pos s p.en := by
      have := pos_within (s := T) J (p.en - p.at_) (fun q h1 h2 => by
        have := gsp (q - J) (by omega)
        rw [show J + (q - J) = q by omega] at this
        rw [this]
        exact hTb _ (by omega) (by omega))
      rw [this, hpj, hpe]
    obtain ⟨M, qs, i1, i2, i3, i4, i5, i6⟩ := rest_sc l p.en (J + (p.en - p.at_)) (st.gstep (placed s p)) ws h2 k3 (fun q hq => hm q (List.mem_cons_of_mem _ hq)) (by rw [hpe]; rfl) (by
      rw [hpe]; show (pos s p.at_).2 + ((spellF (placed s p)).size : Int) = _; rw [placed_spell, hlen]) hpe2 f2 f1
    have hA : Agr s T p.at_ J (M - p.at_) := by
      have q1 := i2.ls
      have q2 := i2.lt
      refine ⟨by omega, by omega, fun k hk => ?_⟩
      by_cases hkl : k < p.en - p.at_
      · exact gsp k hkl
      · have := i2.b (k - (p.en - p.at_)) (by omega)
        rw [show J + (p.en - p.at_) + (k - (p.en - p.at_)) = J + k by omega, show p.en + (k - (p.en - p.at_)) = p.at_ + k by omega] at this
        exact this
    have hbar : bar (bt T (J + (M - p.at_))) = true := by
      rw [show J + (M - p.at_) = J + (p.en - p.at_) + (M - p.en) by omega]; exact i3
    have hnm : nm s M := by
      rcases i4 with i4 | i4
      · rw [i4]; exact item_nm_tok s p.at_ p m1 m3
      · exact i4
    have hit : item T J = .tok (p.mv J) := tok_item_loc s T p.at_ J (M - p.at_) p m1 m3 hA (by omega) hbar (.inr (by
      rw [show p.at_ + (M - p.at_) = M by omega]; exact hnm))
    have hJs : J < T.size := by have := i2.lt; omega
    have hbJ : blk (bt T J) = false := by
      have := gsp 0 (by omega)
      rw [Nat.add_zero, Nat.add_zero] at this
      rw [this]; exact m2
    have hsc : Sc T J (p.mv J :: qs) [] := Sc.tok J (p.mv J) qs [] hJs hbJ hit i5
    have hsc2 : Sc T j (p.mv J :: qs) [] := by
      refine Sc.blanks (a + b) j (fun k q1 q2 => ⟨by omega, ?_⟩) (by rw [← Nat.add_assoc, hJ]; exact hsc)
      by_cases hka : k < j + a
      · have := g10 (k - j) (by omega)
        rw [show j + (k - j) = k by omega] at this
        rw [this]; decide
      · have := g32 (k - (j + a)) (by omega)
        rw [show j + a + (k - (j + a)) = k by omega] at this
        rw [this]; decide
    have hmap : (p.mv J :: qs).map (fun q => (q.key, pos T q.at_)) = (p :: l).map (fun p => (p.key, pos s p.at_)) := by
      rw [List.map_cons, List.map_cons, i6]
      congr 1
      show ((p.mv J).key, pos T J) = _
      rw [hpj]; rfl
    by_cases h0 : p.at_ = i
    · have ea : a = 0 := by rw [h0] at ha; omega
      have eb : b = 0 := by rw [h0] at hb; split at hb <;> omega
      have eJ : J = j := by omega
      subst eJ
      rw [h0] at hA hbar
      exact ⟨M, _, by omega, hA, hbar, .inr hnm, hsc2, hmap⟩
    · refine ⟨i, _, Nat.le_refl _, ⟨by omega, by omega, fun k hk => by omega⟩, ?_, .inl rfl, hsc2, hmap⟩
      rw [Nat.sub_self, Nat.add_zero]
      by_cases ha0 : 0 < a
      · have := g10 0 ha0
        rw [Nat.add_zero] at this
        rw [this]; decide
      · have ea : a = 0 := by omega
        by_cases hb0 : 0 < b
        · have := g32 0 hb0
          simp only [ea, Nat.add_zero] at this
          rw [this]; decide
        · have eJ : J = j := by omega
          rw [eJ, hp] at hpj
          exact absurd (pos_inj s hpj).symm h0

theorem PInv.zero (s : ByteArray) : PInv s 0 0 ⟨1, 1, []⟩ := ⟨Nat.le_refl _, Nat.zero_le _, rfl, Int.le_refl _, by show (1 : Int) ≤ 1 + _; omega, by simp⟩
structure BackOf (T : ByteArray) (ts : List Tk) (out : List Tk) : Prop where
  tok : tokens T = .ok out
  like : likeL out ts = true
  at_ : ∀ (i : Nat) (x y : Tk), out[i]? = some x → ts[i]? = some y → x.line = y.line ∧ x.col = y.col
/-- the tokens of a text, placed anew -/
structure PlaceOf (s : ByteArray) (ts : List Tk) : Prop where
  n : ts.length ≤ 3000
  v : ∀ t ∈ ts, ValidT t
  bd : ∀ t ∈ ts, t.at_ ≤ t.en ∧ t.en ≤ s.size
  fit : ∀ (i : Nat) (x : Tk), ts[i]? = some x → ¬ Cf (PS.gat ts i) x → (PS.gat ts i).GFits x
  len : (PS.gat ts ts.length).t.length ≤ 40000
  ok : (∀ x ∈ ts, s.extract x.at_ x.en = spellF x) → (∀ (i : Nat) (x : Tk), ts[i]? = some x → ¬ Cf (PS.gat ts i) x) ∧ ∃ out, BackOf ⟨(PS.gat ts ts.length).t.toArray⟩ ts out
theorem place_of {s : ByteArray} (hs : s.size ≤ 3000) {ts : List Tk} (h : tokens s = .ok ts) : PlaceOf s ts := by
  obtain ⟨l, ys, hsc, rfl⟩ := sc_of_tokens h
  have hlen := hsc.len
  have hbd : ∀ p ∈ l, TkIn s p := fun p hp => by obtain ⟨m1, m2, m3⟩ := hsc.mem p hp; exact ⟨m1, m2, m3⟩
  have hfull : ((l.map (placed s)).take (l.map (placed s)).length) = l.map (placed s) := List.take_length
  have hle : (PS.gat (l.map (placed s)) (l.map (placed s)).length).t.length ≤ 40000 := by
    obtain ⟨a, e, hI⟩ := inv_end l 0 0 _ ys hsc (PInv.zero s)
    unfold PS.gat
    rw [hfull]
    have h1 := hI.t
    have h2 := hI.ae
    have h3 := hI.es
    omega
  refine ⟨by simp; omega, tokens_valid (by omega) h, ?_, ?_, hle, ?_⟩
  · intro t ht
    obtain ⟨p, hp, rfl⟩ := List.mem_map.1 ht
    have := (hbd p hp).bd
    exact ⟨Nat.le_of_lt this.1, this.2.1⟩
  · intro i x hx hc
    rw [List.getElem?_map] at hx
    rcases hp : l[i]? with _ | p
    · rw [hp] at hx; cases hx
    · rw [hp] at hx
      injection hx with hx
      subst hx
      obtain ⟨a, e, hI, he⟩ := inv_all l 0 0 _ ys hsc (PInv.zero s) i p hp
      obtain ⟨b1, b2, b3⟩ := (hbd p (List.mem_of_getElem? hp)).bd
      exact hI.fits hs he b1 b2 b3 hc
  · intro hm
    have hm' : ∀ p ∈ l, s.extract p.at_ p.en = spellF p := fun p hp => (hm (placed s p) (List.mem_map.2 ⟨p, hp, rfl⟩)).trans (placed_spell s p)
    refine ⟨fun i x hx => ?_, ?_⟩
    · rw [List.getElem?_map] at hx
      rcases hp : l[i]? with _ | p
      · rw [hp] at hx; cases hx
      · rw [hp] at hx
        injection hx with hx
        subst hx
        exact no_cf l 0 _ ys hsc hm' rfl rfl i p hp
    · obtain ⟨T, hT⟩ : ∃ T : ByteArray, T = ⟨(PS.gat (l.map (placed s)) (l.map (placed s)).length).t.toArray⟩ := ⟨_, rfl⟩
      have hTs : T.size ≤ 40000 := by rw [hT]; exact hle
      rw [← hT]
      obtain ⟨M, qs, _, _, _, _, h5, h6⟩ := rest_sc (T := T) l 0 0 ⟨1, 1, []⟩ ys hsc (Nat.zero_le _) hm' rfl rfl rfl (Nat.zero_le _) (by
        rw [hT, List.drop_zero]
        show (PS.gat _ _).t = _
        unfold PS.gat
        rw [hfull, gRest_eq]; rfl)
      have hql : qs.length = l.length := by have := congrArg List.length h6; simpa using this
      refine ⟨qs.map (placed T), tokens_of_sc (by omega) h5 (by omega), likeL_key ?_, fun i x y hx hy => ?_⟩
      · rw [List.map_map, List.map_map]
        have := congrArg (List.map Prod.fst) h6
        rw [List.map_map, List.map_map] at this
        exact this
      · rw [List.getElem?_map] at hx hy
        have h7 := congrArg (fun r => r[i]?) h6
        simp only [List.getElem?_map] at h7
        rcases hq : qs[i]? with _ | q
        · rw [hq] at hx; cases hx
        · rcases hp : l[i]? with _ | p
          · rw [hp] at hy; cases hy
          · rw [hq] at hx h7
            rw [hp] at hy h7
            injection hx with hx
            injection hy with hy
            subst hx hy
            simp only [Option.map_some] at h7
            injection h7 with h7
            injection h7 with _ h7
            show (pos T q.at_).1 = (pos s p.at_).1 ∧ (pos T q.at_).2 = (pos s p.at_).2
            rw [h7]; exact ⟨rfl, rfl⟩
end Go.Proofs.YtagcfgoofiibfaaGreatDoor
