/- The lexer and what it reaches: part 15 of 41: N0, N1. -/
import Derived.Test.YtagcfgoofiibfaaGreatDoorG04
set_option linter.unusedVariables false
set_option linter.unusedSimpArgs false
namespace Go.Proofs.YtagcfgoofiibfaaGreatDoor
open Go.RowKit
set_option exponentiation.threshold 400

/-- the number of parts -/
def numL : List Int → Nat
  | [] => 0
  | d :: l => d.toNat + 1000000000 * numL l
/-- parts are within the base -/
def InB (l : List Int) : Prop := ∀ d ∈ l, 0 ≤ d ∧ d < 1000000000
/-- no zero at the end -/
def NoZ (l : List Int) : Prop := l.getLast? ≠ some 0

theorem numL_snoc (l : List Int) (d : Int) : numL (l ++ [d]) = numL l + 1000000000 ^ l.length * d.toNat := by
  induction l with
  | nil => simp [numL]
  | cons x l ih =>
    simp only [List.cons_append, numL, ih, List.length_cons, Nat.pow_succ]
    rw [Nat.mul_add, ← Nat.add_assoc, Nat.mul_comm (1000000000 ^ l.length) 1000000000, ← Nat.mul_assoc]
theorem numL_lt : ∀ (l : List Int), InB l → numL l < 1000000000 ^ l.length
  | [], _ => by simp [numL]
  | d :: l, h => by
    have ih := numL_lt l (fun x hx => h x (List.mem_cons_of_mem _ hx))
    have h1 := h d (by simp)
    simp only [numL, List.length_cons, Nat.pow_succ]
    have : d.toNat < 1000000000 := by omega
    have : 1000000000 * (numL l + 1) ≤ 1000000000 * 1000000000 ^ l.length := Nat.mul_le_mul_left _ ih
    rw [Nat.mul_comm (1000000000 ^ l.length)]
    omega
theorem InB.tail {d : Int} {l : List Int} (h : InB (d :: l)) : InB l := fun x hx => h x (List.mem_cons_of_mem _ hx)
theorem InB.snoc {d : Int} {l : List Int} (h : InB l) (h0 : 0 ≤ d) (h1 : d < 1000000000) : InB (l ++ [d]) := by
  intro x hx
  rcases List.mem_append.1 hx with hx | hx
  · exact h x hx
  · simp only [List.mem_singleton] at hx; subst hx; exact ⟨h0, h1⟩
theorem InB.init {d : Int} {l : List Int} (h : InB (l ++ [d])) : InB l := fun x hx => h x (List.mem_append_left _ hx)

theorem limbsF_inB : ∀ (f n : Nat), InB (limbsF f n)
  | 0, _ => by intro x hx; cases hx
  | f + 1, n => by
    simp only [limbsF]
    split
    · intro x hx; cases hx
    · intro x hx
      rcases List.mem_cons.1 hx with rfl | hx
      · have := Nat.mod_lt n (show 0 < 1000000000 by decide)
        omega
      · exact limbsF_inB f _ x hx
theorem limbsF_num : ∀ (f n : Nat), n < 1000000000 ^ f → numL (limbsF f n) = n
  | 0, n, h => by simp at h; subst h; rfl
  | f + 1, n, h => by
    simp only [limbsF]
    split
    · rename_i h0; rw [h0]; rfl
    · simp only [numL]
      rw [limbsF_num f _ (by rw [Nat.pow_succ] at h; exact Nat.div_lt_of_lt_mul (by rwa [Nat.mul_comm] at h))]
      have := Nat.div_add_mod n 1000000000
      omega
theorem limbsF_zero (f : Nat) : limbsF f 0 = [] := by cases f <;> simp [limbsF]
theorem limbsF_pos (f n : Nat) (hn : 0 < n) (hf : n < 1000000000 ^ f) : limbsF f n ≠ [] := by
  intro h
  have := limbsF_num f n hf
  rw [h] at this; simp [numL] at this; omega
theorem limbsF_noZ : ∀ (f n : Nat), n < 1000000000 ^ f → NoZ (limbsF f n)
  | 0, _, _ => by simp [limbsF, NoZ]
  | f + 1, n, h => by
    simp only [limbsF]
    split
    · simp [NoZ]
    · rename_i h0
      have h1 : n / 1000000000 < 1000000000 ^ f := by rw [Nat.pow_succ] at h; exact Nat.div_lt_of_lt_mul (by rwa [Nat.mul_comm] at h)
      by_cases hz : n / 1000000000 = 0
      · rw [hz, limbsF_zero]
        simp only [NoZ, List.getLast?_singleton, ne_eq, Option.some.injEq]
        have := Nat.div_add_mod n 1000000000
        omega
      · have ih := limbsF_noZ f _ h1
        have hne := limbsF_pos f _ (by omega) h1
        unfold NoZ at ih ⊢
        rw [List.getLast?_cons]
        rcases hl : (limbsF f (n / 1000000000)).getLast? with _ | z
        · exact absurd (List.getLast?_eq_none_iff.1 hl) hne
        · rw [hl] at ih; simpa using ih
/-- what has these parts -/
theorem parts_unique : ∀ (f : Nat) (l : List Int), InB l → NoZ l → l.length ≤ f → limbsF f (numL l) = l
  | 0, l, _, _, hl => by
    have : l = [] := List.length_eq_zero_iff.1 (by omega)
    subst this; rfl
  | f + 1, [], _, _, _ => by simp [limbsF, numL]
  | f + 1, d :: l, hb, hz, hl => by
    have h1 := hb d (by simp)
    have ht := hb.tail
    have hzt : NoZ l := by
      unfold NoZ at hz ⊢
      rw [List.getLast?_cons] at hz
      rcases hq : l.getLast? with _ | z
      · simp
      · rw [hq] at hz; simpa using hz
    have hne : numL (d :: l) ≠ 0 := by
      intro h0
      simp only [numL] at h0
      have hd : d = 0 := by omega
      have hn : numL l = 0 := by omega
      have hl0 : l = [] := by
        have := parts_unique f l ht hzt (by simpa using hl)
        rw [hn, limbsF_zero] at this; exact this.symm
      subst hl0 hd
      simp [NoZ] at hz
    simp only [limbsF]
    rw [if_neg hne]
    simp only [numL]
    have e1 : (d.toNat + 1000000000 * numL l) % 1000000000 = d.toNat := by omega
    have e2 : (d.toNat + 1000000000 * numL l) / 1000000000 = numL l := by omega
    rw [e1, e2, parts_unique f l ht hzt (by simpa using hl)]
    congr 1; omega
theorem limbs_of (l : List Int) (hb : InB l) (hz : NoZ l) (hl : l.length ≤ 45) : limbs (numL l) = l := parts_unique 45 l hb hz hl

theorem limbsF_len : ∀ (f k n : Nat), n < 1000000000 ^ k → (limbsF f n).length ≤ k
  | 0, _, _, _ => by simp [limbsF]
  | f + 1, k, n, h => by
    simp only [limbsF]
    split
    · simp
    · rename_i h0
      rcases k with _ | k
      · simp at h; omega
      · have h1 : n / 1000000000 < 1000000000 ^ k := by rw [Nat.pow_succ] at h; exact Nat.div_lt_of_lt_mul (by rwa [Nat.mul_comm] at h)
        have := limbsF_len f k _ h1
        simp; omega

/-- zeros at the end taken away -/
def trimL (l : List Int) : List Int := (l.reverse.dropWhile (· == 0)).reverse
theorem trimL_snoc0 (l : List Int) : trimL (l ++ [0]) = trimL l := by simp [trimL]
theorem trimL_done (l : List Int) (h : NoZ l) : trimL l = l := by
  unfold trimL
  rcases hr : l.reverse with _ | ⟨x, r⟩
  · have : l = [] := by simpa using hr
    subst this; rfl
  · have hl : l = r.reverse ++ [x] := by rw [← List.reverse_reverse l, hr]; simp
    have hx : x ≠ 0 := by
      intro h0
      apply h
      rw [hl, h0]; simp
    rw [List.dropWhile_cons, if_neg (by simpa using hx), hl]; simp
theorem trimL_noZ (l : List Int) : NoZ (trimL l) := by
  unfold trimL NoZ
  intro h
  rcases hd : l.reverse.dropWhile (· == 0) with _ | ⟨x, r⟩
  · rw [hd] at h; simp at h
  · rw [hd] at h
    simp at h
    subst h
    have := List.head?_dropWhile_not (fun x : Int => x == 0) l.reverse
    rw [hd] at this
    simp at this
theorem snoc_of (l : List Int) (h : l ≠ []) : ∃ r x, l = r ++ [x] := ⟨l.dropLast, l.getLast h, (List.dropLast_concat_getLast h).symm⟩
theorem trimL_num (l : List Int) : numL (trimL l) = numL l := by
  induction hn : l.length generalizing l with
  | zero => have : l = [] := List.length_eq_zero_iff.1 hn; subst this; rfl
  | succ n ih =>
    obtain ⟨r, x, rfl⟩ := snoc_of l (by intro h; subst h; simp at hn)
    by_cases hx : x = 0
    · subst hx
      rw [trimL_snoc0, ih r (by simpa using hn), numL_snoc]; simp
    · rw [trimL_done]
      simp [NoZ, hx]
theorem trimL_inB (l : List Int) (h : InB l) : InB (trimL l) := by
  intro x hx
  unfold trimL at hx
  rw [List.mem_reverse] at hx
  exact h x (List.mem_reverse.1 ((List.dropWhile_sublist _).subset hx))
theorem trimL_len (l : List Int) : (trimL l).length ≤ l.length := by
  unfold trimL
  rw [List.length_reverse]
  have := (List.dropWhile_sublist (· == (0:Int)) (l := l.reverse)).length_le
  simpa using this
theorem trimL_limbs (l : List Int) (h : InB l) (hl : l.length ≤ 45) : trimL l = limbs (numL l) := by
  rw [← trimL_num l]
  exact (limbs_of _ (trimL_inB l h) (trimL_noZ l) (by have := trimL_len l; omega)).symm

theorem limbs_inB (n : Nat) : InB (limbs n) := limbsF_inB 45 n
theorem big_lt : big < 1000000000 ^ 45 := by decide
theorem limbs_num (n : Nat) (h : n < 1000000000 ^ 45) : numL (limbs n) = n := limbsF_num 45 n h
theorem limbs_noZ (n : Nat) (h : n < 1000000000 ^ 45) : NoZ (limbs n) := limbsF_noZ 45 n h
theorem limbs_len40 (n : Nat) (h : n < big) : (limbs n).length ≤ 40 := limbsF_len 45 40 n (by exact h)
theorem limbs_big (n : Nat) (h : n < 1000000000 ^ 45) (hb : big ≤ n) : 40 < (limbs n).length := by
  rcases Nat.lt_or_ge 40 (limbs n).length with h1 | h1
  · exact h1
  · exfalso
    have h2 := numL_lt _ (limbs_inB n)
    rw [limbs_num n h] at h2
    have h3 : 1000000000 ^ (limbs n).length ≤ 1000000000 ^ 40 := Nat.pow_le_pow_right (by decide) h1
    have h4 : big = 1000000000 ^ 40 := by decide
    omega
end Go.Proofs.YtagcfgoofiibfaaGreatDoor
namespace Go.Proofs.YtagcfgoofiibfaaGreatDoor
open Go.RowKit

/-- a part, 0 beyond the end -/
def atL (l : List Int) (i : Nat) : Int := l.getD i 0
theorem atL_in (l : List Int) (i : Nat) (h : InB l) : 0 ≤ atL l i ∧ atL l i < 1000000000 := by
  unfold atL
  rw [List.getD_eq_getElem?_getD]
  rcases hq : l[i]? with _ | x
  · simp
  · exact h x (List.mem_of_getElem? hq)
theorem numL_take : ∀ (l : List Int) (i : Nat), numL (l.take (i + 1)) = numL (l.take i) + 1000000000 ^ i * (atL l i).toNat
  | [], i => by simp [numL, atL]
  | d :: l, 0 => by simp [numL, atL]
  | d :: l, i + 1 => by
    have ih := numL_take l i
    have e : atL (d :: l) (i + 1) = atL l i := by simp [atL]
    rw [e]
    simp only [List.take_succ_cons, numL] at ih ⊢
    rw [ih, Nat.mul_add, ← Nat.add_assoc, Nat.pow_succ, Nat.mul_comm (1000000000 ^ i) 1000000000, Nat.mul_assoc]
theorem numL_takeAll (l : List Int) (i : Nat) (h : l.length ≤ i) : numL (l.take i) = numL l := by rw [List.take_of_length_le h]

/-- a sum while it is being made -/
def SumTo (s t : List Int) (i : Nat) (out : List Int) (c : Nat) : Prop := out.length = i ∧ InB out ∧ c ≤ 1 ∧ numL out + 1000000000 ^ i * c = numL (s.take i) + numL (t.take i)
theorem SumTo.start (s t : List Int) : SumTo s t 0 [] 0 := ⟨rfl, by (intro x hx; cases hx), by omega, by simp [numL]⟩
theorem SumTo.step {s t : List Int} {i : Nat} {out : List Int} {c : Nat} (h : SumTo s t i out c) (hs : InB s) (ht : InB t) :
    SumTo s t (i + 1) (out ++ [((((atL s i).toNat + (atL t i).toNat + c) % 1000000000 : Nat) : Int)]) (((atL s i).toNat + (atL t i).toNat + c) / 1000000000) := by
  obtain ⟨h1, h2, h3, h4⟩ := h
  have q1 := atL_in s i hs
  have q2 := atL_in t i ht
  generalize hx : (atL s i).toNat + (atL t i).toNat + c = x
  have hm := Nat.mod_lt x (show 0 < 1000000000 by decide)
  refine ⟨by simp [h1], h2.snoc (by omega) (by omega), by omega, ?_⟩
  rw [numL_snoc, h1, numL_take, numL_take, Nat.pow_succ]
  have e1 : (((x % 1000000000 : Nat) : Int)).toNat = x % 1000000000 := by omega
  rw [e1]
  have e2 : 1000000000 ^ i * (x % 1000000000) + 1000000000 ^ i * 1000000000 * (x / 1000000000) = 1000000000 ^ i * x := by
    rw [Nat.mul_assoc, ← Nat.mul_add, Nat.mod_add_div]
  have e3 : 1000000000 ^ i * x = 1000000000 ^ i * (atL s i).toNat + 1000000000 ^ i * (atL t i).toNat + 1000000000 ^ i * c := by
    rw [← hx, Nat.mul_add, Nat.mul_add]
  omega
theorem SumTo.done {s t : List Int} {i : Nat} {out : List Int} {c : Nat} (h : SumTo s t i out c) (hs : s.length ≤ i) (ht : t.length ≤ i) : InB (out ++ [(c : Int)]) ∧ numL (out ++ [(c : Int)]) = numL s + numL t := by
  obtain ⟨h1, h2, h3, h4⟩ := h
  refine ⟨h2.snoc (by omega) (by omega), ?_⟩
  rw [numL_snoc, h1, numL_takeAll s i hs, numL_takeAll t i ht] at *
  simpa using h4

/-- a product with one part, while it is being made -/
def MulTo (s : List Int) (by_ : Nat) (i : Nat) (out : List Int) (c : Nat) : Prop := out.length = i ∧ InB out ∧ c < 1000000000 ∧ numL out + 1000000000 ^ i * c = numL (s.take i) * by_
theorem MulTo.start (s : List Int) (b : Nat) : MulTo s b 0 [] 0 := ⟨rfl, by (intro x hx; cases hx), by omega, by simp [numL]⟩
theorem mul_bd (a b c : Nat) (ha : a < 1000000000) (hb : b < 1000000000) (hc : c < 1000000000) : a * b + c < 1000000000000000000 := by
  have : a * b ≤ 999999999 * 999999999 := Nat.mul_le_mul (by omega) (by omega)
  omega
theorem MulTo.step {s : List Int} {b i : Nat} {out : List Int} {c : Nat} (h : MulTo s b i out c) (hs : InB s) (hb : b < 1000000000) :
    MulTo s b (i + 1) (out ++ [((((atL s i).toNat * b + c) % 1000000000 : Nat) : Int)]) (((atL s i).toNat * b + c) / 1000000000) := by
  obtain ⟨h1, h2, h3, h4⟩ := h
  have q1 := atL_in s i hs
  have q2 := mul_bd (atL s i).toNat b c (by omega) hb h3
  generalize hx : (atL s i).toNat * b + c = x at q2
  have hm := Nat.mod_lt x (show 0 < 1000000000 by decide)
  refine ⟨by simp [h1], h2.snoc (by omega) (by omega), by omega, ?_⟩
  rw [numL_snoc, h1, numL_take, Nat.pow_succ]
  have e1 : (((x % 1000000000 : Nat) : Int)).toNat = x % 1000000000 := by omega
  rw [e1]
  have e2 : 1000000000 ^ i * (x % 1000000000) + 1000000000 ^ i * 1000000000 * (x / 1000000000) = 1000000000 ^ i * x := by
    rw [Nat.mul_assoc, ← Nat.mul_add, Nat.mod_add_div]
  have e3 : 1000000000 ^ i * x = 1000000000 ^ i * ((atL s i).toNat * b) + 1000000000 ^ i * c := by
    rw [← hx, Nat.mul_add]
  rw [Nat.add_mul, Nat.mul_assoc (1000000000 ^ i) (atL s i).toNat b]
  omega
theorem MulTo.done {s : List Int} {b i : Nat} {out : List Int} (h : MulTo s b i out 0) (hs : s.length ≤ i) : InB out ∧ numL out = numL s * b := by
  obtain ⟨h1, h2, h3, h4⟩ := h
  refine ⟨h2, ?_⟩
  rw [numL_takeAll s i hs] at h4
  simpa using h4
/-- how many rounds at most -/
theorem MulTo.len {s : List Int} {b i : Nat} {out : List Int} {c : Nat} (h : MulTo s b i out c) (hs : InB s) (hb : b < 1000000000) (hi : s.length ≤ i) (hc : 0 < c) : i ≤ s.length := by
  obtain ⟨h1, h2, h3, h4⟩ := h
  rcases Nat.lt_or_ge s.length i with hl | hl
  · exfalso
    rw [numL_takeAll s i hi] at h4
    have h5 := numL_lt s hs
    have h6 : 1000000000 ^ i * 1 ≤ 1000000000 ^ i * c := Nat.mul_le_mul_left _ hc
    have h7 : numL s * b < 1000000000 ^ s.length * 1000000000 := by
      have : numL s * b ≤ numL s * 999999999 := Nat.mul_le_mul_left _ (by omega)
      omega
    have h8 : 1000000000 ^ s.length * 1000000000 ≤ 1000000000 ^ i := by
      rw [← Nat.pow_succ]; exact Nat.pow_le_pow_right (by decide) hl
    omega
  · exact hl
/-- what value has read of digits -/
def wts (b : Nat) : List UInt8 → Nat → Nat → Nat × Nat
  | [], p, q => (p, q)
  | c :: l, p, q => wts b l (p * b + (wrth (c.toNat : Int)).toNat) (q * b)
theorem valN_some (b : Int) : ∀ (l : List UInt8) (n : Nat) (r : Nat), valN b l n = some r → n ≤ r ∨ b.toNat = 0
  | [], n, r, h => by simp only [valN, Option.some.injEq] at h; omega
  | c :: l, n, r, h => by
    simp only [valN] at h
    split at h
    · cases h
    · rcases valN_some b l _ r h with h1 | h1
      · rcases Nat.eq_zero_or_pos b.toNat with h2 | h2
        · exact .inr h2
        · left
          have : n * 1 ≤ n * b.toNat := Nat.mul_le_mul_left _ h2
          omega
      · exact .inr h1
end Go.Proofs.YtagcfgoofiibfaaGreatDoor
