/- The law LexBackP: its walk and its statement: Q9, Q10, Q12, Q13, Q14, Q15, Q16, Q17, Q18, Q19, Q21, Q22. -/
import Derived.Test.YtagcfgoofiibfaaGreatDoorG36
import Derived.Test.YtagcfgoofiibfaaGreatDoorG37
import Derived.Test.YtagcfgoofiibfaaGreatDoorG15
import Derived.Lib.ItoaNum
set_option linter.unusedVariables false
set_option linter.unusedSimpArgs false
namespace Go.Proofs.YtagcfgoofiibfaaGreatDoor
open Go Go.RowKit
def prevEn (l : List Tk) : Nat → Nat
  | 0 => 0
  | k + 1 => match l[k]? with
    | some t => t.en
    | none => 0
structure WithinAt (s : ByteArray) (a : Nat) (x : Tk) : Prop where
  ap : a ≤ x.at_
  lt : x.at_ < x.en
  le : x.en ≤ s.size
  own : ∃ y, tokens (s.extract x.at_ x.en) = .ok [y] ∧ y.k = x.k ∧ y.s = x.s ∧ y.d = x.d ∧ y.at_ = 0 ∧ y.en = (s.extract x.at_ x.en).size
  loc : pos s x.at_ = (x.line, x.col)
  bet : tokens (s.extract a x.at_) = .ok []
end Go.Proofs.YtagcfgoofiibfaaGreatDoor
namespace Go.Proofs.YtagcfgoofiibfaaGreatDoor
open Go Go.RowKit
def Tk.key (t : Tk) : Int × ByteArray × List Int := (t.k, t.s, t.d)
theorem Tk.key_mv (t : Tk) (j : Nat) : (t.mv j).key = t.key := rfl
theorem Tk.key_placed (s : ByteArray) (t : Tk) : (placed s t).key = t.key := rfl
structure GapB (κ : ByteArray) : Prop where
  g : Gap κ
  p : 0 < κ.size
  b : bar (bt κ 0) = true
def bl (s : ByteArray) (κ : Nat → ByteArray) : List Tk → Nat → ByteArray
  | [], _ => ByteArray.empty
  | p :: ps, i => (s.extract p.at_ p.en ++ κ (i + 1)) ++ bl s κ ps (i + 1)
theorem agr_parts {a b t : ByteArray} {x : Nat} (H : Agr (a ++ b) t 0 x (a ++ b).size) : Agr a t 0 x a.size ∧ Agr b t 0 (x + a.size) b.size := by
  have h1 := H.lt
  have h0 := ByteArray.size_append (a := a) (b := b)
  refine ⟨⟨by omega, by omega, fun k hk => ?_⟩, ⟨by omega, by omega, fun k hk => ?_⟩⟩
  · rw [H.b k (by omega)]; simp only [Nat.zero_add]; rw [bt_app1 _ _ _ hk]
  · rw [show x + a.size + k = x + (a.size + k) by omega, H.b (a.size + k) (by omega)]; simp only [Nat.zero_add]; rw [bt_app2]
theorem bl_placed (s : ByteArray) (κ : Nat → ByteArray) : ∀ (ps : List Tk) (i : Nat), bl s κ (ps.map (placed s)) i = bl s κ ps i
  | [], _ => rfl
  | p :: ps, i => by simp only [List.map_cons, bl]; rw [bl_placed s κ ps (i + 1)]; rfl
def gapRows : List ByteArray := [⟨#[32]⟩, ⟨#[9]⟩, ⟨#[10]⟩, ⟨#[32, 13, 10]⟩, ⟨#[32, 40, 42, 42, 41]⟩, ⟨#[40, 42, 32, 97, 32, 40, 42, 32, 34, 32, 42, 41, 32, 42, 41, 32]⟩, ⟨#[32, 92, 42, 32, 40, 42, 32, 34, 10]⟩, ⟨#[32, 32]⟩]
theorem gapRows_ok : gapRows.all (fun κ => gapOk κ && decide (0 < κ.size) && bar (bt κ 0) && decide (κ.size ≤ 16)) = true := by decide +kernel
end Go.Proofs.YtagcfgoofiibfaaGreatDoor
namespace Go.Proofs.YtagcfgoofiibfaaGreatDoor
open Go Go.RowKit
theorem quo_k (s : ByteArray) (i : Nat) (p : Tk) : ∀ (f k : Nat) (o : List UInt8), quo s i f k o = .ok p → p.k = 3 ∧ p.d = []
  | 0, _, _, h => by simp only [quo] at h; cases h
  | f + 1, k, o, h => by
    simp only [quo] at h
    split at h
    · cases h
    · split at h
      · split at h
        · cases h
        · injection h with h; subst h; exact ⟨rfl, rfl⟩
      · split at h
        · split at h
          · split at h
            · cases h
            · exact quo_k s i p f _ _ h
          · cases h
        · split at h
          · cases h
          · exact quo_k s i p f _ _ h
theorem sgn_k (s : ByteArray) (i : Nat) (p : Tk) (N : Nat) (h : sgn s i N = .ok p) : p.k = 5 ∧ p.d = [] := by
  obtain ⟨L, c, _, _, rfl, _⟩ := sgn_ok s i p N h
  exact ⟨rfl, rfl⟩
theorem signs_len40 : signsL.all (fun p => decide (p.1.length ≤ 40)) = true := by decide +kernel
theorem canon_size {w c : ByteArray} (h : canonOf w = some c) : w.size ≤ 40 := by
  obtain ⟨q, hq, he⟩ := canonOf_mem h
  have := List.all_eq_true.1 signs_len40 q hq
  rw [he] at this
  have e : w.size = w.data.toList.length := by rw [Array.length_toList]; rfl
  rw [e]; simpa using this
theorem likeL_key : ∀ {a b : List Tk}, a.map Tk.key = b.map Tk.key → likeL a b = true
  | [], [], _ => rfl
  | [], b :: bs, h => by simp at h
  | a :: as', [], h => by simp at h
  | a :: as', b :: bs', h => by
    simp only [List.map_cons, List.cons.injEq] at h
    obtain ⟨h1, h2⟩ := h
    unfold Tk.key at h1
    injection h1 with k1 h1
    injection h1 with k2 k3
    simp only [likeL, likeL_key h2, likeF, k1, k2, k3]
    simp
theorem tokens_of_sc {s : ByteArray} (hs : s.size ≤ 100000) {ps : List Tk} {ys : List (Nat × Nat)} (h : Sc s 0 ps ys) (hl : ps.length ≤ 20000) : tokens s = .ok (ps.map (placed s)) := by
  unfold tokens
  rw [if_neg (by omega), (scan_ok_iff s ps ys).2 h]
  show (if 20000 < ps.length then _ else _) = _
  rw [if_neg (by omega)]
theorem sc_of_tokens {s : ByteArray} {ts : List Tk} (h : tokens s = .ok ts) : ∃ ps ys, Sc s 0 ps ys ∧ ts = ps.map (placed s) := by
  unfold tokens at h
  split at h
  · cases h
  · rcases hs : scan s with e | ⟨ps, ys⟩
    · rw [hs] at h; cases h
    · rw [hs] at h
      change (if 20000 < ps.length then _ else _) = _ at h
      split at h
      · cases h
      · injection h with h
        exact ⟨ps, ys, (scan_ok_iff s ps ys).1 hs, h.symm⟩
end Go.Proofs.YtagcfgoofiibfaaGreatDoor
namespace Go.Proofs.YtagcfgoofiibfaaGreatDoor
open Go Go.RowKit
set_option exponentiation.threshold 400
def escB (b : UInt8) : List UInt8 := if b = 34 ∨ b = 92 then [92, b] else if b = 9 then [92, 116] else if b = 10 then [92, 110] else if b = 12 then [92, 102] else if b = 13 then [92, 114] else [b]
def spellF (t : Tk) : ByteArray :=
  if t.k = 2 then ⟨(Lib.decDigits (numL t.d)).toArray⟩
  else if t.k = 3 then ⟨(34 :: (t.s.data.toList.flatMap escB ++ [34])).toArray⟩
  else if t.k = 6 then ⟨#[45, 45, 45, 45]⟩
  else if t.k = 7 then ⟨#[61, 61, 61, 61]⟩
  else t.s
theorem spellF_key {a b : Tk} (h : a.key = b.key) : spellF a = spellF b := by
  unfold Tk.key at h
  injection h with h1 h2
  injection h2 with h2 h3
  unfold spellF; rw [h1, h2, h3]
theorem valN_app (b : Int) : ∀ (l m : List UInt8) (n : Nat), valN b (l ++ m) n = (valN b l n).bind (valN b m)
  | [], m, n => rfl
  | c :: l, m, n => by
    simp only [List.cons_append, valN]
    split
    · rfl
    · exact valN_app b l m _
theorem dig_val (c : UInt8) (h : 48 ≤ c.toNat) (h2 : c.toNat ≤ 57) : wrth (c.toNat : Int) = (c.toNat : Int) - 48 := by
  unfold wrth dgt
  have h3 : (decide ((48 : Int) ≤ (c.toNat : Int)) && decide ((c.toNat : Int) ≤ 57)) = true := by simp; omega
  rw [if_pos h3]
theorem dig_byte (u : Nat) (h : u < 10) : (UInt8.ofNat (48 + u)).toNat = 48 + u := by simp; omega
theorem dec_digits (u : Nat) : ∀ c ∈ Lib.decDigits u, 48 ≤ c.toNat ∧ c.toNat ≤ 57 := by
  induction u using Nat.strongRecOn with
  | _ u ih =>
    intro c hc
    rw [Lib.decDigits] at hc
    split at hc
    · rename_i h
      simp only [List.mem_singleton] at hc
      subst hc
      rw [dig_byte u h]; omega
    · rename_i h
      rcases List.mem_append.1 hc with hc | hc
      · exact ih (u / 10) (by omega) c hc
      · simp only [List.mem_singleton] at hc
        subst hc
        rw [dig_byte _ (by omega)]; omega
theorem valN_dec (u : Nat) : valN 10 (Lib.decDigits u) 0 = some u := by
  induction u using Nat.strongRecOn with
  | _ u ih =>
    have step : ∀ (d n : Nat), d < 10 → valN 10 [UInt8.ofNat (48 + d)] n = some (n * 10 + d) := fun d n hd => by
      simp only [valN]
      rw [dig_val _ (by rw [dig_byte d hd]; omega) (by rw [dig_byte d hd]; omega), dig_byte d hd, if_neg (by omega)]
      congr 1
      show n * 10 + (((48 + d : Nat) : Int) - 48).toNat = _
      omega
    rw [Lib.decDigits]
    split
    · rename_i h; rw [step u 0 h]; congr 1; omega
    · rename_i h
      rw [valN_app, ih (u / 10) (by omega)]
      show valN 10 [UInt8.ofNat (48 + u % 10)] (u / 10) = _
      rw [step _ _ (by omega)]; congr 1; omega
theorem valN_lt : ∀ (l : List UInt8) (n v : Nat), valN 10 l n = some v → v < (n + 1) * 10 ^ l.length
  | [], n, v, h => by simp only [valN] at h; injection h with h; subst h; simp
  | c :: l, n, v, h => by
    simp only [valN] at h
    split at h
    · cases h
    · rename_i hc
      have ih := valN_lt l _ v h
      rw [List.length_cons, Nat.pow_succ]
      have : (wrth (c.toNat : Int)).toNat < 10 := by omega
      have e : (10 : Int).toNat = 10 := rfl
      rw [e] at ih
      refine Nat.lt_of_lt_of_le ih ?_
      rw [Nat.mul_comm (10 ^ l.length) 10, ← Nat.mul_assoc]
      exact Nat.mul_le_mul_right _ (by omega)
theorem nDig_le : ∀ (m v : Nat), 1 ≤ m → v < 10 ^ m → Lib.nDigits v ≤ m
  | 0, v, h, _ => by omega
  | m + 1, v, _, h => by
    by_cases hv : v < 10
    · rw [Lib.nDigits_small hv]; omega
    · rw [Lib.nDigits_big hv]
      rcases m with _ | m
      · simp at h; omega
      · have := nDig_le (m + 1) (v / 10) (by omega) (by rw [Nat.pow_succ] at h; omega)
        omega
theorem escF_len (b c : Int) (h : escF b = some c) : (escB c.toNat.toUInt8).length = 2 ∧ (c = 34 ∨ c = 92 ∨ c = 9 ∨ c = 10 ∨ c = 12 ∨ c = 13) := by
  unfold escF at h
  (repeat' split at h) <;> first | (cases h; done) | (injection h with h; subst h; decide)
theorem plain_len (s : ByteArray) (k : Nat) (h1 : bt s k ≠ 34) (h2 : bt s k ≠ 92) (h3 : 32 ≤ bt s k) : (escB (bt s k).toNat.toUInt8).length = 1 := by
  have h4 := bt_hi s k
  obtain ⟨n, hn⟩ : ∃ n : Nat, bt s k = (n : Int) := ⟨(bt s k).toNat, by omega⟩
  rw [hn] at h1 h2 h3 h4 ⊢
  have e : ((n : Int).toNat.toUInt8).toNat = n := by
    show (UInt8.ofNat n).toNat = n
    simp; omega
  generalize (n : Int).toNat.toUInt8 = c at e
  have hne : ∀ d : UInt8, d.toNat ≠ n → c ≠ d := fun d hd hc => hd (by rw [← hc, e])
  unfold escB
  rw [if_neg (by rintro (q | q); exact hne 34 (by show 34 ≠ n; omega) q; exact hne 92 (by show 92 ≠ n; omega) q), if_neg (hne 9 (by show 9 ≠ n; omega)), if_neg (hne 10 (by show 10 ≠ n; omega)), if_neg (hne 12 (by show 12 ≠ n; omega)), if_neg (hne 13 (by show 13 ≠ n; omega))]
  rfl
theorem quo_size (s : ByteArray) (i : Nat) (p : Tk) : ∀ (f k : Nat) (o : List UInt8), quo s i f k o = .ok p → p.k = 3 ∧ p.d = [] ∧ p.at_ = i ∧ ∃ r, p.s.data.toList = o ++ r ∧ p.en = i + k + 1 + (r.flatMap escB).length ∧ bt s (p.en - 1) = 34 ∧ (o ++ r).length ≤ 200
  | 0, _, _, h => by simp only [quo] at h; cases h
  | f + 1, k, o, h => by
    simp only [quo] at h
    split at h
    · cases h
    rename_i hsz
    split at h
    · rename_i h34
      split at h
      · cases h
      · rename_i hl
        injection h with h; subst h
        refine ⟨rfl, rfl, rfl, [], by simp, by simp; omega, ?_, by simpa using hl⟩
        show bt s (i + (k + 1) - 1) = 34
        rw [show i + (k + 1) - 1 = i + k by omega]; exact h34
    rename_i h34
    split at h
    · rename_i h92
      split at h
      · rename_i c hc
        split at h
        · cases h
        · obtain ⟨h1, h2, h3, r, h4, h5, h6, h7⟩ := quo_size s i p f _ _ h
          refine ⟨h1, h2, h3, c.toNat.toUInt8 :: r, by rw [h4]; simp, ?_, h6, by rw [List.append_assoc] at h7; exact h7⟩
          rw [h5, List.flatMap_cons, List.length_append, (escF_len _ c hc).1]; omega
      · cases h
    rename_i h92
    split at h
    · cases h
    · rename_i h3
      obtain ⟨h1, h2, h3', r, h4, h5, h6, h7⟩ := quo_size s i p f _ _ h
      refine ⟨h1, h2, h3', (bt s (i + k)).toNat.toUInt8 :: r, by rw [h4]; simp, ?_, h6, by rw [List.append_assoc] at h7; exact h7⟩
      rw [h5, List.flatMap_cons, List.length_append, plain_len s _ h34 h92 (by omega)]; omega
theorem four (b : Int) (s : ByteArray) (i : Nat) (P : ByteArray) (hP : P.size = 4) (hb : ∀ k, k < 4 → bt P k = b) (h : sees s i P = true) : 4 ≤ cnt (fun x => x == b) s i := by
  have hle := sees_le s i P h (by omega)
  rcases Nat.lt_or_ge (cnt (fun x => x == b) s i) 4 with q | q
  · have h1 := cnt_stop (fun x => x == b) s _ i rfl (by omega)
    have h2 := sees_byte s i P h (cnt (fun x => x == b) s i) (by omega)
    rw [hb _ q] at h2
    rw [h2] at h1
    simp at h1
  · exact q
theorem signs_min : signsL.all (fun p => decide (p.2.length ≤ p.1.length)) = true := by decide +kernel
theorem canon_min {w c : ByteArray} (h : canonOf w = some c) : c.size ≤ w.size := by
  unfold canonOf at h
  rcases hf : signsL.find? (fun p => p.1 == w.data.toList) with _ | q
  · rw [hf] at h; cases h
  · rw [hf] at h
    simp only [Option.map_some, Option.some.injEq] at h
    have h1 := List.all_eq_true.1 signs_min q (List.mem_of_find?_eq_some hf)
    have h2 : q.1 = w.data.toList := by simpa using List.find?_some hf
    rw [h2] at h1
    subst h
    have e1 : w.size = w.data.toList.length := by rw [Array.length_toList]; rfl
    have e2 : (⟨q.2.toArray⟩ : ByteArray).size = q.2.length := rfl
    rw [e1, e2]; simpa using h1
theorem spell_s {t : Tk} (h2 : t.k ≠ 2) (h3 : t.k ≠ 3) (h6 : t.k ≠ 6) (h7 : t.k ≠ 7) : spellF t = t.s := by
  unfold spellF; rw [if_neg h2, if_neg h3, if_neg h6, if_neg h7]
theorem base92 {s : ByteArray} {i : Nat} (h : baseF s i ≠ 0) : bt s i = 92 := by
  by_cases h9 : bt s i = 92
  · exact h9
  · exact absurd (by unfold baseF; rw [if_pos h9]) h
theorem tok_min {T : ByteArray} {i : Nat} {p : Tk} (hT : i < T.size) (h : tokF T i = .ok p) (h92 : p.k = 2 → bt T i ≠ 92) : (spellF p).size ≤ p.en - i := by
  have hbd := tokF_bd T i p hT h
  unfold tokF at h
  split at h
  · rename_i hr
    have hcy := cnt_yes rnb T i hT hr
    have hcl := cnt_le rnb T i
    have ez := ext_size T i (cnt rnb T i) (by omega)
    unfold runF at h
    split at h
    · split at h
      · cases h
      · rename_i d hd
        injection h with h; subst h
        unfold valF at hd
        rcases hv : valN 10 (T.extract i (i + cnt rnb T i)).data.toList 0 with _ | v
        · rw [hv] at hd; cases hd
        · rw [hv] at hd
          simp only [Option.bind] at hd
          split at hd
          · rename_i hvb
            injection hd with hd
            have h1 := valN_lt _ _ _ hv
            rw [Array.length_toList] at h1
            change v < (0 + 1) * 10 ^ (T.extract i (i + cnt rnb T i)).size at h1
            rw [ez, Nat.zero_add, Nat.one_mul] at h1
            have h2 := nDig_le _ v (by omega) h1
            show (spellF ⟨2, _, d, _, _, _, _⟩).size ≤ i + cnt rnb T i - i
            unfold spellF
            rw [if_pos rfl]
            show (Lib.decDigits (numL d)).length ≤ _
            rw [Lib.decDigits_length, ← hd, limbs_num v (Nat.lt_trans hvb big_lt)]
            omega
          · cases hd
    split at h
    · rename_i hp
      have h3 : 3 ≤ cnt rnb T i := by
        rw [Bool.or_eq_true] at hp
        rcases hp with hp | hp
        · exact pre3 T i (by omega) _ rfl hp
        · exact pre3 T i (by omega) _ rfl hp
      injection h with h; subst h
      rw [spell_s (by simp) (by simp) (by simp) (by simp)]
      simp only [ByteArray.size_extract]; omega
    split at h
    · injection h with h; subst h
      rw [spell_s (by simp) (by simp) (by simp) (by simp)]
      simp only [ez]; omega
    split at h
    · injection h with h; subst h
      rw [spell_s (by simp) (by simp) (by simp) (by simp)]
      simp only [ez]; omega
    split at h
    · cases h
    split at h
    · cases h
    · injection h with h; subst h
      rw [spell_s (by simp) (by simp) (by simp) (by simp)]
      simp only [ez]; omega
  split at h
  · rename_i hb
    have h9 := base92 hb
    unfold basedF at h
    split at h
    · cases h
    · injection h with h; subst h
      exact absurd h9 (h92 rfl)
  split at h
  · obtain ⟨h1, h2, h3, r, h4, h5, h6, _⟩ := quo_size T i p _ _ _ h
    unfold spellF
    rw [if_neg (by omega), if_pos h1, h4]
    show (34 :: (([] ++ r).flatMap escB ++ [34])).length ≤ _
    rw [List.nil_append, List.length_cons, List.length_append, h5]
    simp only [List.length_singleton]; omega
  split at h
  · rename_i h1
    have := four 45 T i _ rfl (by decide) h1
    injection h with h; subst h
    show (4 : Nat) ≤ i + cnt (fun b => b == 45) T i - i
    omega
  split at h
  · rename_i h1
    have := four 61 T i _ rfl (by decide) h1
    injection h with h; subst h
    show (4 : Nat) ≤ i + cnt (fun b => b == 61) T i - i
    omega
  · unfold signF at h
    split at h
    · rename_i hc
      obtain ⟨_, _, hc⟩ := hc
      injection h with h; subst h
      rcases hk : canonOf (T.extract i (i + (1 + cnt ltr T (i + 1)))) with _ | c
      · rw [hk] at hc; cases hc
      · have := canon_min hk
        have hl := cnt_le ltr T (i + 1)
        rw [ext_size T i _ (by omega)] at this
        rw [spell_s (by simp) (by simp) (by simp) (by simp)]
        show c.size ≤ _
        simp only []; omega
    · obtain ⟨L, c, h1, h2, rfl, h4, _⟩ := sgn_ok T i p _ h
      have := canon_min h4
      rw [ext_size T i _ (by omega)] at this
      rw [spell_s (by simp) (by simp) (by simp) (by simp)]
      show c.size ≤ i + L - i
      omega
theorem rnb_noblk {b : Int} (h : rnb b = true) : blk b = false := by
  rcases hb : blk b with _ | _
  · rfl
  · have : bar b = true := by simp [bar, hb]
    rw [(bar_no this).1] at h; cases h
theorem tok_noblk {T : ByteArray} {i : Nat} {p : Tk} (hT : i < T.size) (hb : blk (bt T i) = false) (h : tokF T i = .ok p) : blk (bt T (p.en - 1)) = false := by
  have hbd := tokF_bd T i p hT h
  have hrun : ∀ n, 0 < n → n ≤ cnt rnb T i → p.en = i + n → blk (bt T (p.en - 1)) = false := fun n h0 hn he => by
    have := (cnt_lt rnb T _ i rfl (n - 1) (by omega)).2
    rw [he, show i + n - 1 = i + (n - 1) by omega]
    exact rnb_noblk this
  unfold tokF at h
  split at h
  · rename_i hr
    have hcy := cnt_yes rnb T i hT hr
    have hcl := cnt_le rnb T i
    unfold runF at h
    split at h
    · split at h
      · cases h
      · injection h with h; exact hrun _ (by omega) (Nat.le_refl _) (by subst h; rfl)
    split at h
    · rename_i hp
      have h3 : 3 ≤ cnt rnb T i := by
        rw [Bool.or_eq_true] at hp
        rcases hp with hp | hp
        · exact pre3 T i (by omega) _ rfl hp
        · exact pre3 T i (by omega) _ rfl hp
      injection h with h; exact hrun 3 (by omega) h3 (by subst h; rfl)
    split at h
    · injection h with h; exact hrun _ (by omega) (Nat.le_refl _) (by subst h; rfl)
    split at h
    · injection h with h; exact hrun _ (by omega) (Nat.le_refl _) (by subst h; rfl)
    split at h
    · cases h
    split at h
    · cases h
    · injection h with h; exact hrun _ (by omega) (Nat.le_refl _) (by subst h; rfl)
  split at h
  · rename_i hbs
    have h9 := base92 hbs
    unfold basedF at h
    split at h
    · cases h
    · injection h with h; subst h
      show blk (bt T (i + (cnt rnb T (i + 2) + 2) - 1)) = false
      rcases Nat.eq_zero_or_pos (cnt rnb T (i + 2)) with q | q
      · rw [q, show i + (0 + 2) - 1 = i + 1 by omega]
        rw [swF_base T i h9] at hbs
        have hsw : swF (bt T (i + 1)) ≠ 0 := by
          intro e; rw [if_pos e] at hbs; exact hbs rfl
        unfold swF at hsw
        generalize bt T (i + 1) = b at hsw
        rcases hq : blk b with _ | _
        · rfl
        · exfalso; apply hsw
          unfold blk at hq
          simp only [Bool.or_eq_true, decide_eq_true_eq] at hq
          rw [if_neg (by omega), if_neg (by omega), if_neg (by omega)]
      · have := (cnt_lt rnb T _ (i + 2) rfl (cnt rnb T (i + 2) - 1) (by omega)).2
        rw [show i + (cnt rnb T (i + 2) + 2) - 1 = i + 2 + (cnt rnb T (i + 2) - 1) by omega]
        exact rnb_noblk this
  split at h
  · obtain ⟨_, _, _, r, _, _, h6, _⟩ := quo_size T i p _ _ _ h
    rw [h6]; decide
  split at h
  · rename_i h1
    have := four 45 T i _ rfl (by decide) h1
    injection h with h; subst h
    have h2 := (cnt_lt (fun b => b == 45) T _ i rfl (cnt (fun b => b == 45) T i - 1) (by omega)).2
    show blk (bt T (i + cnt (fun b => b == 45) T i - 1)) = false
    rw [show i + cnt (fun b => b == 45) T i - 1 = i + (cnt (fun b => b == 45) T i - 1) by omega]
    have : bt T (i + (cnt (fun b => b == 45) T i - 1)) = 45 := by simpa using h2
    rw [this]; decide
  split at h
  · rename_i h1
    have := four 61 T i _ rfl (by decide) h1
    injection h with h; subst h
    have h2 := (cnt_lt (fun b => b == 61) T _ i rfl (cnt (fun b => b == 61) T i - 1) (by omega)).2
    show blk (bt T (i + cnt (fun b => b == 61) T i - 1)) = false
    rw [show i + cnt (fun b => b == 61) T i - 1 = i + (cnt (fun b => b == 61) T i - 1) by omega]
    have : bt T (i + (cnt (fun b => b == 61) T i - 1)) = 61 := by simpa using h2
    rw [this]; decide
  · have key : ∀ (L : Nat) (c : ByteArray), 0 < L → i + L ≤ T.size → canonOf (T.extract i (i + L)) = some c → blk (bt T (i + L - 1)) = false := fun L c h0 hL hc => by
      rcases Nat.lt_or_ge 1 L with q | q
      · have := sign_nobar T i L c hc hL (L - 1) (by omega) (by omega)
        rw [show i + L - 1 = i + (L - 1) by omega]
        rcases hq : blk (bt T (i + (L - 1))) with _ | _
        · rfl
        · simp [bar, hq] at this
      · rw [show i + L - 1 = i by omega]; exact hb
    unfold signF at h
    split at h
    · rename_i hc
      obtain ⟨_, _, hc⟩ := hc
      injection h with h; subst h
      have hl := cnt_le ltr T (i + 1)
      rcases hk : canonOf (T.extract i (i + (1 + cnt ltr T (i + 1)))) with _ | c
      · rw [hk] at hc; cases hc
      · exact key _ c (by omega) (by omega) hk
    · obtain ⟨L, c, h1, h2, rfl, h4, _⟩ := sgn_ok T i p _ h
      exact key L c h1 (by omega) h4
end Go.Proofs.YtagcfgoofiibfaaGreatDoor
namespace Go.Proofs.YtagcfgoofiibfaaGreatDoor
open Go Go.RowKit
inductive Lay (T : ByteArray) : Nat → List Tk → Prop
  | nil : Lay T T.size []
  | tok (p : Tk) (ns : List Tk) : Agr (spellF p) T 0 p.at_ (spellF p).size → p.en = p.at_ + (spellF p).size → 0 < (spellF p).size → blk (bt (spellF p) 0) = false → (p.k = 2 → ∀ k, k < (spellF p).size → bt (spellF p) k ≠ 92) → Lay T p.en ns → Lay T p.at_ (p :: ns)
  | gap (x : Nat) (p : Tk) (ns : List Tk) : x + 1 = p.at_ → x < T.size → bt T x = 32 → Lay T p.at_ (p :: ns) → Lay T x (p :: ns)
theorem Lay.le {T : ByteArray} {x : Nat} {ns : List Tk} (h : Lay T x ns) : x ≤ T.size := by
  induction h with
  | nil => exact Nat.le_refl _
  | tok p ns h1 h2 h3 h4 h5 _ ih => omega
  | gap x p ns h1 h2 h3 _ ih => omega
theorem Sc.blank_inv {T : ByteArray} {x : Nat} {qs : List Tk} {ys : List (Nat × Nat)} (h : Sc T x qs ys) (hx : x < T.size) (hb : blk (bt T x) = true) : Sc T (x + 1) qs ys := by
  cases h with
  | fin _ hi => omega
  | blank _ _ _ _ _ h => exact h
  | com _ _ _ _ _ hb' _ _ => rw [hb] at hb'; cases hb'
  | tok _ _ _ _ _ hb' _ _ => rw [hb] at hb'; cases hb'
theorem key_k {a b : Tk} (h : a.key = b.key) : a.k = b.k := by
  unfold Tk.key at h; injection h
theorem Lay.ahead {T : ByteArray} {x : Nat} {ns : List Tk} (h : Lay T x ns) : ∀ (z : Nat) (qs : List Tk) (ys : List (Nat × Nat)), Sc T z qs ys → qs.map Tk.key = ns.map Tk.key → x < z → z ≤ T.size → ¬ (z = x + 1 ∧ bt T x = 32) → False := by
  induction h with
  | nil => intro z qs ys _ _ h1 h2 _; omega
  | gap x p ns h1 h2 h3 h4 ih =>
    intro z qs ys hs hk hz hzT hnb
    have hb : bt T p.at_ ≠ 32 := by
      have key : ∀ (y : Nat) (ns' : List Tk), Lay T y ns' → ns' = p :: ns → y = p.at_ → bt T y ≠ 32 := by
        intro y ns' h hn hy e
        cases h with
        | nil => cases hn
        | tok q _ g1 g2 g3 g4 g5 _ =>
          have := g1.b 0 g3
          rw [Nat.add_zero, Nat.add_zero, e] at this
          rw [← this] at g4
          revert g4; decide
        | gap _ q _ g1 _ _ _ =>
          injection hn with hn
          subst hn
          omega
      exact key _ _ h4 rfl rfl
    have : z ≠ x + 1 := fun e => hnb ⟨e, h3⟩
    exact ih z qs ys hs hk (by omega) hzT (fun e => hb e.2)
  | tok p ns h1 h2 h3 h4 h5 h6 ih =>
    intro z qs ys hs hk hz hzT _
    rcases qs with _ | ⟨q, qs⟩
    · simp at hk
    simp only [List.map_cons, List.cons.injEq] at hk
    obtain ⟨hk1, hk2⟩ := hk
    obtain ⟨m1, m2, m3⟩ := hs.mem q (by simp)
    obtain ⟨g1, g2, g3, g4, g5, g6⟩ := item_tok T _ q m1 m3
    obtain ⟨s1, _, ws, s2⟩ := hs.split
    have hlt := h1.lt
    have hsz : (spellF q).size = (spellF p).size := by rw [spellF_key hk1]
    have hen : p.en < q.en := by
      rcases Nat.lt_or_ge p.en q.en with c | c
      · exact c
      · exfalso
        have hm := tok_min m1 g1 (fun hq2 => by
          have := h1.b (q.at_ - p.at_) (by omega)
          rw [show p.at_ + (q.at_ - p.at_) = q.at_ by omega, Nat.zero_add] at this
          rw [this]
          exact h5 (by rw [← key_k hk1]; exact hq2) _ (by omega))
        omega
    refine ih q.en qs ws s2 hk2 hen g3 ?_
    rintro ⟨e1, e2⟩
    have hnb := tok_noblk m1 m2 g1
    rw [show q.en - 1 = p.en by omega, e2] at hnb
    revert hnb; decide
theorem tokF_lc (s : ByteArray) (i : Nat) (p : Tk) (h : tokF s i = .ok p) : p.line = 0 ∧ p.col = 0 := by
  have hq : ∀ (f k : Nat) (o : List UInt8), quo s i f k o = .ok p → p.line = 0 ∧ p.col = 0 := by
    intro f
    induction f with
    | zero => intro k o h; simp only [quo] at h; cases h
    | succ f ih =>
      intro k o h
      simp only [quo] at h
      (repeat' split at h) <;> first | (cases h; done) | exact ih _ _ h | (injection h with h; subst h; exact ⟨rfl, rfl⟩)
  unfold tokF runF basedF signF at h
  (repeat' split at h) <;> first | (cases h; done) | (injection h with h; subst h; exact ⟨rfl, rfl⟩) | exact hq _ _ _ h | skip
  obtain ⟨L, c, _, _, rfl, _⟩ := sgn_ok s i p _ h
  exact ⟨rfl, rfl⟩
theorem Lay.only {T : ByteArray} {x : Nat} {ns : List Tk} (h : Lay T x ns) : ∀ (qs : List Tk) (ys : List (Nat × Nat)), Sc T x qs ys → qs.map Tk.key = ns.map Tk.key → (∀ p ∈ ns, p.line = 0 ∧ p.col = 0) → qs = ns ∧ ys = [] := by
  induction h with
  | nil =>
    intro qs ys hs hk _
    rcases qs with _ | ⟨q, qs⟩
    · cases hs with
      | fin => exact ⟨rfl, rfl⟩
      | blank _ _ _ hi => omega
      | com _ _ _ _ hi => omega
    · simp at hk
  | gap x p ns h1 h2 h3 h4 ih =>
    intro qs ys hs hk hl
    have := hs.blank_inv h2 (by rw [h3]; decide)
    rw [h1] at this
    exact ih qs ys this hk hl
  | tok p ns h1 h2 h3 h4 h5 h6 ih =>
    intro qs ys hs hk hl
    rcases qs with _ | ⟨q, qs⟩
    · simp at hk
    simp only [List.map_cons, List.cons.injEq] at hk
    obtain ⟨hk1, hk2⟩ := hk
    obtain ⟨m1, m2, m3⟩ := hs.mem q (by simp)
    obtain ⟨g1, g2, g3, g4, g5, g6⟩ := item_tok T _ q m1 m3
    obtain ⟨s1, _, ws, s2⟩ := hs.split
    have hlt := h1.lt
    have hsz : (spellF q).size = (spellF p).size := by rw [spellF_key hk1]
    have hen : q.en ≤ p.en := by
      rcases Nat.lt_or_ge p.en q.en with c | c
      · exfalso
        refine h6.ahead q.en qs ws s2 hk2 c g3 ?_
        rintro ⟨e1, e2⟩
        have hnb := tok_noblk m1 m2 g1
        rw [show q.en - 1 = p.en by omega, e2] at hnb
        revert hnb; decide
      · exact c
    have hm := tok_min m1 g1 (fun hq2 => by
      have := h1.b (q.at_ - p.at_) (by omega)
      rw [show p.at_ + (q.at_ - p.at_) = q.at_ by omega, Nat.zero_add] at this
      rw [this]
      exact h5 (by rw [← key_k hk1]; exact hq2) _ (by omega))
    have ea : q.at_ = p.at_ := by omega
    have ee : q.en = p.en := by omega
    have hqp : q = p := by
      have l1 := tokF_lc T _ q g1
      have l2 := hl p (by simp)
      unfold Tk.key at hk1
      injection hk1 with k1 hk1
      injection hk1 with k2 k3
      rcases q with ⟨a1, a2, a3, a4, a5, a6, a7⟩
      rcases p with ⟨b1, b2, b3, b4, b5, b6, b7⟩
      simp only at *
      obtain ⟨l3, l4⟩ := l1
      obtain ⟨l5, l6⟩ := l2
      subst k1 k2 k3 ea ee l3 l4 l5 l6
      rfl
    subst hqp
    have hs2 : Sc T q.en qs ys := by
      cases hs with
      | blank _ _ _ hi hb h' =>
        have := h'.split.1; omega
      | com _ j _ _ hi hb hc h' =>
        have := h'.split.1
        have := item_com T _ j hi hc; omega
      | tok _ _ _ _ hi hb hc h' => exact h'
    obtain ⟨e1, e2⟩ := ih qs ys hs2 hk2 (fun p hp => hl p (by simp [hp]))
    exact ⟨by rw [e1], e2⟩
def lastEn : List Tk → Nat → Nat
  | [], i => i
  | p :: ps, _ => lastEn ps p.en
theorem Sc.cut {T : ByteArray} : ∀ (ps qs : List Tk) (i : Nat) (ys : List (Nat × Nat)), Sc T i (ps ++ qs) ys → ∃ zs ws, Pt T (lastEn ps i) i ps zs ∧ Sc T (lastEn ps i) qs ws
  | [], qs, i, ys, h => ⟨[], ys, .nil, h⟩
  | p :: ps, qs, i, ys, h => by
    obtain ⟨_, ⟨zs, h1⟩, ws, h2⟩ := Sc.split h
    obtain ⟨m1, m2, m3⟩ := h.mem p (by simp)
    obtain ⟨zs', ws', h3, h4⟩ := Sc.cut ps qs p.en ws h2
    exact ⟨_, _, h1.app (.tok _ _ _ _ m1 m2 m3 h3), h4⟩
theorem sub_sc {T : ByteArray} {a : Nat} {qs rs : List Tk} {ys : List (Nat × Nat)} (h : Sc T a (qs ++ rs) ys) (ha : a ≤ T.size) : ∃ zs, Sc (T.extract a (lastEn qs a)) 0 (qs.map fun p => p.mv (p.at_ - a)) zs := by
  obtain ⟨zs, ws, h1, h2⟩ := Sc.cut qs rs a ys h
  have hle := h1.le
  have hz : lastEn qs a ≤ T.size := by
    rcases Nat.lt_or_ge T.size (lastEn qs a) with c | c
    · exfalso
      have : ∀ (ps : List Tk) (i : Nat) (ys : List (Nat × Nat)), Sc T i (ps ++ rs) ys → i ≤ T.size → lastEn ps i ≤ T.size := by
        intro ps
        induction ps with
        | nil => intro i ys _ hi; exact hi
        | cons p ps ih =>
          intro i ys h hi
          obtain ⟨m1, m2, m3⟩ := h.mem p (by simp)
          obtain ⟨_, _, ws, h2⟩ := Sc.split h
          exact ih p.en ws h2 (item_tok T _ p m1 m3).2.2.1
      have := this qs a ys h ha
      omega
    · exact c
  have hx := size_ext T a (lastEn qs a) hz
  have H := Agr.extract T a (lastEn qs a) hle hz
  have := h1.move H (Nat.le_refl _) (.inr (bar_end _ _ (by omega))) (fun _ _ _ _ => .inl (by omega))
  simp only [Nat.zero_add, Nat.sub_self] at this
  exact ⟨_, this.sc (by omega)⟩
end Go.Proofs.YtagcfgoofiibfaaGreatDoor
namespace Go.Proofs.YtagcfgoofiibfaaGreatDoor
open Go Go.RowKit
set_option exponentiation.threshold 400
def okB (b : UInt8) : Bool := (decide (32 ≤ b.toNat) && decide (b.toNat ≤ 126)) || decide (b.toNat = 9) || decide (b.toNat = 10) || decide (b.toNat = 12) || decide (b.toNat = 13)
inductive ValidT (t : Tk) : Prop
  | num : t.k = 2 → t.s = ByteArray.empty → InB t.d → NoZ t.d → t.d.length ≤ 40 → ValidT t
  | name : t.k = 1 → t.d = [] → t.s.size ≤ 40 → kindF t.s = 1 → ValidT t
  | str : t.k = 3 → t.d = [] → t.s.size ≤ 200 → (∀ b ∈ t.s.data.toList, okB b = true) → ValidT t
  | key : t.k = 4 → t.d = [] → isWord t.s = true → ValidT t
  | sign : t.k = 5 → t.d = [] → t.s ≠ ByteArray.empty → canonOf t.s = some t.s → ValidT t
  | line : t.k = 6 ∨ t.k = 7 → t.d = [] → t.s = ByteArray.empty → ValidT t
theorem bt_mk (l : List UInt8) (k : Nat) (h : k < l.length) : bt ⟨l.toArray⟩ k = ((l[k]).toNat : Int) := by
  unfold bt; rw [List.getD_eq_getElem?_getD]
  show ((((l)[k]?).getD 0).toNat : Int) = _
  rw [List.getElem?_eq_getElem h]; rfl
theorem size_mk (l : List UInt8) : (⟨l.toArray⟩ : ByteArray).size = l.length := rfl
theorem cnt_all (p : Int → Bool) (s : ByteArray) (h : ∀ k, k < s.size → p (bt s k) = true) : cnt p s 0 = s.size :=
  cnt_is p s s.size 0 (fun k hk => by rw [Nat.zero_add]; exact ⟨hk, h k hk⟩) (.inl (by omega))
theorem ext_all (s : ByteArray) : s.extract 0 s.size = s := by
  apply ba_eq
  have := extLst s 0 s.size
  rw [Nat.zero_add] at this
  rw [this, List.drop_zero, List.take_of_length_le (by rw [Array.length_toList]; exact Nat.le_refl _)]
theorem sees_first (s : ByteArray) (i : Nat) (p : ByteArray) (h0 : 0 < p.size) (h : bt s i ≠ bt p 0) : sees s i p = false := by
  rcases hs : sees s i p with _ | _
  · rfl
  · have := sees_byte s i p hs 0 h0
    rw [Nat.add_zero] at this
    exact absurd this h
theorem item_of {s : ByteArray} {i : Nat} {p : Tk} (h : tokF s i = .ok p) (h1 : sees s i ⟨#[92, 42]⟩ = false) (h2 : sees s i ⟨#[40, 42]⟩ = false) : item s i = .tok p := by
  unfold item; rw [h1, h2, h]; rfl
theorem dgt_facts {b : Int} (h : dgt b = true) : b ≠ 92 ∧ b ≠ 40 ∧ blk b = false ∧ rnb b = true := by
  refine ⟨?_, ?_, rnb_noblk (dgt_rnb h), dgt_rnb h⟩ <;> (intro e; subst e; revert h; decide)
theorem numL_big {d : List Int} (hb : InB d) (hl : d.length ≤ 40) : numL d < big := by
  have h1 := numL_lt d hb
  refine Nat.lt_of_lt_of_le h1 ?_
  have e : big = 1000000000 ^ 40 := by decide
  rw [e]
  exact Nat.pow_le_pow_right (by decide) hl
theorem num_item {d : List Int} (hb : InB d) (hz : NoZ d) (hl : d.length ≤ 40) (S : ByteArray) (hS : S = ⟨(Lib.decDigits (numL d)).toArray⟩) :
    item S 0 = .tok ⟨2, ByteArray.empty, d, 0, S.size, 0, 0⟩ ∧ blk (bt S 0) = false ∧ 0 < S.size := by
  have hbt : ∀ k, k < S.size → dgt (bt S k) = true := fun k hk => by
    subst hS
    have hk' : k < (Lib.decDigits (numL d)).length := hk
    rw [bt_mk _ k hk']
    have := dec_digits (numL d) _ (List.getElem_mem hk')
    unfold dgt; simp; omega
  have hpos : 0 < S.size := by
    subst hS
    rw [size_mk, Lib.decDigits_length]
    exact Lib.nDigits_pos _
  obtain ⟨f1, f2, f3, f4⟩ := dgt_facts (hbt 0 hpos)
  have c1 := cnt_all dgt S hbt
  have c2 := cnt_all rnb S (fun k hk => dgt_rnb (hbt k hk))
  have hv : valF (S.extract 0 (0 + S.size)) 10 = some d := by
    rw [Nat.zero_add, ext_all]
    unfold valF
    have : S.data.toList = Lib.decDigits (numL d) := by subst hS; simp
    rw [this, valN_dec]
    show (if numL d < big then some (limbs (numL d)) else none) = _
    rw [if_pos (numL_big hb hl), limbs_of d hb hz (by omega)]
  refine ⟨item_of ?_ (sees_first _ _ _ (by decide) (by rw [show bt (⟨#[92, 42]⟩ : ByteArray) 0 = 92 by rfl]; exact f1)) (sees_first _ _ _ (by decide) (by rw [show bt (⟨#[40, 42]⟩ : ByteArray) 0 = 40 by rfl]; exact f2)), f3, hpos⟩
  unfold tokF
  rw [if_pos f4]
  unfold runF
  rw [c1, c2, if_pos rfl, hv]
  simp
theorem tokF_name (s : ByteArray) (i : Nat) (p : Tk) (h : tokF s i = .ok p) (hk : p.k = 1) : p.s = s.extract i p.en ∧ p.d = [] := by
  unfold tokF at h
  split at h
  · unfold runF at h
    (repeat' split at h) <;> first | (cases h; done) | (injection h with h; subst h; first | (exfalso; revert hk; simp; done) | exact ⟨rfl, rfl⟩)
  · split at h
    · unfold basedF at h
      split at h
      · cases h
      · injection h with h; subst h; exfalso; revert hk; simp
    · split at h
      · have := (quo_k s i p _ _ _ h).1; omega
      · split at h
        · injection h with h; subst h; exfalso; revert hk; simp
        · split at h
          · injection h with h; subst h; exfalso; revert hk; simp
          · unfold signF at h
            split at h
            · injection h with h; subst h; exfalso; revert hk; simp
            · have := (sgn_k s i p _ h).1; omega
theorem name_item {s : ByteArray} (hs : s.size ≤ 40) (h : kindF s = 1) : item s 0 = .tok ⟨1, s, [], 0, s.size, 0, 0⟩ ∧ blk (bt s 0) = false ∧ 0 < s.size := by
  unfold kindF at h
  rcases ht : tokens s with e | l
  · rw [ht] at h; simp [kindR] at h
  rw [ht] at h
  rcases l with _ | ⟨x, _ | ⟨y, l⟩⟩
  · simp [kindR] at h
  · simp only [kindR] at h
    split at h
    · rename_i hx
      obtain ⟨ps, ys, h1, h2⟩ := (tokens_ok_iff s (by omega) _).1 ht
      rcases ps with _ | ⟨p, _ | ⟨q, ps⟩⟩
      · cases h2
      · simp only [List.map_cons, List.map_nil, List.cons.injEq, and_true] at h2
        subst h2
        obtain ⟨m1, m2, m3⟩ := h1.mem p (by simp)
        obtain ⟨g1, g2, g3, g4, g5, g6⟩ := item_tok s _ p m1 m3
        have k1 : p.at_ = 0 := hx.1
        have k2 : p.en = s.size := hx.2
        have k3 : p.k = 1 := h
        obtain ⟨n1, n2⟩ := tokF_name s _ p g1 k3
        obtain ⟨l1, l2⟩ := tokF_lc s _ p g1
        rw [k1] at m1 m2 m3 n1
        rw [k2, ext_all] at n1
        refine ⟨?_, m2, m1⟩
        rw [m3]
        rcases p with ⟨a1, a2, a3, a4, a5, a6, a7⟩
        simp only at *
        subst k1 k2 k3 n1 n2 l1 l2
        rfl
      · simp at h2
    · cases h
  · simp [kindR] at h
def wordItem (w : List UInt8) : Bool := match item ⟨w.toArray⟩ 0 with
  | .tok q => q.k == 4 && q.s.data.toList == w && q.d == [] && q.at_ == 0 && q.en == w.length && q.line == 0 && q.col == 0
  | _ => false
theorem word_items : wordsL.all (fun w => wordItem w && !blk (bt ⟨w.toArray⟩ 0) && decide (0 < w.length)) = true := by decide +kernel
theorem word_item {s : ByteArray} (h : isWord s = true) : item s 0 = .tok ⟨4, s, [], 0, s.size, 0, 0⟩ ∧ blk (bt s 0) = false ∧ 0 < s.size := by
  unfold isWord at h
  have hm : s.data.toList ∈ wordsL := by simpa using h
  have h1 := List.all_eq_true.1 word_items _ hm
  rw [Bool.and_eq_true, Bool.and_eq_true] at h1
  have e : (⟨s.data.toList.toArray⟩ : ByteArray) = s := by apply ba_eq; simp
  unfold wordItem at h1
  rw [e] at h1
  obtain ⟨⟨h1, h2⟩, h3⟩ := h1
  have ez : s.data.toList.length = s.size := by rw [Array.length_toList]; rfl
  rw [ez] at h3
  refine ⟨?_, by simpa using h2, by simpa using h3⟩
  split at h1
  · rename_i p hp
    rw [hp]
    rcases p with ⟨k, q, d, a, en, l, cl⟩
    simp only [Bool.and_eq_true, beq_iff_eq] at h1
    obtain ⟨⟨⟨⟨⟨⟨a1, a2⟩, a3⟩, a4⟩, a5⟩, a6⟩, a7⟩ := h1
    have : q = s := ba_eq a2
    rw [ez] at a5
    subst a1 a3 a4 a5 a6 a7 this
    rfl
  · cases h1
theorem bt_at {S : ByteArray} {k : Nat} {l : List UInt8} {b : UInt8} (h : S.data.toList.drop k = b :: l) : bt S k = (b.toNat : Int) ∧ k < S.size ∧ S.data.toList.drop (k + 1) = l := by
  have hk : k < S.data.toList.length := by
    rcases Nat.lt_or_ge k S.data.toList.length with q | q
    · exact q
    · rw [List.drop_eq_nil_of_le q] at h; cases h
  rw [List.drop_eq_getElem_cons hk] at h
  injection h with h1 h2
  refine ⟨?_, by rw [Array.length_toList] at hk; exact hk, h2⟩
  unfold bt
  rw [List.getD_eq_getElem?_getD, List.getElem?_eq_getElem hk, h1]; rfl
theorem u8_back (b : UInt8) : ((b.toNat : Int)).toNat.toUInt8 = b := by
  show UInt8.ofNat b.toNat = b
  simp
theorem quo_run (S : ByteArray) : ∀ (r : List UInt8) (f k : Nat) (o : List UInt8), S.data.toList.drop k = r.flatMap escB ++ [34] → (∀ b ∈ r, okB b = true) → (r.flatMap escB).length + 1 ≤ f → (o ++ r).length ≤ 200 →
    quo S 0 f k o = .ok ⟨3, ⟨(o ++ r).toArray⟩, [], 0, k + (r.flatMap escB).length + 1, 0, 0⟩
  | [], 0, k, o, _, _, hf, _ => by simp at hf
  | [], f + 1, k, o, h, _, _, hl => by
    obtain ⟨h1, h2, _⟩ := bt_at (b := 34) (l := []) h
    simp only [quo, Nat.zero_add]
    rw [if_neg (by omega), h1, if_pos (by decide), if_neg (by simp at hl; omega)]
    simp
  | b :: r, 0, k, o, _, _, hf, _ => by omega
  | b :: r, f + 1, k, o, h, hb, hf, hl => by
    have hok := hb b (by simp)
    have hb' := fun c hc => hb c (List.mem_cons_of_mem _ hc)
    rw [List.flatMap_cons, List.length_append] at hf
    have hfin : (o ++ [b]) ++ r = o ++ b :: r := by simp
    have two : ∀ (x : UInt8) (e : Int), escB b = [92, x] → escF (x.toNat : Int) = some e → e.toNat.toUInt8 = b → quo S 0 (f + 1) k o = .ok ⟨3, ⟨(o ++ b :: r).toArray⟩, [], 0, k + ((b :: r).flatMap escB).length + 1, 0, 0⟩ := by
      intro x e he hx hxb
      rw [List.flatMap_cons, he] at h
      obtain ⟨h1, h2, h3⟩ := bt_at (b := 92) h
      obtain ⟨h4, h5, h6⟩ := bt_at (b := x) h3
      rw [he] at hf
      simp only [List.length_cons, List.length_nil] at hf
      simp only [quo, Nat.zero_add]
      rw [if_neg (by omega), h1, if_neg (by decide), if_pos (by decide), h4, hx]
      simp only
      rw [if_neg (by omega), hxb, quo_run S r f (k + 2) (o ++ [b]) h6 hb' (by omega) (by rw [hfin]; exact hl), hfin, List.flatMap_cons, List.length_append, he]
      congr 2
      simp only [List.length_cons, List.length_nil]
      omega
    by_cases c1 : b = 34 ∨ b = 92
    · refine two b (b.toNat : Int) (by unfold escB; rw [if_pos c1]) (by rcases c1 with rfl | rfl <;> decide) (u8_back b)
    by_cases c2 : b = 9
    · subst c2; exact two 116 9 rfl (by decide) (by decide)
    by_cases c3 : b = 10
    · subst c3; exact two 110 10 rfl (by decide) (by decide)
    by_cases c4 : b = 12
    · subst c4; exact two 102 12 rfl (by decide) (by decide)
    by_cases c5 : b = 13
    · subst c5; exact two 114 13 rfl (by decide) (by decide)
    have he : escB b = [b] := by unfold escB; rw [if_neg c1, if_neg c2, if_neg c3, if_neg c4, if_neg c5]
    rw [List.flatMap_cons, he] at h
    obtain ⟨h1, h2, h3⟩ := bt_at (b := b) h
    rw [he] at hf
    simp only [List.length_cons, List.length_nil] at hf
    have hn : ∀ d : UInt8, b ≠ d → b.toNat ≠ d.toNat := fun d hd e => hd (UInt8.toNat.inj e)
    have hr : 32 ≤ b.toNat ∧ b.toNat ≤ 126 := by
      have e1 := hn 9 c2
      have e2 := hn 10 c3
      have e3 := hn 12 c4
      have e4 := hn 13 c5
      change b.toNat ≠ 9 at e1
      change b.toNat ≠ 10 at e2
      change b.toNat ≠ 12 at e3
      change b.toNat ≠ 13 at e4
      unfold okB at hok
      simp only [Bool.or_eq_true, Bool.and_eq_true, decide_eq_true_eq] at hok
      omega
    have n34 : b.toNat ≠ 34 := hn 34 fun e => c1 (.inl e)
    have n92 : b.toNat ≠ 92 := hn 92 fun e => c1 (.inr e)
    simp only [quo, Nat.zero_add]
    rw [if_neg (by omega), h1, if_neg (by omega), if_neg (by omega), if_neg (by omega), u8_back, quo_run S r f (k + 1) (o ++ [b]) h3 hb' (by omega) (by rw [hfin]; exact hl), hfin, List.flatMap_cons, List.length_append, he]
    congr 2
    simp only [List.length_cons, List.length_nil]
    omega
theorem str_item {s : ByteArray} (hs : s.size ≤ 200) (hb : ∀ b ∈ s.data.toList, okB b = true) (S : ByteArray) (hS : S = ⟨(34 :: (s.data.toList.flatMap escB ++ [34])).toArray⟩) :
    item S 0 = .tok ⟨3, s, [], 0, S.size, 0, 0⟩ ∧ blk (bt S 0) = false ∧ 0 < S.size := by
  have hl : S.data.toList = 34 :: (s.data.toList.flatMap escB ++ [34]) := by subst hS; simp
  obtain ⟨h1, h2, h3⟩ := bt_at (S := S) (k := 0) (b := 34) (by rw [List.drop_zero]; exact hl)
  rw [Nat.zero_add] at h3
  have ez : S.size = 1 + (s.data.toList.flatMap escB).length + 1 := by
    subst hS; rw [size_mk]; simp; omega
  have hq := quo_run S s.data.toList (S.size + 1 - 0) 1 [] h3 hb (by omega) (by rw [List.nil_append, Array.length_toList]; exact hs)
  have h34 : bt S 0 = 34 := h1
  refine ⟨item_of ?_ (sees_first _ _ _ (by decide) (by rw [h34]; decide)) (sees_first _ _ _ (by decide) (by rw [h34]; decide)), by rw [h34]; decide, h2⟩
  unfold tokF
  rw [h34, if_neg (by decide), if_neg (by unfold baseF; rw [if_pos (by rw [h34]; decide)]; simp), if_pos rfl, hq]
  congr 2
  exact ez.symm
theorem spell_item {t : Tk} (h : ValidT t) : item (spellF t) 0 = .tok ⟨t.k, t.s, t.d, 0, (spellF t).size, 0, 0⟩ ∧ blk (bt (spellF t) 0) = false ∧ 0 < (spellF t).size := by
  cases h with
  | num h1 h2 h3 h4 h5 =>
    have e : spellF t = ⟨(Lib.decDigits (numL t.d)).toArray⟩ := by unfold spellF; rw [if_pos h1]
    have := num_item h3 h4 h5 (spellF t) e
    rw [h1, h2]; exact this
  | name h1 h2 h3 h4 =>
    rw [spell_s (by omega) (by omega) (by omega) (by omega), h1, h2]
    exact name_item h3 h4
  | str h1 h2 h3 h4 =>
    have e : spellF t = ⟨(34 :: (t.s.data.toList.flatMap escB ++ [34])).toArray⟩ := by unfold spellF; rw [if_neg (by omega), if_pos h1]
    have := str_item h3 h4 (spellF t) e
    rw [h1, h2]; exact this
  | key h1 h2 h3 =>
    rw [spell_s (by omega) (by omega) (by omega) (by omega), h1, h2]
    exact word_item h3
  | sign h1 h2 h3 h4 =>
    rw [spell_s (by omega) (by omega) (by omega) (by omega), h1, h2]
    exact sign_item h4
  | line h1 h2 h3 =>
    rcases h1 with h1 | h1
    · have e : spellF t = ⟨#[45, 45, 45, 45]⟩ := by unfold spellF; rw [if_neg (by omega), if_neg (by omega), if_pos h1]
      rw [e, h1, h2, h3]
      exact ⟨by kernel_rfl, by decide, by decide⟩
    · have e : spellF t = ⟨#[61, 61, 61, 61]⟩ := by unfold spellF; rw [if_neg (by omega), if_neg (by omega), if_neg (by omega), if_pos h1]
      rw [e, h1, h2, h3]
      exact ⟨by kernel_rfl, by decide, by decide⟩
theorem spell_no92 {t : Tk} (h : t.k = 2) : ∀ k, k < (spellF t).size → bt (spellF t) k ≠ 92 := by
  intro k hk
  have e : spellF t = ⟨(Lib.decDigits (numL t.d)).toArray⟩ := by unfold spellF; rw [if_pos h]
  rw [e] at hk ⊢
  have hk' : k < (Lib.decDigits (numL t.d)).length := hk
  rw [bt_mk _ k hk']
  have := dec_digits (numL t.d) _ (List.getElem_mem hk')
  omega
end Go.Proofs.YtagcfgoofiibfaaGreatDoor
namespace Go.Proofs.YtagcfgoofiibfaaGreatDoor
open Go Go.RowKit
theorem Agr.cnt' {s t : ByteArray} {i j n : Nat} (h : Agr s t i j n) (p : Int → Bool) (hp : p 0 = false) (hc : Go.Proofs.YtagcfgoofiibfaaGreatDoor.cnt p s i < n) : Go.Proofs.YtagcfgoofiibfaaGreatDoor.cnt p t j = Go.Proofs.YtagcfgoofiibfaaGreatDoor.cnt p s i := h.cnt p hp (Nat.le_of_lt hc) (fun e => by omega)
theorem cnt_ge (p : Int → Bool) {s t : ByteArray} {i j n : Nat} (H : Agr s t i j n) (hc : cnt p s i = n) : n ≤ cnt p t j := by
  rcases Nat.lt_or_ge (cnt p t j) n with q | q
  · exfalso
    have hlt := H.lt
    have h1 := cnt_stop p t _ j rfl (by omega)
    have h2 := (cnt_lt p s _ i rfl (cnt p t j) (by omega)).2
    rw [H.b _ q, h2] at h1; cases h1
  · exact q
theorem sgn_same {C T : ByteArray} {i n : Nat} (H : Agr C T i i n) : ∀ N, N ≤ n → sgn T i N = sgn C i N
  | 0, _ => rfl
  | N + 1, h => by
    simp only [sgn]
    rw [H.ext (N + 1) h, sgn_same H N (by omega)]
theorem ltr_rest {C : ByteArray} {x : Nat} {qs : List Tk} {ys : List (Nat × Nat)} (hx : x < C.size) (hc : cnt ltr C x = C.size - x) (hs : Sc C x qs ys) : qs.length ≤ 1 := by
  have h0 := (cnt_lt ltr C _ x rfl 0 (by omega)).2
  rw [Nat.add_zero] at h0
  have hr := ltr_rnb h0
  have hrn : cnt rnb C x = C.size - x := by
    have h1 := cnt_sub ltr rnb (fun _ => ltr_rnb) C x
    have h2 := cnt_le rnb C x
    omega
  have hnd : dgt (bt C x) = false := by
    rcases hd : dgt (bt C x) with _ | _
    · rfl
    · simp [dgt, ltr] at hd h0; omega
  have hcd := cnt_no dgt C x hnd
  cases hs with
  | fin => simp
  | blank _ _ _ _ hb _ => rw [rnb_noblk hr] at hb; cases hb
  | com _ j _ _ _ _ hcm _ =>
    exfalso
    have n1 : sees C x ⟨#[92, 42]⟩ = false := sees_first _ _ _ (by decide) (by intro e; rw [e] at hr; revert hr; decide)
    have n2 : sees C x ⟨#[40, 42]⟩ = false := sees_first _ _ _ (by decide) (by intro e; rw [e] at hr; revert hr; decide)
    unfold item at hcm
    rw [n1, n2] at hcm
    simp only [Bool.false_eq_true, if_false] at hcm
    split at hcm <;> cases hcm
  | tok _ p ps _ _ hb hit h' =>
    have ht := (item_tok C x p hx hit).1
    have hen : p.en = C.size := by
      unfold tokF at ht
      rw [if_pos hr] at ht
      unfold runF at ht
      rw [hcd, hrn, if_neg (by omega)] at ht
      have nop : ∀ a b : UInt8, Lib.hasPrefix (C.extract x (x + (C.size - x))).data.toList [a, b, 95] = false := fun a b => by
        rcases hp : Lib.hasPrefix (C.extract x (x + (C.size - x))).data.toList [a, b, 95] with _ | _
        · rfl
        · exfalso
          have hlen := isPrefixOf_len _ _ hp
          rw [Array.length_toList] at hlen
          change 3 ≤ (C.extract x (x + (C.size - x))).size at hlen
          rw [ext_size C x _ (by omega)] at hlen
          have h3 := pre_byte C x _ _ hp
          have h4 := congrArg (fun l => l[2]?) h3
          simp only [List.length_cons, List.length_nil] at h4
          rw [List.getElem?_take_of_lt (by omega), List.getElem?_take_of_lt (by omega), List.getElem?_drop] at h4
          have h5 := (cnt_lt ltr C _ x rfl 2 (by omega)).2
          unfold bt at h5
          rw [List.getD_eq_getElem?_getD, ← h4] at h5
          revert h5; simp [ltr]
      rw [nop 87 70, nop 83 70] at ht
      simp only [Bool.or_self, Bool.false_eq_true, if_false] at ht
      (repeat' split at ht) <;> first | (cases ht; done) | (injection ht with ht; subst ht; simp only []; omega)
    have := h'.len
    show ps.length + 1 ≤ 1
    omega
theorem look {C T : ByteArray} {i : Nat} {p : Tk} {qs : List Tk} {ys : List (Nat × Nat)} (hi : i < C.size) (h : item C i = .tok p) (hs : Sc C p.en qs ys) (hq : 2 ≤ qs.length) (h5 : p.en + 3 ≤ C.size) (H : Agr C T i i (C.size - i)) : item T i = .tok p := by
  obtain ⟨ht, g2, g3, g4, g5, g6⟩ := item_tok C i p hi h
  refine item_of ?_ (by rw [H.sees _ (by show 2 ≤ _; omega)]; exact g5) (by rw [H.sees _ (by show 2 ≤ _; omega)]; exact g6)
  have e0 := H.b 0 (by omega)
  rw [Nat.add_zero] at e0
  have hlt := H.lt
  unfold tokF at ht ⊢
  rw [e0]
  split at ht
  · rename_i hr
    rw [if_pos hr]
    have hcy := cnt_yes rnb C i hi hr
    have hcl := cnt_le rnb C i
    have hdr := cnt_sub dgt rnb (fun _ => dgt_rnb) C i
    rcases Nat.lt_or_ge (cnt rnb C i) (C.size - i) with hl | hl
    · have r1 := H.cnt' rnb (by decide) hl
      have r2 := H.cnt' dgt (by decide) (by omega)
      unfold runF at ht ⊢
      rw [r1, r2, H.ext _ (by omega)]; exact ht
    · have hn : cnt rnb C i = C.size - i := by omega
      have hm := cnt_ge rnb H hn
      have hp3 : ∀ q : List UInt8, q.length = 3 → 3 ≤ C.size - i → Lib.hasPrefix (T.extract i (i + cnt rnb T i)).data.toList q = Lib.hasPrefix (C.extract i (i + cnt rnb C i)).data.toList q := fun q hq h3 =>
        pre_same C T i i _ _ q (by omega) (by omega) (C.size - i) H (by omega)
      unfold runF at ht
      split at ht
      · split at ht
        · cases ht
        · injection ht with ht; subst ht; simp only [] at h5; omega
      split at ht
      · rename_i hp
        injection ht with ht
        subst ht
        simp only [] at h5
        have h0 : dgt (bt C i) = false := by
          rw [Bool.or_eq_true] at hp
          have key : ∀ (a : UInt8) (q : List UInt8), Lib.hasPrefix (C.extract i (i + cnt rnb C i)).data.toList (a :: q) = true → bt C i = (a.toNat : Int) := by
            intro a q hq
            have h3 := pre_byte C i _ _ hq
            have h4 := congrArg (fun l => l[0]?) h3
            rw [drop_bt C i hi, hcy] at h4
            simp at h4
            unfold bt
            rw [h4]; simp
          rcases hp with hp | hp
          · rw [key 87 _ hp]; decide
          · rw [key 83 _ hp]; decide
        have hdt : ¬ cnt dgt T i = cnt rnb T i := by
          rw [cnt_no dgt T i (by rw [e0]; exact h0)]; omega
        unfold runF
        rw [if_neg hdt, if_pos (by rw [hp3 [87, 70, 95] rfl (by omega), hp3 [83, 70, 95] rfl (by omega)]; exact hp)]
        have e3 : (T.extract i (i + cnt rnb T i)).extract 0 3 = (C.extract i (i + cnt rnb C i)).extract 0 3 := by
          apply ba_eq
          have z : (3 : Nat) = 0 + 3 := rfl
          rw [z, extLst, extLst, extLst, extLst, List.drop_zero, List.drop_zero, List.take_take, List.take_take, Nat.min_eq_left (by omega), Nat.min_eq_left (by omega), H.drop 3 (by omega)]
        rw [e3]
      split at ht
      · injection ht with ht; subst ht; simp only [] at h5; omega
      split at ht
      · injection ht with ht; subst ht; simp only [] at h5; omega
      split at ht
      · cases ht
      split at ht
      · cases ht
      · injection ht with ht; subst ht; simp only [] at h5; omega
  rename_i hr
  rw [if_neg hr]
  have b1 := H.b 1 (by omega)
  have b2 := H.b 2 (by omega)
  have eb : baseF T i = baseF C i := by unfold baseF; rw [e0, b1, b2]
  rw [eb]
  split at ht
  · rename_i hb
    rw [if_pos hb]
    have H2 := H.shift 2 (by omega)
    unfold basedF at ht ⊢
    have hc : cnt rnb T (i + 2) = cnt rnb C (i + 2) := by
      refine H2.cnt' rnb (by decide) ?_
      split at ht
      · cases ht
      · injection ht with ht; subst ht; simp only [] at h5; omega
    have hcl := cnt_le rnb C (i + 2)
    rw [eb, hc, H2.ext _ (by omega)]; exact ht
  rename_i hb
  rw [if_neg hb]
  split at ht
  · rename_i h34
    rw [if_pos h34]
    have := quo_loc C T i i (C.size - i) p H _ 1 [] (T.size + 1 - i) ht (by omega) (by omega)
    rw [this]
    have : p.mv i = p := by unfold Tk.mv; rcases p with ⟨k, s', d, at_, en, l, c⟩; simp only [] at g4 g2 ⊢; subst g4; congr 1; omega
    rw [this]
  rename_i h34
  rw [if_neg h34]
  rw [H.sees _ (by show 4 ≤ _; omega), H.sees _ (by show 4 ≤ _; omega)]
  split at ht
  · rename_i h1
    rw [if_pos h1]
    injection ht with ht
    have hc := H.cnt' (fun b => b == 45) (by decide) (by subst ht; simp only [] at h5; omega)
    rw [hc, ht]
  rename_i h1
  rw [if_neg h1]
  split at ht
  · rename_i h2
    rw [if_pos h2]
    injection ht with ht
    have hc := H.cnt' (fun b => b == 61) (by decide) (by subst ht; simp only [] at h5; omega)
    rw [hc, ht]
  rename_i h2
  rw [if_neg h2]
  have H1 := H.shift 1 (by omega)
  have hcl := cnt_le ltr C (i + 1)
  unfold signF at ht ⊢
  rw [e0]
  split at ht
  · rename_i hc
    injection ht with ht
    have hcs : cnt ltr T (i + 1) = cnt ltr C (i + 1) := H1.cnt' ltr (by decide) (by subst ht; simp only [] at h5; omega)
    rw [hcs, H.ext _ (by omega), if_pos hc, ht]
  rename_i hc
  obtain ⟨L, c, l1, l2, l3, l4, l5, l6⟩ := sgn_ok C i p _ ht
  have hcs : cnt ltr T (i + 1) = cnt ltr C (i + 1) := by
    refine H1.cnt' ltr (by decide) ?_
    rcases Nat.lt_or_ge (cnt ltr C (i + 1)) (C.size - i - 1) with q | q
    · exact q
    · exfalso
      subst l3
      simp only [] at h5 hs
      rcases Nat.lt_or_ge 1 L with q2 | q2
      · have := sign_nolet C i L c l4 l5 (by omega) 1 (by omega)
        have h0 := (cnt_lt ltr C _ (i + 1) rfl 0 (by omega)).2
        rw [Nat.add_zero, this] at h0; cases h0
      · have eL : L = 1 := by omega
        subst eL
        have := ltr_rest (by omega) (by omega) hs
        omega
  rw [hcs, H.ext _ (by omega), if_neg hc]
  rw [Nat.min_eq_left (by omega)] at ht ⊢
  rw [sgn_same H 3 (by omega)]; exact ht
end Go.Proofs.YtagcfgoofiibfaaGreatDoor
namespace Go.Proofs.YtagcfgoofiibfaaGreatDoor
open Go Go.RowKit
theorem like_key : ∀ {a b : List Tk}, likeL a b = true → a.map Tk.key = b.map Tk.key
  | [], [], _ => rfl
  | [], b :: bs, h => by simp [likeL] at h
  | a :: as', [], h => by simp [likeL] at h
  | a :: as', b :: bs', h => by
    simp only [likeL, Bool.and_eq_true] at h
    have := like_key h.2
    simp only [List.map_cons, this, List.cons.injEq, and_true]
    have h1 := h.1
    unfold likeF at h1
    simp at h1
    unfold Tk.key
    rw [h1.1.1, h1.1.2, h1.2]
def bsp (b : Bool) : ByteArray := if b then sp else ByteArray.empty
def spells : List Tk → ByteArray
  | [] => ByteArray.empty
  | t :: l => spellF t ++ spells l
def joinT : List (Bool × Tk) → ByteArray
  | [] => ByteArray.empty
  | (b, t) :: r => (bsp b ++ spellF t) ++ joinT r
def natT (a : Nat) (t : Tk) : Tk := ⟨t.k, t.s, t.d, a, a + (spellF t).size, 0, 0⟩
def layN : Nat → List (Bool × Tk) → List Tk
  | _, [] => []
  | x, (b, t) :: r => natT (x + (bsp b).size) t :: layN (x + (bsp b).size + (spellF t).size) r
def ff (l : List Tk) : List (Bool × Tk) := l.map fun t => (false, t)
theorem natT_key (a : Nat) (t : Tk) : (natT a t).key = t.key := rfl
theorem natT_spell (a : Nat) (t : Tk) : spellF (natT a t) = spellF t := spellF_key rfl
theorem joinT_app : ∀ (a b : List (Bool × Tk)), joinT (a ++ b) = joinT a ++ joinT b
  | [], b => by simp [joinT]
  | (c, t) :: a, b => by
    simp only [List.cons_append, joinT]
    rw [joinT_app a b, ByteArray.append_assoc (a := bsp c ++ spellF t)]
theorem spells_app : ∀ (a b : List Tk), spells (a ++ b) = spells a ++ spells b
  | [], b => by simp [spells]
  | t :: a, b => by simp only [List.cons_append, spells]; rw [spells_app a b, ByteArray.append_assoc]
theorem joinT_ff : ∀ (l : List Tk), joinT (ff l) = spells l
  | [] => rfl
  | t :: l => by
    show (bsp false ++ spellF t) ++ joinT (ff l) = spellF t ++ spells l
    rw [joinT_ff l, show bsp false = ByteArray.empty from rfl, ByteArray.empty_append]
theorem ff_app (a b : List Tk) : ff (a ++ b) = ff a ++ ff b := by simp [ff]
theorem layN_app : ∀ (a b : List (Bool × Tk)) (x : Nat), layN x (a ++ b) = layN x a ++ layN (x + (joinT a).size) b
  | [], b, x => by simp [layN, joinT]
  | (c, t) :: a, b, x => by
    simp only [List.cons_append, layN, joinT]
    rw [layN_app a b, ByteArray.size_append, ByteArray.size_append, show x + (bsp c).size + (spellF t).size + (joinT a).size = x + ((bsp c).size + (spellF t).size + (joinT a).size) by omega]
theorem layN_keys : ∀ (a : List (Bool × Tk)) (x : Nat), (layN x a).map Tk.key = a.map fun p => p.2.key
  | [], _ => rfl
  | (c, t) :: a, x => by simp only [layN, List.map_cons, layN_keys a, natT_key]
theorem layN_zero : ∀ (a : List (Bool × Tk)) (x : Nat), ∀ p ∈ layN x a, p.line = 0 ∧ p.col = 0
  | [], _, p, h => by simp [layN] at h
  | (c, t) :: a, x, p, h => by
    simp only [layN, List.mem_cons] at h
    rcases h with rfl | h
    · exact ⟨rfl, rfl⟩
    · exact layN_zero a _ p h
theorem layN_len : ∀ (a : List (Bool × Tk)) (x : Nat), (layN x a).length = a.length
  | [], _ => rfl
  | (c, t) :: a, x => by simp only [layN, List.length_cons, layN_len a]
theorem layN_shift (d : Nat) : ∀ (a : List (Bool × Tk)) (x : Nat), (layN x a).map (fun p => p.mv (d + p.at_)) = layN (d + x) a
  | [], _ => rfl
  | (c, t) :: a, x => by
    simp only [layN, List.map_cons, layN_shift d a]
    congr 1
    · unfold natT Tk.mv; simp only []; congr 1 <;> omega
    · congr 1; omega
theorem lastEn_layN : ∀ (a : List (Bool × Tk)) (x : Nat), lastEn (layN x a) x = x + (joinT a).size
  | [], x => by simp [layN, lastEn, joinT]
  | (c, t) :: a, x => by
    have key : ∀ (ps : List Tk) (p : Tk) (i j : Nat), p.en = j → lastEn (p :: ps) i = lastEn ps j := fun ps p i j h => by subst h; rfl
    simp only [layN, joinT, ByteArray.size_append]
    rw [key _ _ _ (x + (bsp c).size + (spellF t).size) rfl, lastEn_layN a]
    omega
theorem lay_of {T : ByteArray} : ∀ (fs : List (Bool × Tk)) (x : Nat), Agr (joinT fs) T 0 x (joinT fs).size → x + (joinT fs).size = T.size → (∀ f ∈ fs, ValidT f.2) → Lay T x (layN x fs)
  | [], x, _, he, _ => by
    have : x = T.size := by simpa [joinT] using he
    subst this; exact .nil
  | (b, t) :: r, x, H, he, hv => by
    simp only [joinT] at H he
    have hz : ((bsp b ++ spellF t) ++ joinT r).size = (bsp b).size + (spellF t).size + (joinT r).size := by simp only [ByteArray.size_append]
    obtain ⟨H1, H2⟩ := agr_parts H
    obtain ⟨H3, H4⟩ := agr_parts H1
    obtain ⟨g1, g2, g3⟩ := spell_item (hv (b, t) (by simp))
    have e1 : (bsp b ++ spellF t).size = (bsp b).size + (spellF t).size := ByteArray.size_append
    have ih := lay_of r (x + (bsp b).size + (spellF t).size) (by rw [show x + (bsp b).size + (spellF t).size = x + (bsp b ++ spellF t).size by omega]; exact H2) (by omega) (fun f hf => hv f (by simp [hf]))
    have hk : (natT (x + (bsp b).size) t).k = 2 → ∀ k, k < (spellF (natT (x + (bsp b).size) t)).size → bt (spellF (natT (x + (bsp b).size) t)) k ≠ 92 := fun h => spell_no92 h
    have h1 : Lay T (x + (bsp b).size) (natT (x + (bsp b).size) t :: layN (x + (bsp b).size + (spellF t).size) r) :=
      .tok (natT (x + (bsp b).size) t) _ (by rw [natT_spell]; exact H4) (by rw [natT_spell]; rfl) (by rw [natT_spell]; exact g3) (by rw [natT_spell]; exact g2) hk ih
    simp only [layN]
    cases b with
    | false => exact h1
    | true =>
      have hb : bt T x = 32 := by
        have := H3.b 0 (by decide)
        rw [Nat.add_zero, Nat.zero_add] at this
        rw [this]; rfl
      exact .gap x _ _ rfl (by have := H3.lt; have : (bsp true).size = 1 := rfl; omega) hb h1
theorem lay_only {fs : List (Bool × Tk)} (hv : ∀ f ∈ fs, ValidT f.2) {qs : List Tk} {ys : List (Nat × Nat)} (h : Sc (joinT fs) 0 qs ys) (hk : qs.map Tk.key = fs.map fun p => p.2.key) : Sc (joinT fs) 0 (layN 0 fs) [] := by
  have hl := lay_of (T := joinT fs) fs 0 ⟨by omega, by omega, fun k _ => rfl⟩ (by omega) hv
  obtain ⟨e1, e2⟩ := hl.only qs ys h (by rw [layN_keys]; exact hk) (layN_zero fs 0)
  subst e1 e2; exact h
theorem Pt.move0 {s t : ByteArray} {M i0 j0 : Nat} (H : Agr s t i0 j0 (M - i0)) {x : Nat} {ps : List Tk} (h : Pt s M x ps []) (hx : i0 ≤ x) (hb : bar (bt t (j0 + (M - i0))) = true) :
    Pt t (j0 + (M - i0)) (j0 + (x - i0)) (ps.map fun p => p.mv (j0 + (p.at_ - i0))) [] := by
  have hnm : ps ≠ [] → Go.Proofs.YtagcfgoofiibfaaGreatDoor.nm s M := fun hne => by
    rcases ps with _ | ⟨p, ps⟩
    · exact absurd rfl hne
    · exact h.nm1
  generalize hy : ([] : List (Nat × Nat)) = ys at h
  induction h with
  | nil => exact .nil
  | blank i ps ys hi hbl h' ih =>
    have hle := h'.le
    have ih' := ih (by omega) hnm hy
    have hlt := H.lt
    refine .blank _ _ _ (by omega) (by rw [H.b _ (by omega), show i0 + (i - i0) = i by omega]; exact hbl) ?_
    rw [show j0 + (i - i0) + 1 = j0 + (i + 1 - i0) by omega]; exact ih'
  | com i j ps ys hi hbl hc h' ih => cases hy
  | tok i p ps ys hi hbl hc h' ih =>
    have hle := h'.le
    obtain ⟨h1, h2, h3, h4, h5, h6⟩ := item_tok s i p hi hc
    have ih' := ih (by omega) (fun _ => hnm (by simp)) hy
    have hlt := H.lt
    have H' := H.shift (i - i0) (by omega)
    rw [show i0 + (i - i0) = i by omega] at H'
    have e1 : i + (M - i0 - (i - i0)) = M := by omega
    have e2 : j0 + (i - i0) + (M - i0 - (i - i0)) = j0 + (M - i0) := by omega
    have := tok_item_loc s t i (j0 + (i - i0)) (M - i0 - (i - i0)) p hi hc H' (by omega) (by rw [e2]; exact hb) (by
      rw [e1]; exact .inr (hnm (by simp)))
    have e3 : j0 + (p.at_ - i0) = j0 + (i - i0) := by rw [h4]
    refine .tok _ _ _ _ (by omega) (by rw [H.b _ (by omega), show i0 + (i - i0) = i by omega]; exact hbl) (by show item t (j0 + (i - i0)) = .tok (p.mv (j0 + (p.at_ - i0))); rw [e3]; exact this) ?_
    have e4 : (p.mv (j0 + (p.at_ - i0))).en = j0 + (p.en - i0) := by
      show j0 + (p.at_ - i0) + (p.en - p.at_) = _
      omega
    rw [e4]; exact ih'
theorem mv_zero {ps : List Tk} (h : ∀ p ∈ ps, p.at_ ≤ p.en) : ps.map (fun p => p.mv p.at_) = ps := by
  conv => rhs; rw [← List.map_id ps]
  refine List.map_congr_left fun p hp => ?_
  have := h p hp
  unfold Tk.mv; rcases p with ⟨k, s', d, at_, en, l, c⟩; simp only [id] at this ⊢; congr 1; omega
theorem two_sc {a c : ByteArray} {ps qs : List Tk} (ha : Sc a 0 ps []) (hc : Sc c 0 qs []) : Sc (a ++ sp ++ c) 0 (ps ++ qs.map fun p => p.mv (a.size + 1 + p.at_)) [] := by
  have h1 := ha.pt (Nat.zero_le _)
  have h2 := hc.pt (Nat.zero_le _)
  have bd := ha.bd
  have s0 : (a ++ sp ++ c).size = a.size + 1 + c.size := by rw [ByteArray.size_append, ByteArray.size_append, sp_size]
  have s1 : ∀ k, k < a.size → bt (a ++ sp ++ c) k = bt a k := fun k hk => by rw [bt_app1 _ _ _ (by rw [ByteArray.size_append]; omega), bt_app1 _ _ _ hk]
  have s10 : bt (a ++ sp ++ c) a.size = 32 := by rw [bt_app1 _ _ _ (by rw [ByteArray.size_append, sp_size]; omega)]; exact bt_app2 a sp 0
  have s2 : ∀ k, bt (a ++ sp ++ c) (a.size + 1 + k) = bt c k := fun k => by
    have := bt_app2 (a ++ sp) c k
    rw [ByteArray.size_append, sp_size] at this; exact this
  generalize a ++ sp ++ c = t at s0 s1 s10 s2
  have H1 : Agr a t 0 0 (a.size - 0) := ⟨by omega, by omega, fun k hk => by rw [Nat.zero_add]; exact s1 k (by omega)⟩
  have H2 : Agr c t 0 (a.size + 1) (c.size - 0) := ⟨by omega, by omega, fun k hk => by rw [Nat.zero_add]; exact s2 k⟩
  have m1 := h1.move0 H1 (Nat.zero_le _) (by rw [Nat.zero_add, Nat.sub_zero, s10]; decide)
  have m2 := h2.move0 H2 (Nat.zero_le _) (bar_end _ _ (by omega))
  simp only [Nat.zero_add, Nat.sub_zero, Nat.add_zero] at m1 m2
  have mid : Pt t (a.size + 1) a.size [] [] := .blank _ _ _ (by omega) (by rw [s10]; decide) .nil
  have := (m1.app mid).app m2
  rw [mv_zero (fun p hp => by have := bd p hp; omega)] at this
  simp only [List.append_nil] at this
  exact this.sc (by omega)
theorem five_ahead {C T : ByteArray} (H : Agr C T 0 0 C.size) {i : Nat} {rs : List Tk} {ys : List (Nat × Nat)} (h : Sc C i rs ys) : ys = [] → ∀ ps qs, rs = ps ++ qs → 5 ≤ qs.length → Pt T (lastEn ps i) i ps [] ∧ Sc C (lastEn ps i) qs [] := by
  have hlt := H.lt
  induction h with
  | fin i hi =>
    intro _ ps qs he hq
    have : qs = [] := by
      have := congrArg List.length he
      simp at this; exact List.eq_nil_of_length_eq_zero (by omega)
    subst this; simp at hq
  | blank i rs ys hi hb h' ih =>
    intro hy ps qs he hq
    rcases ps with _ | ⟨p, ps⟩
    · subst he; exact ⟨.nil, by subst hy; exact .blank i _ _ hi hb h'⟩
    · obtain ⟨h1, h2⟩ := ih hy (p :: ps) qs he hq
      refine ⟨.blank i _ _ (by omega) ?_ h1, h2⟩
      have := H.b i hi
      rw [Nat.zero_add] at this; rw [this]; exact hb
  | com i j rs ys hi hb hc _ ih => intro hy; cases hy
  | tok i p rs ys hi hb hc h' ih =>
    intro hy ps qs he hq
    rcases ps with _ | ⟨q, ps⟩
    · subst he; exact ⟨.nil, by subst hy; exact .tok i p _ _ hi hb hc h'⟩
    · injection he with e1 e2
      subst e1
      obtain ⟨h1, h2⟩ := ih hy ps qs e2 hq
      have hlen := h'.len
      have hrl : 5 ≤ rs.length := by rw [e2]; simp; omega
      have Hi := H.shift i (by omega)
      rw [Nat.zero_add] at Hi
      have hl := look hi hc h' (by omega) (by omega) Hi
      refine ⟨.tok i p _ _ (by omega) ?_ hl h1, h2⟩
      have := H.b i hi
      rw [Nat.zero_add] at this; rw [this]; exact hb
end Go.Proofs.YtagcfgoofiibfaaGreatDoor
namespace Go.Proofs.YtagcfgoofiibfaaGreatDoor
open Go Go.RowKit
def wnd (cur : List Tk) (x : Tk) : List Tk := cur.drop (cur.length - 5) ++ [x]
def rdW (cur : List Tk) (x : Tk) : Bool := readF (spells (wnd cur x)) (wnd cur x)
inductive JR : List (Bool × Tk) → List Tk → Prop
  | first (x : Tk) : ValidT x → JR [(false, x)] [x]
  | glue (d : List (Bool × Tk)) (c : List Tk) (x : Tk) : ValidT x → JR d c → rdW c x = true → JR (d ++ [(false, x)]) (c ++ [x])
  | gap (d : List (Bool × Tk)) (c : List Tk) (x : Tk) : ValidT x → JR d c → rdW c x = false → JR (d ++ [(true, x)]) [x]
theorem JR.valid {d : List (Bool × Tk)} {c : List Tk} (h : JR d c) : ∀ f ∈ d, ValidT f.2 := by
  induction h with
  | first x hv => intro f hf; simp at hf; subst hf; exact hv
  | glue d c x hv _ _ ih => intro f hf; rcases List.mem_append.1 hf with hf | hf; exact ih f hf; simp at hf; subst hf; exact hv
  | gap d c x hv _ _ ih => intro f hf; rcases List.mem_append.1 hf with hf | hf; exact ih f hf; simp at hf; subst hf; exact hv
theorem ff_valid {c : List Tk} (h : ∀ t ∈ c, ValidT t) : ∀ f ∈ ff c, ValidT f.2 := by
  intro f hf
  obtain ⟨t, ht, rfl⟩ := List.mem_map.1 hf
  exact h t ht
theorem ff_keys (c : List Tk) : (ff c).map (fun p => p.2.key) = c.map Tk.key := by simp [ff, List.map_map, Function.comp_def]
theorem read_lay {c : List Tk} (hv : ∀ t ∈ c, ValidT t) (h : readF (spells c) c = true) : Sc (spells c) 0 (layN 0 (ff c)) [] := by
  unfold readF at h
  rcases hs : scan (spells c) with e | ⟨ps, ys⟩
  · rw [hs] at h; cases h
  · rw [hs] at h
    have hsc := (scan_ok_iff _ _ _).1 hs
    have := lay_only (fs := ff c) (ff_valid hv) (qs := ps) (ys := ys) (by rw [joinT_ff]; exact hsc) (by rw [ff_keys]; exact like_key h)
    rw [joinT_ff] at this; exact this
theorem lay_read {c : List Tk} (h : ∃ ys, Sc (spells c) 0 (layN 0 (ff c)) ys) : readF (spells c) c = true := by
  obtain ⟨ys, h⟩ := h
  unfold readF
  rw [(scan_ok_iff _ _ _).2 h]
  exact likeL_key (by rw [layN_keys, ff_keys])
theorem grow {c : List Tk} {x : Tk} (hv : ∀ t ∈ c, ValidT t) (hx : ValidT x) (hc : Sc (spells c) 0 (layN 0 (ff c)) []) (h : rdW c x = true) : Sc (spells (c ++ [x])) 0 (layN 0 (ff (c ++ [x]))) [] := by
  unfold rdW wnd at h
  have hw := read_lay (c := c.drop (c.length - 5) ++ [x]) (fun t ht => by
    rcases List.mem_append.1 ht with ht | ht
    · exact hv t (List.mem_of_mem_drop ht)
    · simp at ht; subst ht; exact hx) h
  obtain ⟨P, hP⟩ : ∃ P, P = c.take (c.length - 5) := ⟨_, rfl⟩
  obtain ⟨Q, hQ⟩ : ∃ Q, Q = c.drop (c.length - 5) := ⟨_, rfl⟩
  have hc2 : c = P ++ Q := by rw [hP, hQ, List.take_append_drop]
  have hl : c.length - 5 = 0 ∨ 5 ≤ Q.length := by rw [hQ]; simp; omega
  rw [← hQ] at hw
  rcases hl with hl | hl
  · have : P = [] := by rw [hP, hl]; rfl
    rw [this, List.nil_append] at hc2
    rw [hc2]; exact hw
  have hT1 : spells (c ++ [x]) = spells c ++ spells [x] := spells_app c [x]
  have hT2 : spells (c ++ [x]) = spells P ++ spells (Q ++ [x]) := by rw [hc2, List.append_assoc, spells_app]
  have hL : layN 0 (ff (c ++ [x])) = layN 0 (ff P) ++ layN (spells P).size (ff (Q ++ [x])) := by
    rw [hc2, List.append_assoc, ff_app, layN_app, joinT_ff, Nat.zero_add]
  have hC : layN 0 (ff c) = layN 0 (ff P) ++ layN (spells P).size (ff Q) := by
    conv => lhs; rw [hc2]
    rw [ff_app, layN_app, joinT_ff, Nat.zero_add]
  have A1 := Agr.app1 (spells c) (spells [x])
  have A2 := Agr.app2 (spells P) (spells (Q ++ [x]))
  rw [← hT1] at A1
  rw [← hT2] at A2
  have hsz : (spells (c ++ [x])).size = (spells P).size + (spells (Q ++ [x])).size := by rw [hT2, ByteArray.size_append]
  obtain ⟨h1, _⟩ := five_ahead A1 hc rfl _ _ hC (by rw [layN_len]; simpa [ff] using hl)
  rw [lastEn_layN, joinT_ff, Nat.zero_add] at h1
  have h2 := (hw.pt (Nat.zero_le _)).move0 (by rw [Nat.sub_zero]; exact A2) (Nat.zero_le _) (bar_end _ _ (by omega))
  simp only [Nat.sub_zero, Nat.add_zero] at h2
  rw [layN_shift, Nat.add_zero] at h2
  rw [hL]
  exact (h1.app h2).sc (by omega)
theorem JR.form {d : List (Bool × Tk)} {c : List Tk} (h : JR d c) : ∃ A b x B, d = A ++ (b, x) :: ff B ∧ c = x :: B ∧ (b = false → A = []) ∧ (∃ as', Sc (joinT A) 0 as' [] ∧ as' = layN 0 A) ∧ Sc (spells c) 0 (layN 0 (ff c)) [] := by
  have one : ∀ x, ValidT x → Sc (spells [x]) 0 (layN 0 (ff [x])) [] := fun x hv => by
    obtain ⟨g1, g2, g3⟩ := spell_item hv
    have e : spells [x] = spellF x := by simp [spells]
    rw [e]
    have e2 : layN 0 (ff [x]) = [natT 0 x] := rfl
    rw [e2]
    refine .tok 0 (natT 0 x) _ _ g3 g2 ?_ (.fin _ (by show _ ≤ 0 + (spellF x).size; omega))
    rw [g1]; unfold natT; rw [Nat.zero_add]
  have hval := h.valid
  induction h with
  | first x hv => exact ⟨[], false, x, [], rfl, rfl, fun _ => rfl, ⟨[], .fin 0 (Nat.le_refl _), rfl⟩, one x hv⟩
  | glue d c x hv h hr ih =>
    obtain ⟨A, b, y, B, e1, e2, e3, e4, e5⟩ := ih (fun f hf => hval f (by simp [hf]))
    refine ⟨A, b, y, B ++ [x], by rw [e1]; simp [ff], by rw [e2]; rfl, e3, e4, ?_⟩
    refine grow (fun t ht => ?_) hv e5 hr
    have hm : ∃ f ∈ d, f.2 = t := by
      rw [e2] at ht
      rcases List.mem_cons.1 ht with rfl | ht
      · exact ⟨(b, t), by rw [e1]; simp, rfl⟩
      · exact ⟨(false, t), by rw [e1]; simp [ff]; exact .inr (.inr ht), rfl⟩
    obtain ⟨f, hf, rfl⟩ := hm
    exact h.valid f hf
  | gap d c x hv h hr ih =>
    obtain ⟨A, b, y, B, e1, e2, e3, ⟨as', e4, e4'⟩, e5⟩ := ih (fun f hf => hval f (by simp [hf]))
    subst e4'
    refine ⟨d, true, x, [], rfl, rfl, (fun e => by cases e), ⟨_, ?_, rfl⟩, one x hv⟩
    rw [e1]
    have hj : joinT (A ++ (b, y) :: ff B) = joinT A ++ bsp b ++ spells c := by
      rw [joinT_app, e2, ByteArray.append_assoc]
      congr 1
      show (bsp b ++ spellF y) ++ joinT (ff B) = bsp b ++ (spellF y ++ spells B)
      rw [joinT_ff, ByteArray.append_assoc]
    cases b with
    | false =>
      have hA := e3 rfl
      subst hA
      have e6 : [] ++ (false, y) :: ff B = ff c := by rw [e2]; rfl
      rw [e6, joinT_ff]; exact e5
    | true =>
      rw [hj]
      have := two_sc e4 e5
      have hl : layN 0 (A ++ (true, y) :: ff B) = layN 0 A ++ (layN 0 (ff c)).map (fun p => p.mv ((joinT A).size + 1 + p.at_)) := by
        rw [layN_app, layN_shift, e2, Nat.zero_add]
        rfl
      rw [hl]; exact this
theorem JR.back {d : List (Bool × Tk)} {c : List Tk} (h : JR d c) : Sc (joinT d) 0 (layN 0 d) [] := by
  obtain ⟨A, b, y, B, e1, e2, e3, ⟨as', e4, e4'⟩, e5⟩ := h.form
  subst e4'
  rw [e1]
  have hj : joinT (A ++ (b, y) :: ff B) = joinT A ++ bsp b ++ spells c := by
    rw [joinT_app, e2, ByteArray.append_assoc]
    congr 1
    show (bsp b ++ spellF y) ++ joinT (ff B) = bsp b ++ (spellF y ++ spells B)
    rw [joinT_ff, ByteArray.append_assoc]
  cases b with
  | false =>
    have hA := e3 rfl
    subst hA
    have e6 : [] ++ (false, y) :: ff B = ff c := by rw [e2]; rfl
    rw [e6, joinT_ff]; exact e5
  | true =>
    rw [hj]
    have := two_sc e4 e5
    have hl : layN 0 (A ++ (true, y) :: ff B) = layN 0 A ++ (layN 0 (ff c)).map (fun p => p.mv ((joinT A).size + 1 + p.at_)) := by
      rw [layN_app, layN_shift, e2, Nat.zero_add]
      rfl
    rw [hl]; exact this
theorem JR.gaps {d : List (Bool × Tk)} {c : List Tk} (h : JR d c) : ∀ P x R, d = P ++ (true, x) :: R → ∃ c', JR P c' ∧ rdW c' x = false := by
  have snoc : ∀ {α : Type} (a : List α) (y : α) (P : List α) (x : α) (R : List α), a ++ [y] = P ++ x :: R → (R = [] ∧ a = P ∧ y = x) ∨ ∃ R', R = R' ++ [y] ∧ a = P ++ x :: R' := by
    intro α a y P x R h
    rcases List.eq_nil_or_concat R with rfl | ⟨R', z, rfl⟩
    · have := List.append_inj' h rfl
      injection this.2 with e _
      exact .inl ⟨rfl, this.1, e⟩
    · right
      have h' : a ++ [y] = (P ++ x :: R') ++ [z] := by rw [h]; simp
      have := List.append_inj' h' rfl
      injection this.2 with e _
      exact ⟨R', by rw [e]; simp, this.1⟩
  induction h with
  | first x hv =>
    intro P y R he
    rcases snoc [] (false, x) P (true, y) R he with ⟨_, _, h⟩ | ⟨R', _, h⟩
    · cases h
    · simp at h
  | glue d c x hv h hr ih =>
    intro P y R he
    rcases snoc d (false, x) P (true, y) R he with ⟨_, _, h⟩ | ⟨R', _, h⟩
    · cases h
    · exact ih P y R' h
  | gap d c x hv h hr ih =>
    intro P y R he
    rcases snoc d (true, x) P (true, y) R he with ⟨_, h1, h2⟩ | ⟨R', _, h1⟩
    · injection h2 with _ h2
      subst h1 h2
      exact ⟨c, h, hr⟩
    · exact ih P y R' h1
theorem ext_mid (X W Y : ByteArray) : (X ++ W ++ Y).extract X.size (X.size + W.size) = W := by
  apply ba_eq
  rw [extLst]
  have e1 : X.size = X.data.toList.length := by rw [Array.length_toList]; rfl
  have e2 : W.size = W.data.toList.length := by rw [Array.length_toList]; rfl
  rw [ByteArray.data_append, ByteArray.data_append, Array.toList_append, Array.toList_append, e1, e2, List.append_assoc, List.drop_left, List.take_left]
theorem lay_part {A : List (Bool × Tk)} {b : Bool} {z : Tk} {B : List Tk} {R : List (Bool × Tk)} (h : Sc (joinT (A ++ (b, z) :: ff B ++ R)) 0 (layN 0 (A ++ (b, z) :: ff B ++ R)) []) : ∃ ys, Sc (spells (z :: B)) 0 (layN 0 (ff (z :: B))) ys := by
  have hj : joinT (A ++ (b, z) :: ff B ++ R) = (joinT A ++ bsp b) ++ spells (z :: B) ++ joinT R := by
    rw [joinT_app, joinT_app]
    congr 1
    rw [ByteArray.append_assoc]
    congr 1
    show (bsp b ++ spellF z) ++ joinT (ff B) = bsp b ++ (spellF z ++ spells B)
    rw [joinT_ff, ByteArray.append_assoc]
  have hl : layN 0 (A ++ (b, z) :: ff B ++ R) = layN 0 A ++ (layN ((joinT A).size + (bsp b).size) (ff (z :: B)) ++ layN ((joinT A).size + (bsp b).size + (spells (z :: B)).size) R) := by
    rw [List.append_assoc, layN_app, Nat.zero_add]
    congr 1
    rw [layN_app]
    have e1 : layN (joinT A).size ((b, z) :: ff B) = layN ((joinT A).size + (bsp b).size) (ff (z :: B)) := rfl
    rw [e1]
    congr 2
    show (joinT A).size + ((bsp b ++ spellF z) ++ joinT (ff B)).size = (joinT A).size + (bsp b).size + (spellF z ++ spells B).size
    rw [joinT_ff]
    simp only [ByteArray.size_append]; omega
  rw [hl] at h
  obtain ⟨zs, ws, _, h2⟩ := Sc.cut _ _ _ _ h
  rw [lastEn_layN, Nat.zero_add] at h2
  rw [hj] at h2
  generalize hT : (joinT A ++ bsp b) ++ spells (z :: B) ++ joinT R = T at h2
  have hsz : T.size = (joinT A).size + (bsp b).size + (spells (z :: B)).size + (joinT R).size := by rw [← hT]; simp only [ByteArray.size_append]
  have h3 : ∃ ws, Sc T ((joinT A).size + (bsp b).size) (layN ((joinT A).size + (bsp b).size) (ff (z :: B)) ++ layN ((joinT A).size + (bsp b).size + (spells (z :: B)).size) R) ws := by
    cases b with
    | false => exact ⟨ws, h2⟩
    | true =>
      refine ⟨ws, h2.blank_inv ?_ ?_⟩
      · have : (bsp true).size = 1 := rfl
        omega
      · have : bt T (joinT A).size = 32 := by
          rw [← hT, bt_app1 _ _ _ (by simp only [ByteArray.size_append]; have : (bsp true).size = 1 := rfl; omega), bt_app1 _ _ _ (by simp only [ByteArray.size_append]; have : (bsp true).size = 1 := rfl; omega)]
          exact bt_app2 (joinT A) sp 0
        rw [this]; decide
  obtain ⟨ws, h3⟩ := h3
  obtain ⟨ys, h4⟩ := sub_sc h3 (by omega)
  rw [lastEn_layN, joinT_ff] at h4
  have e : T.extract ((joinT A).size + (bsp b).size) ((joinT A).size + (bsp b).size + (spells (z :: B)).size) = spells (z :: B) := by
    rw [← hT]
    have := ext_mid (joinT A ++ bsp b) (spells (z :: B)) (joinT R)
    rw [ByteArray.size_append] at this
    exact this
  rw [e] at h4
  refine ⟨ys, ?_⟩
  have hm : ∀ (l : List (Bool × Tk)) (x a : Nat), a ≤ x → (layN x l).map (fun p => p.mv (p.at_ - a)) = layN (x - a) l := by
    intro l
    induction l with
    | nil => intro x a _; rfl
    | cons f l ih =>
      intro x a hx
      obtain ⟨c, t⟩ := f
      simp only [layN, List.map_cons]
      rw [ih _ _ (by omega)]
      congr 1
      · unfold natT Tk.mv; simp only []; congr 1 <;> omega
      · congr 1; omega
  rw [hm _ _ _ (Nat.le_refl _), Nat.sub_self] at h4
  exact h4
theorem JR.need {d : List (Bool × Tk)} {c : List Tk} (h : JR d c) {P : List (Bool × Tk)} {x : Tk} {R : List (Bool × Tk)} (hd : d = P ++ (true, x) :: R) {qs : List Tk} {ys : List (Nat × Nat)}
    (hs : Sc (joinT (P ++ (false, x) :: R)) 0 qs ys) : qs.map Tk.key ≠ d.map fun p => p.2.key := by
  intro hk
  have hv := h.valid
  obtain ⟨c', h1, h2⟩ := h.gaps P x R hd
  have hl := lay_only (fs := P ++ (false, x) :: R) (fun f hf => by
    rw [hd] at hv
    rcases List.mem_append.1 hf with hf | hf
    · exact hv f (by simp [hf])
    · rcases List.mem_cons.1 hf with rfl | hf
      · exact hv (true, x) (by simp)
      · exact hv f (by simp [hf])) hs (by rw [hk, hd]; simp)
  obtain ⟨A, b, y, B, e1, e2, _, _, _⟩ := h1.form
  -- the window
  have hw : ∃ A2 b2 z B2, P = A2 ++ (b2, z) :: ff B2 ∧ c'.drop (c'.length - 5) = z :: B2 := by
    rcases hk0 : c'.length - 5 with _ | k
    · exact ⟨A, b, y, B, e1, by rw [e2]; rfl⟩
    · have hlen : k < B.length := by rw [e2] at hk0; simp at hk0; omega
      refine ⟨A ++ (b, y) :: ff (B.take k), false, B[k], B.drop (k + 1), ?_, ?_⟩
      · rw [e1, List.append_assoc]
        congr 1
        show (b, y) :: ff B = (b, y) :: (ff (B.take k) ++ (false, B[k]) :: ff (B.drop (k + 1)))
        congr 1
        have : B = B.take k ++ B[k] :: B.drop (k + 1) := by rw [← List.drop_eq_getElem_cons hlen, List.take_append_drop]
        conv => lhs; rw [this]
        rw [ff_app]; rfl
      · rw [e2, List.drop_succ_cons, List.drop_eq_getElem_cons hlen]
  obtain ⟨A2, b2, z, B2, w1, w2⟩ := hw
  have e5 : P ++ (false, x) :: R = A2 ++ (b2, z) :: ff (B2 ++ [x]) ++ R := by rw [w1, ff_app]; simp [ff]
  rw [e5] at hl
  have := lay_read (lay_part hl)
  unfold rdW wnd at h2
  rw [w2] at h2
  rw [show z :: (B2 ++ [x]) = z :: B2 ++ [x] from rfl] at this
  rw [this] at h2; cases h2
end Go.Proofs.YtagcfgoofiibfaaGreatDoor
namespace Go.Proofs.YtagcfgoofiibfaaGreatDoor
open Go Go.RowKit
def gText (st : JS) (x : Tk) : ByteArray := (⟨st.t.toArray⟩ : ByteArray).extract (st.g.getD st.k 0) (⟨st.t.toArray⟩ : ByteArray).size ++ spellF x
def gGlues (ts : List Tk) (i : Nat) (st : JS) (x : Tk) : Bool := readF (gText st x) ((ts.drop (st.f + st.k)).take (i + 1 - (st.f + st.k)))
def gMid (ts : List Tk) (i : Nat) (st : JS) (x : Tk) : JS := if i = 0 then st else if gGlues ts i st x then st else ⟨st.t ++ [32], [], i⟩
def gPut (st : JS) (x : Tk) : JS := ⟨st.t ++ (spellF x).data.toList, st.g ++ [st.t.length], st.f⟩
def gGo (ts : List Tk) : Nat → Nat → JS → Option (List UInt8)
  | 0, _, st => some st.t
  | f + 1, i, st => match ts[i]? with
    | none => some st.t
    | some x => if 100000 < (gPut (gMid ts i st x) x).t.length then none else gGo ts f (i + 1) (gPut (gMid ts i st x) x)
def gJoin (ts : List Tk) : Option (List UInt8) := if 20000 < ts.length then none else gGo ts ts.length 0 ⟨[], [], 0⟩
structure GR (ts : List Tk) (i : Nat) (st : JS) (d : List (Bool × Tk)) (c : List Tk) : Prop where
  r : JR d c
  l : d.map Prod.snd = ts.take i
  t : st.t = (joinT d).data.toList
  f : st.f + c.length = i
  n : st.g.length = c.length
  g : ∀ j, j < c.length → st.g.getD j 0 + (spells (c.drop j)).size = (joinT d).size
theorem JR.pos {d : List (Bool × Tk)} {c : List Tk} (h : JR d c) : 0 < c.length := by
  obtain ⟨_, _, x, B, _, e, _⟩ := h.form
  subst e; simp
theorem JR.tail {d : List (Bool × Tk)} {c : List Tk} (h : JR d c) : ∃ X A, joinT d = X ++ spells c ∧ d.map Prod.snd = A ++ c := by
  obtain ⟨A, b, x, B, e1, e2, _⟩ := h.form
  subst e1 e2
  refine ⟨joinT A ++ bsp b, A.map Prod.snd, ?_, ?_⟩
  · rw [joinT_app, ByteArray.append_assoc]
    congr 1
    show (bsp b ++ spellF x) ++ joinT (ff B) = bsp b ++ (spellF x ++ spells B)
    rw [joinT_ff, ByteArray.append_assoc]
  · simp [ff, List.map_map, Function.comp_def]
theorem ext_back (X W : ByteArray) (i : Nat) (h : i + W.size = (X ++ W).size) : (X ++ W).extract i (X ++ W).size = W := by
  have h0 : (X ++ W).size = X.size + W.size := ByteArray.size_append
  have := ext_mid X W ByteArray.empty
  rw [ByteArray.append_empty] at this
  rw [h0, show i = X.size by omega]; exact this
theorem back_arr (S : ByteArray) (l : List UInt8) (h : l = S.data.toList) : (⟨l.toArray⟩ : ByteArray) = S := by
  subst h; apply ba_eq; simp
theorem GR.glues {ts : List Tk} {i : Nat} {st : JS} {d : List (Bool × Tk)} {c : List Tk} (h : GR ts i st d c) {x : Tk} (hx : ts[i]? = some x) : gGlues ts i st x = rdW c x := by
  have hp := h.r.pos
  obtain ⟨X, A, h1, h2⟩ := h.r.tail
  have hk : st.k = c.length - 5 := by unfold JS.k; rw [h.n]
  have hlt : c.length - 5 < c.length := by omega
  have hg := h.g _ hlt
  have hsz : (⟨st.t.toArray⟩ : ByteArray) = joinT d := back_arr _ _ h.t
  have e1 : gText st x = spells (wnd c x) := by
    unfold gText wnd
    rw [hsz, hk, spells_app]
    have e2 : spells [x] = spellF x := by simp [spells]
    rw [e2]
    congr 1
    have e3 : joinT d = (X ++ spells (c.take (c.length - 5))) ++ spells (c.drop (c.length - 5)) := by
      rw [h1, ByteArray.append_assoc, ← spells_app, List.take_append_drop]
    rw [e3] at hg ⊢
    exact ext_back _ _ _ hg
  have e4 : (ts.drop (st.f + st.k)).take (i + 1 - (st.f + st.k)) = wnd c x := by
    have hf := h.f
    have hil : i < ts.length := by
      rcases Nat.lt_or_ge i ts.length with q | q
      · exact q
      · rw [List.getElem?_eq_none q] at hx; cases hx
    have hA : A.length = st.f := by
      have := congrArg List.length (h2.symm.trans h.l)
      simp at this; omega
    have ht : ts.take (i + 1) = A ++ (c ++ [x]) := by
      rw [List.take_add_one, hx, ← h.l, h2]; simp
    rw [← List.drop_take, ht, hk, ← hA, List.drop_append, List.drop_eq_nil_of_le (by omega), List.nil_append, show A.length + (c.length - 5) - A.length = c.length - 5 by omega, List.drop_append_of_le_length (by omega)]
    rfl
  unfold gGlues rdW
  rw [e1, e4]
theorem GR.step {ts : List Tk} {i : Nat} {st : JS} {d : List (Bool × Tk)} {c : List Tk} (h : GR ts i st d c) {x : Tk} (hx : ts[i]? = some x) (hv : ValidT x) (hi : 0 < i) : ∃ d' c', GR ts (i + 1) (gPut (gMid ts i st x) x) d' c' := by
  have hl : ts.take (i + 1) = ts.take i ++ [x] := by rw [List.take_add_one, hx]; rfl
  have hsz : st.t.length = (joinT d).size := by rw [h.t, Array.length_toList]; rfl
  unfold gMid
  rw [if_neg (by omega), h.glues hx]
  rcases hr : rdW c x with _ | _
  · refine ⟨_, _, .gap d c x hv h.r hr, by rw [hl, ← h.l]; simp, ?_, by show i + 1 = i + 1; rfl, rfl, ?_⟩
    · show (st.t ++ [32]) ++ (spellF x).data.toList = _
      rw [joinT_app, h.t]
      show _ = (joinT d ++ ((sp ++ spellF x) ++ ByteArray.empty)).data.toList
      rw [ByteArray.append_empty]
      simp [ByteArray.data_append, sp]
    · intro j hj
      simp at hj
      subst hj
      show (st.t ++ [32]).length + _ = _
      rw [joinT_app]
      show _ = (joinT d ++ ((sp ++ spellF x) ++ ByteArray.empty)).size
      simp only [List.length_append, hsz, ByteArray.size_append, List.drop_zero, spells, sp_size, List.length_singleton, ByteArray.size_empty]
      omega
  · refine ⟨_, _, .glue d c x hv h.r hr, by rw [hl, ← h.l]; simp, ?_, ?_, ?_, ?_⟩
    · show st.t ++ (spellF x).data.toList = _
      rw [joinT_app, h.t]
      show _ = (joinT d ++ ((ByteArray.empty ++ spellF x) ++ ByteArray.empty)).data.toList
      rw [ByteArray.append_empty, ByteArray.empty_append]
      simp [ByteArray.data_append]
    · show st.f + (c ++ [x]).length = i + 1
      have := h.f
      simp; omega
    · show (st.g ++ [st.t.length]).length = (c ++ [x]).length
      simp [h.n]
    · intro j hj
      simp at hj
      have ez : (joinT (d ++ [(false, x)])).size = (joinT d).size + (spellF x).size := by
        rw [joinT_app, ByteArray.size_append]
        congr 1
        show ((ByteArray.empty ++ spellF x) ++ ByteArray.empty).size = _
        rw [ByteArray.append_empty, ByteArray.empty_append]
      show (st.g ++ [st.t.length]).getD j 0 + _ = _
      rw [ez, List.getD_eq_getElem?_getD]
      rcases Nat.lt_or_ge j c.length with q | q
      · have := h.g j q
        rw [List.getElem?_append_left (by rw [h.n]; exact q), ← List.getD_eq_getElem?_getD, List.drop_append_of_le_length (by omega), spells_app, ByteArray.size_append]
        have e2 : spells [x] = spellF x := by simp [spells]
        rw [e2]; omega
      · have : j = c.length := by omega
        subst this
        rw [List.getElem?_append_right (by rw [h.n]; exact Nat.le_refl _), h.n, Nat.sub_self, List.drop_left]
        have e2 : spells [x] = spellF x := by simp [spells]
        rw [e2, hsz]; rfl
theorem GR.go {ts : List Tk} (hv : ∀ t ∈ ts, ValidT t) : ∀ (f i : Nat) (st : JS) (d : List (Bool × Tk)) (c : List Tk) (out : List UInt8), 0 < i → i + f = ts.length → GR ts i st d c → gGo ts f i st = some out → st.t.length ≤ 100000 → ∃ d c, JR d c ∧ d.map Prod.snd = ts ∧ out = (joinT d).data.toList ∧ out.length ≤ 100000
  | 0, i, st, d, c, out, _, hf, h, ho, hl => by
    simp only [gGo] at ho
    injection ho with ho
    subst ho
    exact ⟨d, c, h.r, by rw [h.l, List.take_of_length_le (by omega)], h.t, hl⟩
  | f + 1, i, st, d, c, out, hi, hf, h, ho, hl => by
    have hlt : i < ts.length := by omega
    simp only [gGo, List.getElem?_eq_getElem hlt] at ho
    split at ho
    · cases ho
    · rename_i h1
      obtain ⟨d', c', h2⟩ := h.step (List.getElem?_eq_getElem hlt) (hv _ (List.getElem_mem hlt)) hi
      exact GR.go hv f (i + 1) _ d' c' out (by omega) (by omega) h2 ho (by omega)
theorem gJoin_jr {ts : List Tk} (hv : ∀ t ∈ ts, ValidT t) {out : List UInt8} (h : gJoin ts = some out) : (ts = [] ∧ out = []) ∨ ∃ d c, JR d c ∧ d.map Prod.snd = ts ∧ out = (joinT d).data.toList ∧ out.length ≤ 100000 := by
  unfold gJoin at h
  split at h
  · cases h
  rcases ts with _ | ⟨x, ts⟩
  · left; simp only [List.length_nil, gGo] at h; injection h with h; exact ⟨rfl, h.symm⟩
  · right
    simp only [List.length_cons, gGo, List.getElem?_cons_zero] at h
    split at h
    · cases h
    rename_i h1
    have e0 : gMid (x :: ts) 0 ⟨[], [], 0⟩ x = ⟨[], [], 0⟩ := rfl
    rw [e0] at h h1
    have hj : joinT [(false, x)] = spellF x := by
      show (ByteArray.empty ++ spellF x) ++ ByteArray.empty = _
      rw [ByteArray.append_empty, ByteArray.empty_append]
    have e2 : spells [x] = spellF x := by simp [spells]
    refine GR.go hv ts.length 1 (gPut ⟨[], [], 0⟩ x) [(false, x)] [x] out (by omega) (by simp; omega) ⟨.first x (hv x (by simp)), rfl, by rw [hj]; rfl, rfl, rfl, fun j hj' => ?_⟩ h (by omega)
    simp at hj'
    subst hj'
    rw [hj]
    show 0 + (spells [x]).size = _
    rw [e2]; omega
structure BackAt (S : ByteArray) (ts : List Tk) (x y : Tk) : Prop where
  lt : x.en ≤ y.at_
  le : y.at_ ≤ S.size
  or : y.at_ = x.en ∨ (y.at_ = x.en + 1 ∧ ∀ r, tokens (S.extract 0 x.en ++ S.extract y.at_ S.size) = .ok r → likeL r ts = false)
theorem layN_get : ∀ (d : List (Bool × Tk)) (x i : Nat) (p : Tk), (layN x d)[i]? = some p → ∃ P b t R, d = P ++ (b, t) :: R ∧ P.length = i ∧ p = natT (x + (joinT P).size + (bsp b).size) t
  | [], x, i, p, h => by simp [layN] at h
  | (b, t) :: d, x, 0, p, h => by
    simp only [layN, List.getElem?_cons_zero, Option.some.injEq] at h
    exact ⟨[], b, t, d, rfl, rfl, by rw [← h]; simp [joinT]⟩
  | (b, t) :: d, x, i + 1, p, h => by
    simp only [layN, List.getElem?_cons_succ] at h
    obtain ⟨P, c, u, R, h1, h2, h3⟩ := layN_get d _ i p h
    refine ⟨(b, t) :: P, c, u, R, by rw [h1]; rfl, by simp [h2], ?_⟩
    rw [h3]
    simp only [joinT, ByteArray.size_append]
    congr 1; omega
theorem split_at {α : Type} : ∀ (P Q : List α) (a b : α) (R T : List α), P ++ a :: R = Q ++ b :: T → Q.length = P.length + 1 → Q = P ++ [a] ∧ R = b :: T
  | [], Q, a, b, R, T, h, hl => by
    rcases Q with _ | ⟨q, _ | ⟨q2, Q⟩⟩
    · simp at hl
    · injection h with h1 h2; subst h1; exact ⟨rfl, h2⟩
    · simp at hl
  | p :: P, Q, a, b, R, T, h, hl => by
    rcases Q with _ | ⟨q, Q⟩
    · simp at hl
    · injection h with h1 h2
      subst h1
      obtain ⟨e1, e2⟩ := split_at P Q a b R T h2 (by simpa using hl)
      exact ⟨by rw [e1]; rfl, e2⟩
theorem back_plain {ts : List Tk} (hv : ∀ t ∈ ts, ValidT t) (hn : ts.length ≤ 20000) {out : List UInt8} (h : gJoin ts = some out) (S : ByteArray) (hS : S = ⟨out.toArray⟩) :
    ∃ q, tokens S = .ok q ∧ q.map Tk.key = ts.map Tk.key ∧ (∀ x, q[0]? = some x → x.at_ = 0) ∧ (∀ x, q[q.length - 1]? = some x → x.en = S.size) ∧ ∀ i x y, q[i]? = some x → q[i + 1]? = some y → BackAt S ts x y := by
  rcases gJoin_jr hv h with ⟨rfl, rfl⟩ | ⟨d, c, h1, h2, h3, h4⟩
  · refine ⟨[], ?_, rfl, by simp, by simp, by simp⟩
    have e : S = ByteArray.empty := by subst hS; rfl
    rw [e]
    exact tokens_of_sc (s := ByteArray.empty) (Nat.zero_le _) (.fin 0 (Nat.le_refl _)) (Nat.zero_le _)
  have hSj : S = joinT d := by rw [hS]; exact back_arr _ _ h3
  have hz : S.size ≤ 100000 := by subst hS; exact h4
  have hb := h1.back
  have hlen : d.length = ts.length := by rw [← h2]; simp
  have hk2 : d.map (fun p => p.2.key) = ts.map Tk.key := by rw [← h2, List.map_map]; rfl
  have htk := tokens_of_sc (s := S) hz (by rw [hSj]; exact hb) (by rw [layN_len]; omega)
  have hget : ∀ (i : Nat) (x : Tk), ((layN 0 d).map (placed S))[i]? = some x → ∃ p, (layN 0 d)[i]? = some p ∧ x = placed S p := fun i x hx => by
    rw [List.getElem?_map] at hx
    rcases hp : (layN 0 d)[i]? with _ | p
    · rw [hp] at hx; cases hx
    · rw [hp] at hx; injection hx with hx; exact ⟨p, rfl, hx.symm⟩
  refine ⟨_, htk, ?_, ?_, ?_, ?_⟩
  · rw [List.map_map, ← hk2, ← layN_keys d 0]; rfl
  · intro x hx
    obtain ⟨p, hp, rfl⟩ := hget 0 x hx
    obtain ⟨P, b, t, R, e1, e2, e3⟩ := layN_get d 0 0 p hp
    have : P = [] := List.eq_nil_of_length_eq_zero e2
    subst this
    have hbf : b = false := by
      have hf := h1.form
      obtain ⟨A, b', x', B, f1, _, f3, _⟩ := hf
      rcases A with _ | ⟨a, A⟩
      · rw [e1] at f1
        injection f1 with f1 _
        injection f1 with f1 _
        subst f1
        rcases b with _ | _
        · rfl
        · exfalso
          have := h1.gaps [] t R (by rw [e1])
          obtain ⟨c', hc', _⟩ := this
          have := hc'.form
          obtain ⟨A, b, x, B, g1, _⟩ := this
          simp at g1
      · rcases b with _ | _
        · rfl
        · exfalso
          have := h1.gaps [] t R (by rw [e1])
          obtain ⟨c', hc', _⟩ := this
          have := hc'.form
          obtain ⟨A, b, x, B, g1, _⟩ := this
          simp at g1
    subst hbf e3
    rfl
  · intro x hx
    rw [List.length_map] at hx
    obtain ⟨p, hp, rfl⟩ := hget _ x hx
    obtain ⟨P, b, t, R, e1, e2, e3⟩ := layN_get d 0 _ p hp
    have hR : R = [] := by
      rw [layN_len] at e2
      have := congrArg List.length e1
      simp at this
      exact List.eq_nil_of_length_eq_zero (by omega)
    subst hR e3
    show 0 + (joinT P).size + (bsp b).size + (spellF t).size = S.size
    rw [hSj, e1, joinT_app]
    show _ = (joinT P ++ ((bsp b ++ spellF t) ++ ByteArray.empty)).size
    simp only [ByteArray.size_append, ByteArray.size_empty]; omega
  · intro i x y hx hy
    obtain ⟨p, hp, rfl⟩ := hget _ x hx
    obtain ⟨q, hq, rfl⟩ := hget _ y hy
    obtain ⟨P, b, t, R, e1, e2, e3⟩ := layN_get d 0 _ p hp
    obtain ⟨P', b', u, R', f1, f2, f3⟩ := layN_get d 0 _ q hq
    obtain ⟨g1, g2⟩ := split_at P P' (b, t) (b', u) R R' (e1.symm.trans f1) (by omega)
    have hPs : (joinT P').size = (joinT P).size + (bsp b).size + (spellF t).size := by
      rw [g1, joinT_app, ByteArray.size_append]
      show (joinT P).size + ((bsp b ++ spellF t) ++ ByteArray.empty).size = _
      simp only [ByteArray.size_append, ByteArray.size_empty]; omega
    have hen : (placed S p).en = (joinT P').size := by
      subst e3
      show 0 + (joinT P).size + (bsp b).size + (spellF t).size = _
      omega
    have hat : (placed S q).at_ = (joinT P').size + (bsp b').size := by
      subst f3
      show 0 + (joinT P').size + (bsp b').size = _
      omega
    have hSz : S.size = (joinT P').size + (bsp b').size + (spellF u).size + (joinT R').size := by
      rw [hSj, f1, joinT_app]
      simp only [joinT, ByteArray.size_append]; omega
    refine ⟨by rw [hen, hat]; omega, by rw [hat]; omega, ?_⟩
    rcases b' with _ | _
    · left; rw [hen, hat]; rfl
    · right
      refine ⟨by rw [hen, hat]; rfl, fun r hr => ?_⟩
      rcases hl : likeL r ts with _ | _
      · rfl
      · exfalso
        have e : S.extract 0 (placed S p).en ++ S.extract (placed S q).at_ S.size = joinT (P' ++ (false, u) :: R') := by
          rw [hen, hat, joinT_app]
          have s1 : S = (ByteArray.empty ++ joinT P') ++ (sp ++ (spellF u ++ joinT R')) := by
            rw [hSj, f1, joinT_app, ByteArray.empty_append]
            show joinT P' ++ ((sp ++ spellF u) ++ joinT R') = _
            rw [ByteArray.append_assoc (a := sp)]
          have s2 : S = (joinT P' ++ sp) ++ (spellF u ++ joinT R') := by rw [s1, ByteArray.empty_append, ByteArray.append_assoc]
          congr 1
          · have := ext_mid ByteArray.empty (joinT P') (sp ++ (spellF u ++ joinT R'))
            rw [← s1] at this
            simpa using this
          · have hw : (joinT P').size + (bsp true).size + (spellF u ++ joinT R').size = ((joinT P' ++ sp) ++ (spellF u ++ joinT R')).size := by
              simp only [ByteArray.size_append]; rfl
            have := ext_back (joinT P' ++ sp) (spellF u ++ joinT R') _ hw
            rw [← s2] at this
            rw [this]
            show _ = (ByteArray.empty ++ spellF u) ++ joinT R'
            rw [ByteArray.empty_append]
        rw [e] at hr
        obtain ⟨ps, ys, h5, h6⟩ := sc_of_tokens hr
        refine h1.need f1 h5 ?_
        rw [hk2, ← like_key hl, h6, List.map_map]
        rfl
end Go.Proofs.YtagcfgoofiibfaaGreatDoor
namespace Go.Proofs.YtagcfgoofiibfaaGreatDoor
open Go Go.RowKit
set_option exponentiation.threshold 400
theorem rnb_no {b : Int} (h : rnb b = true) : b ≠ 9 ∧ b ≠ 10 := by constructor <;> (intro e; subst e; revert h; decide)
theorem bar_no9 {b : Int} (h : bar b = false) : b ≠ 9 ∧ b ≠ 10 := by constructor <;> (intro e; subst e; revert h; decide)
theorem limbs_valid {v : Nat} (h : v < big) : InB (limbs v) ∧ NoZ (limbs v) ∧ (limbs v).length ≤ 40 := ⟨limbs_inB v, limbs_noZ v (Nat.lt_trans h big_lt), limbs_len40 v h⟩
theorem signs_canon : signsL.all (fun p => decide (canonOf ⟨p.2.toArray⟩ = some ⟨p.2.toArray⟩) && !p.2.isEmpty) = true := by decide +kernel
theorem word_wf : isWord ⟨#[87, 70, 95]⟩ = true ∧ isWord ⟨#[83, 70, 95]⟩ = true := by decide
theorem us_sign : canonOf ⟨#[95]⟩ = some ⟨#[95]⟩ := by decide +kernel
end Go.Proofs.YtagcfgoofiibfaaGreatDoor
namespace Go.Proofs.YtagcfgoofiibfaaGreatDoor
open Go Go.RowKit
set_option exponentiation.threshold 400
def padK (k b : Nat) : List UInt8 := List.replicate (k - (Lib.decDigits b).length) 48 ++ Lib.decDigits b
theorem dec_one {n : Nat} (h : n < 10) : Lib.decDigits n = [UInt8.ofNat (48 + n)] := by rw [Lib.decDigits, dif_pos h]
theorem dec_more {n : Nat} (h : ¬ n < 10) : Lib.decDigits n = Lib.decDigits (n / 10) ++ [UInt8.ofNat (48 + n % 10)] := by rw [Lib.decDigits, dif_neg h]
theorem dec_pad (a : Nat) (ha : 0 < a) : ∀ (k b : Nat), b < 10 ^ (k + 1) → Lib.decDigits (a * 10 ^ (k + 1) + b) = Lib.decDigits a ++ padK (k + 1) b
  | 0, b, hb => by
    have hb' : b < 10 := by simpa using hb
    rw [dec_more (by omega), show (a * 10 ^ (0 + 1) + b) / 10 = a by omega, show (a * 10 ^ (0 + 1) + b) % 10 = b by omega]
    unfold padK
    rw [dec_one hb']; rfl
  | k + 1, b, hb => by
    have e0 : a * 10 ^ (k + 1 + 1) = (a * 10 ^ (k + 1)) * 10 := by rw [Nat.pow_succ 10 (k + 1), Nat.mul_assoc]
    have hge : 10 ≤ a * 10 ^ (k + 1) * 10 := by
      have : 1 ≤ a * 10 ^ (k + 1) := Nat.mul_pos ha (Nat.pow_pos (by omega))
      omega
    rw [dec_more (by omega), e0, show (a * 10 ^ (k + 1) * 10 + b) / 10 = a * 10 ^ (k + 1) + b / 10 by omega, show (a * 10 ^ (k + 1) * 10 + b) % 10 = b % 10 by omega]
    rw [dec_pad a ha k (b / 10) (by rw [Nat.pow_succ 10 (k + 1)] at hb; omega), List.append_assoc]
    congr 1
    unfold padK
    by_cases h : b < 10
    · rw [show b / 10 = 0 by omega, show b % 10 = b by omega, dec_one h, dec_one (show 0 < 10 by omega)]
      show List.replicate (k + 1 - 1) 48 ++ [UInt8.ofNat 48] ++ [UInt8.ofNat (48 + b)] = List.replicate (k + 1 + 1 - 1) 48 ++ [UInt8.ofNat (48 + b)]
      congr 1
      show List.replicate k (48 : UInt8) ++ [48] = List.replicate (k + 1) 48
      rw [List.replicate_succ']
    · rw [dec_more h, List.length_append, List.length_singleton, show k + 1 + 1 - ((Lib.decDigits (b / 10)).length + 1) = k + 1 - (Lib.decDigits (b / 10)).length by omega, List.append_assoc]
def textL (l : List Int) (i : Nat) : List UInt8 := if l.length ≤ i then [] else Lib.decDigits (numL (l.drop i))
theorem numL_pos : ∀ (l : List Int), InB l → NoZ l → l ≠ [] → 0 < numL l
  | [], _, _, h => absurd rfl h
  | [d], hb, hz, _ => by
    have h1 := hb d (by simp)
    have h2 : d ≠ 0 := fun e => hz (by rw [e]; rfl)
    simp only [numL]; omega
  | d :: e :: l, hb, hz, _ => by
    have := numL_pos (e :: l) (fun x hx => hb x (List.mem_cons_of_mem _ hx)) (fun h => hz (by rw [List.getLast?_cons_cons]; exact h)) (by simp)
    simp only [numL] at this ⊢; omega
theorem NoZ.drop {l : List Int} (h : NoZ l) (i : Nat) (hi : i < l.length) : NoZ (l.drop i) := by
  intro e
  apply h
  rw [List.getLast?_drop] at e
  rw [if_neg (by omega)] at e; exact e
theorem itoa_nat (d : Int) (h : 0 ≤ d) : Lib.itoa d = Lib.decDigits d.toNat := by unfold Lib.itoa; rw [if_neg (by omega)]
theorem dec_len9 {n : Nat} (h : n < 1000000000) : (Lib.decDigits n).length ≤ 9 := by
  rw [Lib.decDigits_length]; exact nDig_le 9 n (by omega) h
theorem textL_top (l : List Int) (i : Nat) (d : Int) (hb : InB l) (hd : l[i]? = some d) (hi : i + 1 = l.length) : textL l i = textL l (i + 1) ++ Lib.itoa d := by
  have hlt : i < l.length := by omega
  unfold textL
  rw [if_neg (by omega), if_pos (by omega), List.nil_append, List.drop_eq_getElem_cons hlt, List.drop_eq_nil_of_le (by omega)]
  have he : l[i] = d := by rw [List.getElem?_eq_getElem hlt] at hd; injection hd
  rw [he, itoa_nat d (hb d (List.mem_of_getElem? hd)).1]
  congr 1
theorem textL_step (l : List Int) (i : Nat) (d : Int) (hb : InB l) (hz : NoZ l) (hd : l[i]? = some d) (hi : i + 1 < l.length) : textL l i = textL l (i + 1) ++ (List.replicate (9 - (Lib.itoa d).length) 48 ++ Lib.itoa d) := by
  have hlt : i < l.length := by omega
  have he : l[i] = d := by rw [List.getElem?_eq_getElem hlt] at hd; injection hd
  have hr := hb d (List.mem_of_getElem? hd)
  unfold textL
  rw [if_neg (by omega), if_neg (by omega), List.drop_eq_getElem_cons hlt, he, itoa_nat d hr.1]
  have hp := numL_pos (l.drop (i + 1)) (fun x hx => hb x (List.mem_of_mem_drop hx)) (hz.drop (i + 1) hi) (by simp; omega)
  have := dec_pad (numL (l.drop (i + 1))) hp 8 d.toNat (by omega)
  have e : numL (d :: l.drop (i + 1)) = numL (l.drop (i + 1)) * 10 ^ (8 + 1) + d.toNat := by simp only [numL]; omega
  rw [e, this]; rfl
theorem textL_all (l : List Int) (h : l ≠ []) : textL l 0 = Lib.decDigits (numL l) := by
  unfold textL
  rw [if_neg (by have := List.length_pos_iff.2 h; omega), List.drop_zero]
theorem textL_len (l : List Int) (i : Nat) (hb : InB l) (hl : l.length ≤ 40) : (textL l i).length ≤ 400 := by
  unfold textL
  split
  · simp
  · rw [Lib.decDigits_length]
    have h1 := numL_lt (l.drop i) (fun x hx => hb x (List.mem_of_mem_drop hx))
    refine nDig_le 400 _ (by omega) (Nat.lt_of_lt_of_le h1 ?_)
    have h2 : (l.drop i).length ≤ 40 := by rw [List.length_drop]; omega
    refine Nat.le_trans (Nat.pow_le_pow_right (by omega) h2) ?_
    decide
end Go.Proofs.YtagcfgoofiibfaaGreatDoor
