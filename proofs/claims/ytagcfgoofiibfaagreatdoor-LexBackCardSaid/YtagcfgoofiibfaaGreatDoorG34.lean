/- The lexer and what it reaches: part 34 of 41: Q1, Q2, Q3. -/
import Derived.Test.YtagcfgoofiibfaaGreatDoorG14
set_option linter.unusedVariables false
set_option linter.unusedSimpArgs false
namespace Go.Proofs.YtagcfgoofiibfaaGreatDoor
open Go Go.RowKit

/-- a token at another byte -/
def Tk.mv (p : Tk) (j : Nat) : Tk := { p with at_ := j, en := j + (p.en - p.at_) }

theorem wrth_rnb {b : Int} (h : 0 ≤ wrth b) : rnb b = true := by
  unfold wrth at h
  by_cases h1 : dgt b = true
  · simp [rnb, h1]
  · rw [if_neg h1] at h
    by_cases h2 : 97 ≤ b ∧ b ≤ 102
    · simp [rnb, ltr]; omega
    · rw [if_neg h2] at h
      by_cases h3 : 65 ≤ b ∧ b ≤ 70
      · simp [rnb, ltr]; omega
      · rw [if_neg h3] at h; omega
theorem dgt_rnb {b : Int} (h : dgt b = true) : rnb b = true := by simp [rnb, h]
theorem ltr_rnb {b : Int} (h : ltr b = true) : rnb b = true := by simp [rnb, h]
theorem cnt_sub (p q : Int → Bool) (hpq : ∀ b, p b = true → q b = true) (s : ByteArray) (i : Nat) : cnt p s i ≤ cnt q s i := by
  rcases Nat.lt_or_ge (cnt q s i) (cnt p s i) with hl | hl
  · have h1 := cnt_lt p s _ i rfl _ hl
    have h2 := cnt_stop q s _ i rfl h1.1
    rw [hpq _ h1.2] at h2; cases h2
  · exact hl

theorem pre_byte (s : ByteArray) (i c : Nat) (q : List UInt8) (h : Lib.hasPrefix (s.extract i (i + c)).data.toList q = true) : q = ((s.data.toList.drop i).take c).take q.length := by
  rw [extLst] at h
  unfold Lib.hasPrefix at h
  rw [List.isPrefixOf_iff_prefix, List.prefix_iff_eq_take] at h
  exact h
theorem pre_same (s t : ByteArray) (i j c d : Nat) (q : List UInt8) (hc : q.length ≤ c) (hd : q.length ≤ d) (n : Nat) (H : Agr s t i j n) (hn : q.length ≤ n) :
    Lib.hasPrefix (t.extract j (j + d)).data.toList q = Lib.hasPrefix (s.extract i (i + c)).data.toList q := by
  rw [extLst, extLst]
  unfold Lib.hasPrefix
  rw [Bool.eq_iff_iff, List.isPrefixOf_iff_prefix, List.isPrefixOf_iff_prefix, List.prefix_iff_eq_take, List.prefix_iff_eq_take, List.take_take, List.take_take, Nat.min_eq_left hc, Nat.min_eq_left hd, H.drop _ hn]

theorem run_loc (s t : ByteArray) (i j m : Nat) (p : Tk) (hi : i < s.size) (hr : rnb (bt s i) = true) (h : runF s i = .ok p) (H : Agr s t i j m) (hen : p.en ≤ i + m) (hb : bar (bt t (j + m)) = true) : runF t j = .ok (p.mv j) := by
  obtain ⟨n1, n2, n3, n4, n5, n6⟩ := bar_no hb
  have bd := runF_bd s i p hi hr h
  have c1 := cnt_yes rnb s i hi hr
  have hdr := cnt_sub dgt rnb (fun _ => dgt_rnb) s i
  rcases Nat.lt_or_ge m (cnt rnb s i) with hl | hl
  · -- the run goes on behind the common part: a key of three bytes
    have hct : cnt rnb t j = m := by
      refine cnt_is rnb t m j (fun k hk => ?_) (.inr n1)
      have := cnt_lt rnb s _ i rfl k (by omega)
      exact ⟨by have := H.lt; omega, by rw [H.b k hk]; exact this.2⟩
    have hlt : ∀ q : List UInt8, q.length = 3 → p.en = i + 3 → Lib.hasPrefix (t.extract j (j + m)).data.toList q = Lib.hasPrefix (s.extract i (i + cnt rnb s i)).data.toList q := fun q hq he =>
      pre_same s t i j _ m q (by omega) (by omega) m H (by omega)
    unfold runF at h
    split at h
    · split at h
      · cases h
      · injection h with h; subst h; simp only [] at hen; omega
    rename_i hd
    split at h
    · rename_i hp
      injection h with h
      subst h
      simp only [] at hen bd
      have e1 := hlt [87, 70, 95] rfl rfl
      have e2 := hlt [83, 70, 95] rfl rfl
      have hdt : ¬ cnt dgt t j = cnt rnb t j := by
        have h0 : dgt (bt s i) = false := by
          rw [Bool.or_eq_true] at hp
          have key : ∀ (a : UInt8) (q : List UInt8), Lib.hasPrefix (s.extract i (i + cnt rnb s i)).data.toList (a :: q) = true → bt s i = (a.toNat : Int) := by
            intro a q hq
            have h3 := pre_byte s i _ _ hq
            have h4 := congrArg (fun l => l[0]?) h3
            rw [drop_bt s i hi, c1] at h4
            simp at h4
            unfold bt
            rw [h4]; simp
          rcases hp with hp | hp
          · rw [key 87 _ hp]; decide
          · rw [key 83 _ hp]; decide
        have h1 := H.b 0 (by omega)
        rw [Nat.add_zero, Nat.add_zero] at h1
        rw [cnt_no dgt t j (by rw [h1]; exact h0), hct]; omega
      unfold runF
      rw [if_neg hdt, hct, if_pos (by rw [e1, e2]; exact hp)]
      have e3 : (t.extract j (j + m)).extract 0 3 = (s.extract i (i + cnt rnb s i)).extract 0 3 := by
        apply ba_eq
        have z : (3 : Nat) = 0 + 3 := rfl
        rw [z, extLst, extLst, extLst, extLst, List.drop_zero, List.drop_zero, List.take_take, List.take_take, Nat.min_eq_left (by omega), Nat.min_eq_left (by omega), H.drop 3 (by omega)]
      rw [e3]
      simp [Tk.mv]
    split at h
    · injection h with h; subst h; simp only [] at hen; omega
    split at h
    · injection h with h; subst h; simp only [] at hen; omega
    split at h
    · cases h
    split at h
    · cases h
    · injection h with h; subst h; simp only [] at hen; omega
  · have hct : cnt rnb t j = cnt rnb s i := H.cnt rnb (by decide) hl (fun _ => n1)
    have hdt : cnt dgt t j = cnt dgt s i := H.cnt dgt (by decide) (by omega) (fun _ => n3)
    have hx := H.ext (cnt rnb s i) hl
    unfold runF at h ⊢
    rw [hct, hdt, hx]
    split at h
    · rename_i h1
      rw [if_pos h1]
      split at h
      · cases h
      · injection h with h; subst h; simp [Tk.mv]
    rename_i h1
    rw [if_neg h1]
    split at h
    · rename_i h1
      rw [if_pos h1]
      injection h with h; subst h; simp [Tk.mv]
    rename_i h1
    rw [if_neg h1]
    split at h
    · rename_i h1
      rw [if_pos h1]
      injection h with h; subst h; simp [Tk.mv]
    rename_i h1
    rw [if_neg h1]
    split at h
    · rename_i h1
      rw [if_pos h1]
      injection h with h; subst h; simp [Tk.mv]
    rename_i h1
    rw [if_neg h1]
    split at h
    · cases h
    rename_i h1
    rw [if_neg h1]
    split at h
    · cases h
    rename_i h1
    rw [if_neg h1]
    injection h with h; subst h; simp [Tk.mv]

theorem based_loc (s t : ByteArray) (i j m : Nat) (p : Tk) (hi : i < s.size) (hb0 : baseF s i ≠ 0) (h : basedF s i = .ok p) (H : Agr s t i j m) (hen : p.en ≤ i + m) (hb : bar (bt t (j + m)) = true) : baseF t j = baseF s i ∧ basedF t j = .ok (p.mv j) := by
  obtain ⟨n1, n2, n3, n4, n5, n6⟩ := bar_no hb
  have h92 : bt s i = 92 := by
    by_cases h9 : bt s i = 92
    · exact h9
    · exact absurd (by unfold baseF; rw [if_pos h9]) hb0
  have h2 := cnt_pos2 s i h92 hb0 hi
  have hr2 : rnb (bt s (i + 2)) = true := by
    rw [swF_base s i h92] at hb0
    split at hb0
    · exact absurd rfl hb0
    · split at hb0
      · rename_i h3
        rcases h3 with h3 | h3
        · exact dgt_rnb h3
        · exact wrth_rnb h3.2
      · exact absurd rfl hb0
  have c2 := cnt_yes rnb s (i + 2) h2.1 hr2
  have hm : 2 + cnt rnb s (i + 2) ≤ m := by
    unfold basedF at h
    split at h
    · cases h
    · injection h with h; subst h; simp only [] at hen; omega
  have e0 := H.b 0 (by omega)
  have e1 := H.b 1 (by omega)
  have e2 := H.b 2 (by omega)
  rw [Nat.add_zero, Nat.add_zero] at e0
  have eb : baseF t j = baseF s i := by unfold baseF; rw [e0, e1, e2]
  have H2 := H.shift 2 (by omega)
  have hct : cnt rnb t (j + 2) = cnt rnb s (i + 2) := H2.cnt rnb (by decide) (by omega) (fun _ => by rw [show j + 2 + (m - 2) = j + m by omega]; exact n1)
  refine ⟨eb, ?_⟩
  have hx := H2.ext (cnt rnb s (i + 2)) (by omega)
  unfold basedF at h ⊢
  rw [eb, hct, hx]
  split at h
  · cases h
  · injection h with h; subst h; simp [Tk.mv]

theorem base0_loc (s t : ByteArray) (i j m : Nat) (hb0 : baseF s i = 0) (hm : 0 < m) (H : Agr s t i j m) (hb : bar (bt t (j + m)) = true) : baseF t j = 0 := by
  obtain ⟨n1, n2, n3, n4, n5, n6⟩ := bar_no hb
  have e0 := H.b 0 hm
  rw [Nat.add_zero, Nat.add_zero] at e0
  by_cases h92 : bt s i = 92
  · have h92t : bt t j = 92 := e0.trans h92
    rw [swF_base s i h92] at hb0
    rw [swF_base t j h92t]
    rcases Nat.lt_or_ge 1 m with h1 | h1
    · have e1 := H.b 1 h1
      rcases Nat.lt_or_ge 2 m with h2 | h2
      · have e2 := H.b 2 h2
        rw [e1, e2]; exact hb0
      · have : m = 2 := by omega
        subst this
        rw [n3]
        split
        · rfl
        · rw [if_neg (by rintro (h | ⟨_, h⟩); cases h; omega)]
    · have : m = 1 := by omega
      subst this
      rw [if_pos]
      unfold swF
      have hne : ∀ x : Int, ltr x = true → bt t (j + 1) ≠ x := by rintro x hx rfl; rw [n2] at hx; cases hx
      rw [if_neg (by rintro (h | h); exact hne _ (by decide) h; exact hne _ (by decide) h), if_neg (by rintro (h | h); exact hne _ (by decide) h; exact hne _ (by decide) h), if_neg (by rintro (h | h); exact hne _ (by decide) h; exact hne _ (by decide) h)]
  · unfold baseF; rw [if_pos (by rw [e0]; exact h92)]

theorem quo_loc (s t : ByteArray) (i j m : Nat) (p : Tk) (H : Agr s t i j m) : ∀ (f k : Nat) (o : List UInt8) (f' : Nat), quo s i f k o = .ok p → p.en ≤ i + m → t.size + 1 ≤ j + k + f' → quo t j f' k o = .ok (p.mv j)
  | 0, k, o, f', h, _, _ => by simp only [quo] at h; cases h
  | f + 1, k, o, 0, h, hen, hf => by
    exfalso
    have hk : i + k < p.en := by
      have : ∀ f k o, quo s i f k o = .ok p → i + k < p.en := by
        intro f
        induction f with
        | zero => intro k o h; simp only [quo] at h; cases h
        | succ f ih =>
          intro k o h
          simp only [quo] at h
          split at h
          · cases h
          split at h
          · split at h
            · cases h
            · injection h with h; subst h; simp only []; omega
          split at h
          · split at h
            · split at h
              · cases h
              · have := ih _ _ h; omega
            · cases h
          split at h
          · cases h
          · have := ih _ _ h; omega
      exact this _ _ _ h
    have := H.lt
    omega
  | f + 1, k, o, f' + 1, h, hen, hf => by
    have hgt : ∀ f k o, quo s i f k o = .ok p → i + k < p.en := by
      intro f
      induction f with
      | zero => intro k o h; simp only [quo] at h; cases h
      | succ f ih =>
        intro k o h
        simp only [quo] at h
        split at h
        · cases h
        split at h
        · split at h
          · cases h
          · injection h with h; subst h; simp only []; omega
        split at h
        · split at h
          · split at h
            · cases h
            · have := ih _ _ h; omega
          · cases h
        split at h
        · cases h
        · have := ih _ _ h; omega
    have hk := hgt _ _ _ h
    have e0 := H.b k (by omega)
    have hlt := H.lt
    simp only [quo] at h ⊢
    rw [e0]
    split at h
    · cases h
    rw [if_neg (by omega)]
    split at h
    · rename_i h1
      rw [if_pos h1]
      split at h
      · cases h
      · rename_i h2
        rw [if_neg h2]
        injection h with h; subst h; simp [Tk.mv]
    rename_i h1
    rw [if_neg h1]
    split at h
    · rename_i h1
      rw [if_pos h1]
      split at h
      · rename_i c hc
        split at h
        · cases h
        · have := hgt _ _ _ h
          have e1 := H.b (k + 1) (by omega)
          rw [e1, hc]
          simp only []
          rw [if_neg (by omega)]
          exact quo_loc s t i j m p H f (k + 2) _ f' h hen (by omega)
      · cases h
    rename_i h1
    rw [if_neg h1]
    split at h
    · cases h
    rename_i h1
    rw [if_neg h1]
    exact quo_loc s t i j m p H f (k + 1) _ f' h hen (by omega)
end Go.Proofs.YtagcfgoofiibfaaGreatDoor
namespace Go.Proofs.YtagcfgoofiibfaaGreatDoor
open Go Go.RowKit

def good (k : ByteArray) : Bool := (canonOf k).isSome && !letd k
theorem sgn_ok (s : ByteArray) (i : Nat) (p : Tk) : ∀ N, sgn s i N = .ok p → ∃ (L : Nat) (c : ByteArray), 0 < L ∧ L ≤ N ∧ p = ⟨5, c, [], i, i + L, 0, 0⟩ ∧ canonOf (s.extract i (i + L)) = some c ∧ letd (s.extract i (i + L)) = false ∧ ∀ M, L < M → M ≤ N → good (s.extract i (i + M)) = false
  | 0, h => by simp only [sgn] at h; cases h
  | N + 1, h => by
    simp only [sgn] at h
    split at h
    · rename_i c hc
      split at h
      · rename_i hl
        obtain ⟨L, c', h1, h2, h3, h4, h5, h6⟩ := sgn_ok s i p N h
        refine ⟨L, c', h1, by omega, h3, h4, h5, fun M m1 m2 => ?_⟩
        rcases Nat.lt_or_ge N M with q | q
        · have : M = N + 1 := by omega
          subst this
          unfold good; rw [hl]; simp
        · exact h6 M m1 q
      · rename_i hl
        injection h with h
        exact ⟨N + 1, c, by omega, Nat.le_refl _, h.symm, hc, by simpa using hl, fun M m1 m2 => by omega⟩
    · rename_i hc
      obtain ⟨L, c', h1, h2, h3, h4, h5, h6⟩ := sgn_ok s i p N h
      refine ⟨L, c', h1, by omega, h3, h4, h5, fun M m1 m2 => ?_⟩
      rcases Nat.lt_or_ge N M with q | q
      · have : M = N + 1 := by omega
        subst this
        unfold good; rw [hc]; rfl
      · exact h6 M m1 q
theorem sgn_mk (s : ByteArray) (i L : Nat) (c : ByteArray) (h4 : canonOf (s.extract i (i + L)) = some c) (h5 : letd (s.extract i (i + L)) = false) (h1 : 0 < L) : ∀ N, L ≤ N → (∀ M, L < M → M ≤ N → good (s.extract i (i + M)) = false) → sgn s i N = .ok ⟨5, c, [], i, i + L, 0, 0⟩
  | 0, h, _ => by omega
  | N + 1, h, h6 => by
    simp only [sgn]
    rcases Nat.lt_or_ge N L with q | q
    · have : L = N + 1 := by omega
      subst this
      rw [h4, h5]; rfl
    · have ih := sgn_mk s i L c h4 h5 h1 N q (fun M a b => h6 M a (by omega))
      have hg := h6 (N + 1) (by omega) (Nat.le_refl _)
      unfold good at hg
      split
      · rename_i c' hc'
        rw [hc'] at hg
        simp at hg
        rw [hg, ih]; rfl
      · exact ih

theorem canonOf_mem {k c : ByteArray} (h : canonOf k = some c) : ∃ q ∈ signsL, q.1 = k.data.toList := by
  unfold canonOf at h
  rcases hf : signsL.find? (fun p => p.1 == k.data.toList) with _ | q
  · rw [hf] at h; cases h
  · exact ⟨q, List.mem_of_find?_eq_some hf, by simpa using List.find?_some hf⟩
theorem signs_nolet : signsL.all (fun p => letd ⟨p.1.toArray⟩ || p.1.all (fun b => !ltr (b.toNat : Int))) = true := by decide +kernel
theorem signs_nobar : signsL.all (fun p => p.1.tail.all (fun b => !bar (b.toNat : Int))) = true := by decide +kernel
theorem signs_ne : signsL.all (fun p => p.1 != []) = true := by decide +kernel

theorem ext_bt (s : ByteArray) (i c k : Nat) (hk : k < c) (hs : i + c ≤ s.size) : (s.extract i (i + c)).data.toList[k]? = some (s.data.toList.getD (i + k) 0) := by
  rw [extLst, List.getElem?_take_of_lt hk, List.getElem?_drop, List.getD_eq_getElem?_getD]
  rw [List.getElem?_eq_getElem (by simp; omega)]; rfl
/-- no letter in a sign without letters -/
theorem sign_nolet (s : ByteArray) (i c : Nat) (d : ByteArray) (h : canonOf (s.extract i (i + c)) = some d) (hl : letd (s.extract i (i + c)) = false) (hs : i + c ≤ s.size) (k : Nat) (hk : k < c) : ltr (bt s (i + k)) = false := by
  obtain ⟨q, hq, he⟩ := canonOf_mem h
  have h1 := List.all_eq_true.1 signs_nolet q hq
  have e : (⟨q.1.toArray⟩ : ByteArray) = s.extract i (i + c) := by apply ba_eq; simp [he]
  rw [e, hl, Bool.false_or] at h1
  rw [he] at h1
  have h2 := List.all_eq_true.1 h1 _ (List.mem_of_getElem? (ext_bt s i c k hk hs))
  rw [Bool.not_eq_true'] at h2; exact h2
/-- no bar in a sign behind its first byte -/
theorem sign_nobar (s : ByteArray) (i c : Nat) (d : ByteArray) (h : canonOf (s.extract i (i + c)) = some d) (hs : i + c ≤ s.size) (k : Nat) (h0 : 0 < k) (hk : k < c) : bar (bt s (i + k)) = false := by
  obtain ⟨q, hq, he⟩ := canonOf_mem h
  have h1 := List.all_eq_true.1 signs_nobar q hq
  rw [he] at h1
  have h3 : (s.extract i (i + c)).data.toList.tail[k - 1]? = some (s.data.toList.getD (i + k) 0) := by
    rw [List.getElem?_tail, show k - 1 + 1 = k by omega]; exact ext_bt s i c k hk hs
  have h2 := List.all_eq_true.1 h1 _ (List.mem_of_getElem? h3)
  rw [Bool.not_eq_true'] at h2; exact h2

theorem sign_loc (s t : ByteArray) (i j m : Nat) (p : Tk) (hi : i < s.size) (h : signF s i = .ok p) (H : Agr s t i j m) (hen : p.en ≤ i + m) (hb : bar (bt t (j + m)) = true) (hS : p.en = i + m ∨ ltr (bt s (i + m)) = false ∨ ltr (bt s (i + m - 1)) = false) : signF t j = .ok (p.mv j) := by
  obtain ⟨n1, n2, n3, n4, n5, n6⟩ := bar_no hb
  have bd := signF_bd s i p hi h
  have e0 := H.b 0 (by omega)
  rw [Nat.add_zero, Nat.add_zero] at e0
  have H1 := H.shift 1 (by omega)
  have em : j + 1 + (m - 1) = j + m := by omega
  have hls := H.ls
  have hlt := H.lt
  unfold signF at h
  split at h
  · rename_i hc
    injection h with h; subst h
    simp only [] at hen
    have hct : cnt ltr t (j + 1) = cnt ltr s (i + 1) := H1.cnt ltr (by decide) (by omega) (fun _ => by rw [em]; exact n2)
    unfold signF
    rw [e0, hct, H.ext (1 + cnt ltr s (i + 1)) (by omega), if_pos hc]
    simp [Tk.mv]
  · rename_i hc
    obtain ⟨L, c, h1, h2, h3, h4, h5, h6⟩ := sgn_ok s i p _ h
    subst h3
    simp only [] at hen bd hS
    have hlm : L ≤ m := by omega
    have hx := H.ext L hlm
    have hnc : ¬ (bt t j = 92 ∧ 0 < cnt ltr t (j + 1) ∧ (canonOf (t.extract j (j + (1 + cnt ltr t (j + 1))))).isSome = true) := by
      rintro ⟨a1, a2, a3⟩
      have hle := H1.cnt_le ltr (by rw [em]; exact n2)
      have hcs : cnt ltr s (i + 1) = cnt ltr t (j + 1) := by
        refine cnt_is ltr s _ (i + 1) (fun k hk => ?_) ?_
        · have := cnt_lt ltr t _ (j + 1) rfl k hk
          exact ⟨by omega, by rw [← H1.b k (by omega)]; exact this.2⟩
        · rcases Nat.lt_or_ge (cnt ltr t (j + 1)) (m - 1) with q | q
          · right; rw [← H1.b _ q]; exact cnt_stop0 ltr (by decide) t (j + 1)
          · have eq : cnt ltr t (j + 1) = m - 1 := by omega
            rw [eq, show i + 1 + (m - 1) = i + m by omega]
            have hl1 := (cnt_lt ltr t _ (j + 1) rfl (m - 1 - 1) (by omega)).2
            rw [show j + 1 + (m - 1 - 1) = j + (m - 1) by omega, H.b (m - 1) (by omega)] at hl1
            rcases hS with hS | hS | hS
            · have hL : L = m := by omega
              subst hL
              rw [sign_nolet s i L c h4 h5 (by omega) (L - 1) (by omega)] at hl1; cases hl1
            · exact .inr hS
            · rw [show i + m - 1 = i + (m - 1) by omega, hl1] at hS; cases hS
      exact hc ⟨by rw [← e0]; exact a1, by omega, by rw [hcs, ← H.ext _ (by omega)]; exact a3⟩
    unfold signF
    rw [if_neg hnc]
    have := sgn_mk t j L c (by rw [hx]; exact h4) (by rw [hx]; exact h5) h1 (min 3 (t.size - j)) (by omega) (fun M m1 m2 => by
      rcases Nat.lt_or_ge m M with q | q
      · unfold good
        rcases hk : canonOf (t.extract j (j + M)) with _ | d
        · rfl
        · have := sign_nobar t j M d hk (by omega) m (by omega) q
          rw [hb] at this; cases this
      · rw [H.ext M q]; exact h6 M m1 (by omega))
    rw [this]
    simp [Tk.mv]

theorem nobar45 : ∀ k, k < (⟨#[45, 45, 45, 45]⟩ : ByteArray).size → bar (bt ⟨#[45, 45, 45, 45]⟩ k) = false := by decide
theorem nobar61 : ∀ k, k < (⟨#[61, 61, 61, 61]⟩ : ByteArray).size → bar (bt ⟨#[61, 61, 61, 61]⟩ k) = false := by decide
/-- A TOKEN IS READ BY ITS OWN BYTES, where a bar stands behind. -/
theorem tok_loc (s t : ByteArray) (i j m : Nat) (p : Tk) (hi : i < s.size) (h : tokF s i = .ok p) (H : Agr s t i j m) (hen : p.en ≤ i + m) (hb : bar (bt t (j + m)) = true) (hS : p.en = i + m ∨ ltr (bt s (i + m)) = false ∨ ltr (bt s (i + m - 1)) = false) : tokF t j = .ok (p.mv j) := by
  have bd := tokF_bd s i p hi h
  obtain ⟨n1, n2, n3, n4, n5, n6⟩ := bar_no hb
  have hm : 0 < m := by omega
  have e0 := H.b 0 hm
  rw [Nat.add_zero, Nat.add_zero] at e0
  unfold tokF at h ⊢
  rw [e0]
  split at h
  · rename_i h1
    rw [if_pos h1]
    exact run_loc s t i j m p hi h1 h H hen hb
  rename_i h1
  rw [if_neg h1]
  split at h
  · rename_i h2
    have := based_loc s t i j m p hi h2 h H hen hb
    rw [if_pos (by rw [this.1]; exact h2)]
    exact this.2
  rename_i h2
  have h2 : baseF s i = 0 := by simpa using h2
  rw [if_neg (by rw [base0_loc s t i j m h2 hm H hb]; simp)]
  split at h
  · rename_i h3
    rw [if_pos h3]
    exact quo_loc s t i j m p H _ _ _ _ h hen (by have := H.lt; omega)
  rename_i h3
  rw [if_neg h3]
  split at h
  · rename_i h4
    have hb4 := sees_bt s i _ 45 _ rfl h4
    have hc4 : 4 ≤ cnt (fun b => b == 45) s i := by
      rcases Nat.lt_or_ge (cnt (fun b => b == 45) s i) 4 with q | q
      · have h5 := cnt_stop0 (fun b => b == 45) (by decide) s i
        rw [sees_byte s i _ h4 _ q] at h5
        generalize cnt (fun b => b == 45) s i = c at q h5
        match c, q, h5 with
        | 0, _, h5 => revert h5; decide
        | 1, _, h5 => revert h5; decide
        | 2, _, h5 => revert h5; decide
        | 3, _, h5 => revert h5; decide
      · exact q
    injection h with h; subst h
    simp only [] at hen
    rw [if_pos (by rw [H.sees _ (by show 4 ≤ m; omega)]; exact h4), H.cnt (fun b => b == 45) (by decide) (by omega) (fun _ => by simpa using n4)]
    simp [Tk.mv]
  rename_i h4
  rw [if_neg (fun q => h4 (H.sees_bar _ hb (fun k a _ => nobar45 k a) q))]
  split at h
  · rename_i h4
    have hb4 := sees_bt s i _ 61 _ rfl h4
    have hc4 : 4 ≤ cnt (fun b => b == 61) s i := by
      rcases Nat.lt_or_ge (cnt (fun b => b == 61) s i) 4 with q | q
      · have h5 := cnt_stop0 (fun b => b == 61) (by decide) s i
        rw [sees_byte s i _ h4 _ q] at h5
        generalize cnt (fun b => b == 61) s i = c at q h5
        match c, q, h5 with
        | 0, _, h5 => revert h5; decide
        | 1, _, h5 => revert h5; decide
        | 2, _, h5 => revert h5; decide
        | 3, _, h5 => revert h5; decide
      · exact q
    injection h with h; subst h
    simp only [] at hen
    rw [if_pos (by rw [H.sees _ (by show 4 ≤ m; omega)]; exact h4), H.cnt (fun b => b == 61) (by decide) (by omega) (fun _ => by simpa using n5)]
    simp [Tk.mv]
  rename_i h5
  rw [if_neg (fun q => h5 (H.sees_bar _ hb (fun k a _ => nobar61 k a) q))]
  exact sign_loc s t i j m p hi h H hen hb hS
end Go.Proofs.YtagcfgoofiibfaaGreatDoor
namespace Go.Proofs.YtagcfgoofiibfaaGreatDoor
open Go Go.RowKit

inductive Item where
  | com (j : Nat)
  | tok (p : Tk)
  | bad (e : Int)
/-- what stands at a byte that is no blank -/
def item (s : ByteArray) (i : Nat) : Item :=
  if sees s i ⟨#[92, 42]⟩ then .com (i + cnt (fun b => b != 10) s i)
  else if sees s i ⟨#[40, 42]⟩ then
    match insA s i 0 with
    | none => .bad 22
    | some j => .com j
  else match tokF s i with
    | .ok p => .tok p
    | .error e => .bad e

/-- a text read from a byte on: its tokens, its comments -/
inductive Sc (s : ByteArray) : Nat → List Tk → List (Nat × Nat) → Prop
  | fin (i : Nat) : s.size ≤ i → Sc s i [] []
  | blank (i : Nat) (ps : List Tk) (ys : List (Nat × Nat)) : i < s.size → blk (bt s i) = true → Sc s (i + 1) ps ys → Sc s i ps ys
  | com (i j : Nat) (ps : List Tk) (ys : List (Nat × Nat)) : i < s.size → blk (bt s i) = false → item s i = .com j → Sc s j ps ys → Sc s i ps ((i, j) :: ys)
  | tok (i : Nat) (p : Tk) (ps : List Tk) (ys : List (Nat × Nat)) : i < s.size → blk (bt s i) = false → item s i = .tok p → Sc s p.en ps ys → Sc s i (p :: ps) ys
/-- .. to an error -/
inductive ScE (s : ByteArray) (a : Nat) (e : Int) : Nat → Prop
  | bad : a < s.size → blk (bt s a) = false → item s a = .bad e → ScE s a e a
  | blank (i : Nat) : i < s.size → blk (bt s i) = true → ScE s a e (i + 1) → ScE s a e i
  | com (i j : Nat) : i < s.size → blk (bt s i) = false → item s i = .com j → ScE s a e j → ScE s a e i
  | tok (i : Nat) (p : Tk) : i < s.size → blk (bt s i) = false → item s i = .tok p → ScE s a e p.en → ScE s a e i

theorem item_com (s : ByteArray) (i j : Nat) (hi : i < s.size) (h : item s i = .com j) : i < j ∧ j ≤ s.size := by
  unfold item at h
  split at h
  · rename_i h1
    have hb := sees_bt s i _ 92 [42] rfl h1
    have hy := cnt_yes (fun b => b != 10) s i hi (by rw [hb]; decide)
    have := cnt_le (fun b => b != 10) s i
    injection h with h; omega
  · split at h
    · split at h
      · cases h
      · rename_i q hq
        injection h with h; subst h
        exact insA_bd s i 0 _ (by omega) hq
    · split at h <;> cases h
theorem item_tok (s : ByteArray) (i : Nat) (p : Tk) (hi : i < s.size) (h : item s i = .tok p) : tokF s i = .ok p ∧ i < p.en ∧ p.en ≤ s.size ∧ p.at_ = i ∧ sees s i ⟨#[92, 42]⟩ = false ∧ sees s i ⟨#[40, 42]⟩ = false := by
  unfold item at h
  split at h
  · cases h
  · rename_i h1
    split at h
    · split at h <;> cases h
    · rename_i h2
      split at h
      · rename_i q hq
        injection h with h; subst h
        exact ⟨hq, (tokF_bd s i _ hi hq).1, (tokF_bd s i _ hi hq).2.1, (tokF_bd s i _ hi hq).2.2, by simpa using h1, by simpa using h2⟩
      · cases h

theorem skp_com (s : ByteArray) (i j : Nat) (ys : List (Nat × Nat)) (hi : i < s.size) (hb : blk (bt s i) = false) (h : item s i = .com j) : skpA s i ys = skpA s j (ys ++ [(i, j)]) := by
  rw [skpA_eq, if_neg (by omega), if_neg (by simp [hb])]
  unfold item at h
  split at h
  · rename_i h1
    injection h with h
    rw [if_pos h1, h]
  · rename_i h1
    rw [if_neg h1]
    split at h
    · rename_i h2
      rw [if_pos h2]
      split at h
      · cases h
      · rename_i q hq
        injection h with h; subst h
        rw [hq]
    · split at h <;> cases h
theorem skp_tok (s : ByteArray) (i : Nat) (p : Tk) (ys : List (Nat × Nat)) (hi : i < s.size) (hb : blk (bt s i) = false) (h : item s i = .tok p) : skpA s i ys = .ok (i, ys) := by
  obtain ⟨_, _, _, _, h1, h2⟩ := item_tok s i p hi h
  rw [skpA_eq, if_neg (by omega), if_neg (by simp [hb]), if_neg (by simp [h1]), if_neg (by simp [h2])]

theorem scnF_skp (s : ByteArray) (f i j : Nat) (ps : List Tk) (ys zs : List (Nat × Nat)) (h : skpA s i ys = skpA s j zs) : scnF s (f + 1) i ps ys = scnF s (f + 1) j ps zs := by
  simp only [scnF, h]

theorem Sc.run {s : ByteArray} {i : Nat} {qs : List Tk} {zs : List (Nat × Nat)} (h : Sc s i qs zs) : ∀ (f : Nat) (ps : List Tk) (ys : List (Nat × Nat)), s.size - i < f → scnF s f i ps ys = .ok (ps ++ qs, ys ++ zs) := by
  induction h with
  | fin i hi =>
    intro f ps ys hf
    obtain ⟨f, rfl⟩ : ∃ g, f = g + 1 := ⟨f - 1, by omega⟩
    simp only [scnF]
    rw [skpA_eq, if_pos hi]
    simp [hi]
  | blank i qs zs hi hb _ ih =>
    intro f ps ys hf
    obtain ⟨f, rfl⟩ : ∃ g, f = g + 1 := ⟨f - 1, by omega⟩
    rw [scnF_skp s f i (i + 1) ps ys ys (by conv => lhs; rw [skpA_eq, if_neg (by omega), if_pos hb])]
    exact ih _ _ _ (by omega)
  | com i j qs zs hi hb hc _ ih =>
    intro f ps ys hf
    obtain ⟨f, rfl⟩ : ∃ g, f = g + 1 := ⟨f - 1, by omega⟩
    have := item_com s i j hi hc
    rw [scnF_skp s f i j ps ys _ (skp_com s i j ys hi hb hc), ih _ _ _ (by omega)]
    simp
  | tok i p qs zs hi hb hc _ ih =>
    intro f ps ys hf
    obtain ⟨f, rfl⟩ : ∃ g, f = g + 1 := ⟨f - 1, by omega⟩
    obtain ⟨h1, h2, h3, h4, _, _⟩ := item_tok s i p hi hc
    simp only [scnF]
    rw [skp_tok s i p ys hi hb hc]
    simp only []
    rw [if_neg (by omega), h1]
    simp only []
    rw [ih _ _ _ (by omega)]
    simp
theorem ScE.run {s : ByteArray} {a : Nat} {e : Int} {i : Nat} (h : ScE s a e i) : ∀ (f : Nat) (ps : List Tk) (ys : List (Nat × Nat)), s.size - i < f → scnF s f i ps ys = .error (a, e) := by
  induction h with
  | bad ha hb hc =>
    intro f ps ys hf
    obtain ⟨f, rfl⟩ : ∃ g, f = g + 1 := ⟨f - 1, by omega⟩
    simp only [scnF]
    rw [skpA_eq, if_neg (by omega), if_neg (by simp [hb])]
    unfold item at hc
    split at hc
    · cases hc
    · rename_i h1
      rw [if_neg h1]
      split at hc
      · rename_i h2
        rw [if_pos h2]
        split at hc
        · rename_i hq
          rw [hq]
          injection hc with hc; rw [hc]
        · cases hc
      · rename_i h2
        rw [if_neg h2]
        simp only []
        rw [if_neg (by omega)]
        split at hc
        · cases hc
        · rename_i q hq
          injection hc with hc; rw [hq, hc]
  | blank i hi hb _ ih =>
    intro f ps ys hf
    obtain ⟨f, rfl⟩ : ∃ g, f = g + 1 := ⟨f - 1, by omega⟩
    rw [scnF_skp s f i (i + 1) ps ys ys (by conv => lhs; rw [skpA_eq, if_neg (by omega), if_pos hb])]
    exact ih _ _ _ (by omega)
  | com i j hi hb hc _ ih =>
    intro f ps ys hf
    obtain ⟨f, rfl⟩ : ∃ g, f = g + 1 := ⟨f - 1, by omega⟩
    have := item_com s i j hi hc
    rw [scnF_skp s f i j ps ys _ (skp_com s i j ys hi hb hc), ih _ _ _ (by omega)]
  | tok i p hi hb hc _ ih =>
    intro f ps ys hf
    obtain ⟨f, rfl⟩ : ∃ g, f = g + 1 := ⟨f - 1, by omega⟩
    obtain ⟨h1, h2, h3, h4, _, _⟩ := item_tok s i p hi hc
    simp only [scnF]
    rw [skp_tok s i p ys hi hb hc]
    simp only []
    rw [if_neg (by omega), h1]
    simp only []
    rw [ih _ _ _ (by omega)]
theorem Sc.total (s : ByteArray) : ∀ (n i : Nat), s.size - i ≤ n → (∃ ps ys, Sc s i ps ys) ∨ ∃ a e, ScE s a e i
  | 0, i, h => .inl ⟨_, _, .fin i (by omega)⟩
  | n + 1, i, h => by
    by_cases hi : s.size ≤ i
    · exact .inl ⟨_, _, .fin i hi⟩
    have hi : i < s.size := by omega
    rcases hb : blk (bt s i) with _ | _
    · rcases hit : item s i with j | p | e
      · have := item_com s i j hi hit
        rcases Sc.total s n j (by omega) with ⟨ps, ys, h1⟩ | ⟨a, e, h1⟩
        · exact .inl ⟨_, _, .com i j ps ys hi hb hit h1⟩
        · exact .inr ⟨_, _, .com i j hi hb hit h1⟩
      · have := item_tok s i p hi hit
        rcases Sc.total s n p.en (by omega) with ⟨ps, ys, h1⟩ | ⟨a, e, h1⟩
        · exact .inl ⟨_, _, .tok i p ps ys hi hb hit h1⟩
        · exact .inr ⟨_, _, .tok i p hi hb hit h1⟩
      · exact .inr ⟨_, _, .bad hi hb hit⟩
    · rcases Sc.total s n (i + 1) (by omega) with ⟨ps, ys, h1⟩ | ⟨a, e, h1⟩
      · exact .inl ⟨_, _, .blank i ps ys hi hb h1⟩
      · exact .inr ⟨_, _, .blank i hi hb h1⟩
theorem scan_ok_iff (s : ByteArray) (ps : List Tk) (ys : List (Nat × Nat)) : scan s = .ok (ps, ys) ↔ Sc s 0 ps ys := by
  constructor
  · intro h
    rcases Sc.total s _ 0 (Nat.le_refl _) with ⟨qs, zs, h1⟩ | ⟨a, e, h1⟩
    · have h2 := h1.run (s.size + 1) [] [] (by omega)
      unfold scan at h
      rw [h] at h2
      simp at h2
      rw [h2.1, h2.2]; exact h1
    · have h2 := h1.run (s.size + 1) [] [] (by omega)
      unfold scan at h
      rw [h] at h2; cases h2
  · intro h
    have := h.run (s.size + 1) [] [] (by omega)
    simpa [scan] using this
theorem scan_err_iff (s : ByteArray) (a : Nat) (e : Int) : scan s = .error (a, e) ↔ ScE s a e 0 := by
  constructor
  · intro h
    rcases Sc.total s _ 0 (Nat.le_refl _) with ⟨qs, zs, h1⟩ | ⟨b, f, h1⟩
    · have h2 := h1.run (s.size + 1) [] [] (by omega)
      unfold scan at h
      rw [h] at h2; cases h2
    · have h2 := h1.run (s.size + 1) [] [] (by omega)
      unfold scan at h
      rw [h] at h2
      simp at h2
      rw [h2.1, h2.2]; exact h1
  · intro h
    exact h.run (s.size + 1) [] [] (by omega)
theorem Sc.len {s : ByteArray} {i : Nat} {ps : List Tk} {ys : List (Nat × Nat)} (h : Sc s i ps ys) : ps.length ≤ s.size - i := by
  induction h with
  | fin i hi => simp
  | blank i qs zs hi hb _ ih => omega
  | com i j qs zs hi hb hc _ ih => have := item_com s i j hi hc; omega
  | tok i p qs zs hi hb hc _ ih => have := item_tok s i p hi hc; simp; omega
theorem tokens_ok_iff (s : ByteArray) (hs : s.size ≤ 20000) (ts : List Tk) : tokens s = .ok ts ↔ ∃ ps ys, Sc s 0 ps ys ∧ ts = ps.map (placed s) := by
  unfold tokens
  rw [if_neg (by omega)]
  rcases hsc : scan s with ⟨a, e⟩ | ⟨ps, ys⟩
  · simp only []
    constructor
    · intro h; cases h
    · rintro ⟨ps, ys, h, _⟩
      rw [(scan_ok_iff s ps ys).2 h] at hsc; cases hsc
  · have h := (scan_ok_iff s ps ys).1 hsc
    have := h.len
    simp only []
    rw [if_neg (by omega)]
    constructor
    · intro h2; injection h2 with h2; exact ⟨ps, ys, h, h2.symm⟩
    · rintro ⟨ps', ys', h', rfl⟩
      rw [(scan_ok_iff s ps' ys').2 h'] at hsc
      injection hsc with hsc; injection hsc with h1 h2
      rw [h1]
theorem tokens_err_iff (s : ByteArray) (hs : s.size ≤ 20000) (a : Nat) (e : Int) : tokens s = .error (a, e) ↔ ScE s a e 0 := by
  unfold tokens
  rw [if_neg (by omega), ← scan_err_iff]
  rcases hsc : scan s with ⟨b, f⟩ | ⟨ps, ys⟩
  · simp only []
    constructor
    · intro h; injection h with h; rw [h]
    · intro h; injection h with h; rw [h]
  · have h := (scan_ok_iff s ps ys).1 hsc
    have := h.len
    simp only []
    rw [if_neg (by omega)]
    constructor
    · intro h2; cases h2
    · intro h2; cases h2
end Go.Proofs.YtagcfgoofiibfaaGreatDoor
