/- The lexer and what it reaches: part 14 of 41: K1, U0, Q0. -/
import Derived.Test.YtagcfgoofiibfaaGreatDoorG12
import Derived.Test.YtagcfgoofiibfaaGreatDoorG05
import Derived.Test.YtagcfgoofiibfaaGreatDoorG13
set_option linter.unusedVariables false
set_option linter.unusedSimpArgs false
namespace Go.Proofs.YtagcfgoofiibfaaGreatDoor
open Go.RowKit

/-- tokens stand one behind the other -/
def Ordd (n : Nat) (ps : List Tk) : Prop := ps.Pairwise (fun a b => a.en ≤ b.at_) ∧ ∀ t ∈ ps, t.at_ < t.en ∧ t.en ≤ n
theorem scnF_ord (s : ByteArray) : ∀ (f i : Nat) (ps : List Tk) (ys : List (Nat × Nat)) (qs : List Tk) (zs : List (Nat × Nat)), i ≤ s.size → ys.length ≤ i → Ordd i ps → scnF s f i ps ys = .ok (qs, zs) → Ordd s.size qs
  | 0, i, ps, ys, qs, zs, hi, hy, ho, h => by
    simp only [scnF] at h
    injection h with h; injection h with h1 h2
    subst h1
    exact ⟨ho.1, fun t ht => ⟨(ho.2 t ht).1, by have := (ho.2 t ht).2; omega⟩⟩
  | f + 1, i, ps, ys, qs, zs, hi, hy, ho, h => by
    simp only [scnF] at h
    rcases hk : skpA s i ys with a | ⟨j, ws⟩
    · rw [hk] at h; cases h
    · rw [hk] at h
      have hb := skpA_bd s i ys j ws hi hy hk
      simp only at h
      split at h
      · injection h with h; injection h with h1 h2
        subst h1
        exact ⟨ho.1, fun t ht => ⟨(ho.2 t ht).1, by have := (ho.2 t ht).2; omega⟩⟩
      · rename_i hj
        rcases ht : tokF s j with e | t
        · rw [ht] at h; cases h
        · rw [ht] at h
          have hb2 := tokF_bd s j t (by omega) ht
          refine scnF_ord s f t.en (ps ++ [t]) ws qs zs (by omega) (by omega) ⟨?_, ?_⟩ h
          · rw [List.pairwise_append]
            refine ⟨ho.1, by simp, fun a ha b hb' => ?_⟩
            simp only [List.mem_singleton] at hb'
            subst hb'
            have := (ho.2 a ha).2
            omega
          · intro a ha
            rcases List.mem_append.1 ha with ha | ha
            · have := ho.2 a ha; omega
            · simp only [List.mem_singleton] at ha
              subst ha; omega
theorem scan_ord (s : ByteArray) (ps : List Tk) (ys : List (Nat × Nat)) (h : scan s = .ok (ps, ys)) : Ordd s.size ps :=
  scnF_ord s _ 0 [] [] ps ys (Nat.zero_le _) (Nat.zero_le _) ⟨by simp, by simp⟩ h

/-- a token with its line and column -/
def placed (s : ByteArray) (t : Tk) : Tk := t.placedAt (pos s t.at_).1 (pos s t.at_).2
def plStep (s : ByteArray) (q : Nat × List Tk) (x : Nat) : Nat × List Tk :=
  match q.2[q.1]? with
  | some t => if t.at_ = x then (q.1 + 1, q.2.set q.1 (t.placedAt (pos s x).1 (pos s x).2)) else q
  | none => q
def plS (s : ByteArray) (ps : List Tk) (xs : List Nat) : Nat × List Tk := xs.foldl (plStep s) (0, ps)
theorem plS_snoc (s : ByteArray) (ps : List Tk) (xs : List Nat) (x : Nat) : plS s ps (xs ++ [x]) = plStep s (plS s ps xs) x := by simp [plS]

theorem mid_get (s : ByteArray) (ps : List Tk) (k : Nat) (hk : k ≤ ps.length) : ((ps.take k).map (placed s) ++ ps.drop k)[k]? = ps[k]? := by
  rw [List.getElem?_append_right (by simp; omega)]
  simp only [List.length_map, List.length_take, Nat.min_eq_left hk, Nat.sub_self, List.getElem?_drop, Nat.add_zero]
theorem mid_set (s : ByteArray) (ps : List Tk) (k : Nat) (t : Tk) (ht : ps[k]? = some t) : ((ps.take k).map (placed s) ++ ps.drop k).set k (placed s t) = (ps.take (k + 1)).map (placed s) ++ ps.drop (k + 1) := by
  have hk : k < ps.length := by
    rcases Nat.lt_or_ge k ps.length with h | h
    · exact h
    · rw [List.getElem?_eq_none h] at ht; cases ht
  have he : ps[k] = t := by rw [List.getElem?_eq_getElem hk] at ht; injection ht
  rw [List.set_append_right _ _ (by simp; omega)]
  simp only [List.length_map, List.length_take, Nat.min_eq_left (Nat.le_of_lt hk), Nat.sub_self]
  rw [List.drop_eq_getElem_cons hk, List.set_cons_zero, List.take_succ_eq_append_getElem hk, he]
  simp
theorem plS_range (s : ByteArray) (ps : List Tk) (ho : ps.Pairwise (fun a b => a.at_ < b.at_)) : ∀ n : Nat, ∃ k, k ≤ ps.length ∧ plS s ps (List.range n) = (k, (ps.take k).map (placed s) ++ ps.drop k) ∧
    ∀ (j : Nat) (t : Tk), ps[j]? = some t → k ≤ j → n ≤ t.at_
  | 0 => ⟨0, Nat.zero_le _, by simp [plS], fun _ _ _ _ => Nat.zero_le _⟩
  | n + 1 => by
    obtain ⟨k, hk, he, hn⟩ := plS_range s ps ho n
    rw [List.range_succ, plS_snoc, he]
    unfold plStep
    simp only
    rw [mid_get s ps k hk]
    rcases ht : ps[k]? with _ | t
    · refine ⟨k, hk, rfl, fun j t hj hkj => ?_⟩
      have : ps.length ≤ k := List.getElem?_eq_none_iff.1 ht
      rw [List.getElem?_eq_none (by omega)] at hj; cases hj
    · have hlt : k < ps.length := by
        rcases Nat.lt_or_ge k ps.length with h | h
        · exact h
        · rw [List.getElem?_eq_none h] at ht; cases ht
      have hmono : ∀ (j : Nat) (u : Tk), ps[j]? = some u → k < j → t.at_ < u.at_ := fun j u hj hkj => by
        have hjl : j < ps.length := by
          rcases Nat.lt_or_ge j ps.length with h | h
          · exact h
          · rw [List.getElem?_eq_none h] at hj; cases hj
        have := List.pairwise_iff_getElem.1 ho k j hlt hjl hkj
        rw [List.getElem?_eq_getElem hlt] at ht
        rw [List.getElem?_eq_getElem hjl] at hj
        injection ht with ht; injection hj with hj
        rw [ht, hj] at this; exact this
      simp only
      split
      · rename_i hat
        refine ⟨k + 1, by omega, ?_, fun j u hj hkj => ?_⟩
        · subst hat
          rw [← mid_set s ps k t ht]; rfl
        · have := hmono j u hj (by omega); omega
      · rename_i hat
        refine ⟨k, hk, rfl, fun j u hj hkj => ?_⟩
        have h1 := hn k t ht (Nat.le_refl _)
        rcases Nat.lt_or_ge k j with h | h
        · have := hmono j u hj h; omega
        · obtain rfl : j = k := by omega
          rw [ht] at hj; injection hj with hj; subst hj; omega
theorem plS_all (s : ByteArray) (ps : List Tk) (ho : Ordd s.size ps) : plS s ps (List.range (s.size + 1)) = (ps.length, ps.map (placed s)) := by
  have hp : ps.Pairwise (fun a b => a.at_ < b.at_) := ho.1.imp_of_mem fun {a b} ha _ h => by have := (ho.2 a ha).1; omega
  obtain ⟨k, hk, he, hn⟩ := plS_range s ps hp (s.size + 1)
  have : k = ps.length := by
    rcases Nat.lt_or_ge k ps.length with h | h
    · have h1 := hn k ps[k] (List.getElem?_eq_getElem h) (Nat.le_refl _)
      have h2 := ho.2 ps[k] (List.getElem_mem h)
      omega
    · omega
  subst this
  rw [he]; simp

theorem quo_err (s : ByteArray) (i : Nat) : ∀ (f k : Nat) (o : List UInt8) (e : Int), quo s i f k o = .error e → e = 21
  | 0, _, _, e, h => by simp only [quo] at h; injection h with h; exact h.symm
  | f + 1, k, o, e, h => by
    simp only [quo] at h
    split at h
    · injection h with h; exact h.symm
    · split at h
      · split at h
        · injection h with h; exact h.symm
        · cases h
      · split at h
        · split at h
          · split at h
            · injection h with h; exact h.symm
            · exact quo_err s i f _ _ e h
          · injection h with h; exact h.symm
        · split at h
          · injection h with h; exact h.symm
          · exact quo_err s i f _ _ e h
theorem sgn_err (s : ByteArray) (i : Nat) : ∀ (n : Nat) (e : Int), sgn s i n = .error e → e = 20
  | 0, e, h => by simp only [sgn] at h; injection h with h; exact h.symm
  | n + 1, e, h => by
    simp only [sgn] at h
    split at h
    · split at h
      · exact sgn_err s i n e h
      · cases h
    · exact sgn_err s i n e h
theorem tokF_err (s : ByteArray) (i : Nat) (e : Int) (h : tokF s i = .error e) : 20 ≤ e ∧ e ≤ 24 := by
  unfold tokF at h
  split at h
  · unfold runF at h
    (repeat' split at h) <;> first | (injection h with h; omega) | cases h
  · split at h
    · unfold basedF at h
      split at h
      · injection h with h; omega
      · cases h
    · split at h
      · have := quo_err s i _ _ _ e h; omega
      · split at h
        · cases h
        · split at h
          · cases h
          · unfold signF at h
            split at h
            · cases h
            · have := sgn_err s i _ e h; omega
theorem scnF_err (s : ByteArray) : ∀ (f i : Nat) (ps : List Tk) (ys : List (Nat × Nat)) (a : Nat) (e : Int), scnF s f i ps ys = .error (a, e) → 20 ≤ e ∧ e ≤ 24
  | 0, i, ps, ys, a, e, h => by simp only [scnF] at h; cases h
  | f + 1, i, ps, ys, a, e, h => by
    simp only [scnF] at h
    split at h
    · injection h with h; injection h with h1 h2; omega
    · split at h
      · cases h
      · split at h
        · rename_i ht
          injection h with h; injection h with h1 h2; subst h2
          exact tokF_err _ _ _ ht
        · exact scnF_err s f _ _ _ a e h
theorem scan_err (s : ByteArray) (a : Nat) (e : Int) (h : scan s = .error (a, e)) : 20 ≤ e ∧ e ≤ 24 := scnF_err s _ _ _ _ a e h

/-- the tokens of a text -/
def tokens (s : ByteArray) : Except (Nat × Int) (List Tk) :=
  if 100000 < s.size then .error (0, 2)
  else match scan s with
    | .error a => .error a
    | .ok (ps, _) => if 20000 < ps.length then .error (0, 2) else .ok (ps.map (placed s))
def TokTo (r : Except (Nat × Int) (List Tk)) (w : World) (e : Ending) (w' : World) : Prop :=
  (match r with
   | .error (a, er) => e = .returned (.tuple #[.slice none 0 0, .int .i64 (a : Int), .int .i64 er])
   | .ok ts => ∃ v, e = .returned (.tuple #[v, .int .i64 0, .int .i64 0]) ∧ TokRow w' v ts) ∧ Below w.heap.size w w'
end Go.Proofs.YtagcfgoofiibfaaGreatDoor
namespace Go.Proofs.YtagcfgoofiibfaaGreatDoor
open Go Go.RowKit

/-- the table of blanks of package strings -/
def TI (w : World) : Prop := Lib.TabIs Tryz.prog w "strings.asciiSpace" .u8 Lib.asciiSpaceTab
def C24 : Prop := ∀ (s : ByteArray) (w : World), TI w → Calls Tryz.prog 24 #[.string s] w (TokTo (tokens s) w)

/-- the kind of the token that a text is -/
def kindR (n : Nat) : Except (Nat × Int) (List Tk) → Int
  | .ok [t] => if t.at_ = 0 ∧ t.en = n then t.k else 0
  | _ => 0
def kindF (s : ByteArray) : Int := kindR s.size (tokens s)

theorem TokRow.one {w : World} {v : Value} {t : Tk} (h : TokRow w v [t]) : ∃ b cap, v = .slice (some ⟨b, 0, none⟩) 1 cap ∧ 1 ≤ cap ∧ w.cell? ⟨b, 0, none⟩ = some (.int .i64 t.k) ∧ w.cell? ⟨b, 4, none⟩ = some (.int .i64 (t.at_ : Int)) ∧ w.cell? ⟨b, 5, none⟩ = some (.int .i64 (t.en : Int)) := by
  rcases h.form with ⟨_, h0⟩ | ⟨b, cap, hv, hc, _, _, _, hg⟩
  · cases h0
  · obtain ⟨dv, _, h2⟩ := hg 0 t rfl
    exact ⟨b, cap, hv, hc, h2 0 (by omega), h2 4 (by omega), h2 5 (by omega)⟩
theorem TokRow.many {w : World} {v : Value} {ts : List Tk} (h : TokRow w v ts) (hl : ts.length ≠ 1) : ∃ a n cap, v = .slice a n cap ∧ n = ts.length ∧ ((n : Int) != 1) = true := by
  rcases h.form with ⟨hv, h0⟩ | ⟨b, cap, hv, hc, _, _, _, hg⟩
  · exact ⟨_, _, _, hv, by rw [h0]; rfl, rfl⟩
  · exact ⟨_, _, _, hv, rfl, by simp; omega⟩

set_option maxRecDepth 100000 in
set_option maxHeartbeats 1600000 in
theorem c27 (h24 : C24) (s : ByteArray) (w : World) (hT : TI w) : Calls Tryz.prog 27 #[.string s] w fun e w' => e = .returned (.int .i64 (kindF s)) ∧ Below w.heap.size w w' := by
  have hc := h24 s w hT
  obtain ⟨kd, hkd⟩ : ∃ kd, kd = kindF s := ⟨_, rfl⟩
  rw [← hkd]
  unfold kindF at hkd
  generalize tokens s = r at hc hkd
  have HK := Lib.hid hkd.symm
  clear hkd
  have HC := Lib.hid hc
  clear hc
  rcases r with ⟨a, er⟩ | ts
  · by_cases he : er = 0
    · subst he
      go_enter Tryz.func27, Tryz.ntmps27
      go_wp2_with (go_at_call 24; ((with_reducible refine HC.out.mono ?_); rintro e w' ⟨rfl, hb⟩; have HB := Lib.hid hb; clear hb))
      go_ret
      exact ⟨ret_int HK.out, HB.out⟩
    · have he2 : (er != 0) = true := by simpa using he
      go_enter Tryz.func27, Tryz.ntmps27
      go_wp2_with (go_at_call 24; ((with_reducible refine HC.out.mono ?_); rintro e w' ⟨rfl, hb⟩; have HB := Lib.hid hb; clear hb))
      go_ret
      exact ⟨ret_int HK.out, HB.out⟩
  · by_cases hl : ts.length = 1
    · obtain ⟨t, rfl⟩ : ∃ t, ts = [t] := by
        rcases ts with _ | ⟨t, _ | ⟨u, ts⟩⟩
        · cases hl
        · exact ⟨t, rfl⟩
        · simp at hl
      clear hl
      by_cases h1 : t.at_ = 0
      · by_cases h2 : t.en = s.size
        · have e1 : ((t.at_ : Int) != 0) = false := by simp [h1]
          have e2 : ((t.en : Int) != (s.size : Int)) = false := by simp [h2]
          have hk : kd = t.k := by rw [← HK.out]; simp only [kindR]; rw [if_pos ⟨h1, h2⟩]
          have HK2 := Lib.hid hk
          clear h1 h2 hk
          go_enter Tryz.func27, Tryz.ntmps27
          go_wp2_with (go_at_call 24; ((with_reducible refine HC.out.mono ?_); rintro e w' ⟨⟨v, rfl, hv⟩, hb⟩; have HB := Lib.hid hb; clear hb; obtain ⟨b, cap, rfl, hcap, k0, k4, k5⟩ := hv.one; clear hv))
          go_ret
          exact ⟨ret_int HK2.out.symm, HB.out⟩
        · have e1 : ((t.at_ : Int) != 0) = false := by simp [h1]
          have e2 : ((t.en : Int) != (s.size : Int)) = true := by simp; omega
          have hk : kd = 0 := by rw [← HK.out]; simp only [kindR]; rw [if_neg (by omega)]
          have HK2 := Lib.hid hk
          clear h1 h2 hk
          go_enter Tryz.func27, Tryz.ntmps27
          go_wp2_with (go_at_call 24; ((with_reducible refine HC.out.mono ?_); rintro e w' ⟨⟨v, rfl, hv⟩, hb⟩; have HB := Lib.hid hb; clear hb; obtain ⟨b, cap, rfl, hcap, k0, k4, k5⟩ := hv.one; clear hv))
          go_ret
          exact ⟨ret_int HK2.out.symm, HB.out⟩
      · have e1 : ((t.at_ : Int) != 0) = true := by simp; omega
        have hk : kd = 0 := by rw [← HK.out]; simp only [kindR]; rw [if_neg (by omega)]
        have HK2 := Lib.hid hk
        clear h1 hk
        go_enter Tryz.func27, Tryz.ntmps27
        go_wp2_with (go_at_call 24; ((with_reducible refine HC.out.mono ?_); rintro e w' ⟨⟨v, rfl, hv⟩, hb⟩; have HB := Lib.hid hb; clear hb; obtain ⟨b, cap, rfl, hcap, k0, k4, k5⟩ := hv.one; clear hv))
        go_ret
        exact ⟨ret_int HK2.out.symm, HB.out⟩
    · have hk : kd = 0 := by
        rw [← HK.out]
        rcases ts with _ | ⟨t, _ | ⟨u, ts⟩⟩
        · rfl
        · exact absurd rfl hl
        · rfl
      have HK2 := Lib.hid hk
      clear hk
      have HL := Lib.hid hl
      clear hl
      go_enter Tryz.func27, Tryz.ntmps27
      go_wp2_with (go_at_call 24; ((with_reducible refine HC.out.mono ?_); rintro e w' ⟨⟨v, rfl, hv⟩, hb⟩; have HB := Lib.hid hb; clear hb; obtain ⟨b, n, cap, rfl, hnl, hn⟩ := hv.many HL.out; have HNL := Lib.hid hnl; clear hv hnl))
      go_ret
      exact ⟨ret_int HK2.out.symm, HB.out⟩
end Go.Proofs.YtagcfgoofiibfaaGreatDoor
namespace Go.Proofs.YtagcfgoofiibfaaGreatDoor
open Go Go.RowKit

theorem cnt_lt (p : Int → Bool) (s : ByteArray) : ∀ (c i : Nat), cnt p s i = c → ∀ k, k < c → i + k < s.size ∧ p (bt s (i + k)) = true
  | 0, _, _, _, h => by omega
  | c + 1, i, hc, k, hk => by
    by_cases hi : i < s.size
    · rcases hp : p (bt s i) with _ | _
      · rw [cnt_no p s i hp] at hc; omega
      · rw [cnt_yes p s i hi hp] at hc
        rcases k with _ | k
        · exact ⟨hi, hp⟩
        · have := cnt_lt p s c (i + 1) (by omega) k (by omega)
          rw [show i + (k + 1) = i + 1 + k by omega]; exact this
    · rw [cnt_end p s i (by omega)] at hc; omega
theorem cnt_stop (p : Int → Bool) (s : ByteArray) : ∀ (c i : Nat), cnt p s i = c → i + c < s.size → p (bt s (i + c)) = false
  | 0, i, hc, hi => by
    by_cases hp : p (bt s i) = true
    · rw [cnt_yes p s i hi hp] at hc; omega
    · simpa using hp
  | c + 1, i, hc, hi => by
    rcases hp : p (bt s i) with _ | _
    · rw [cnt_no p s i hp] at hc; omega
    · rw [cnt_yes p s i (by omega) hp] at hc
      have := cnt_stop p s c (i + 1) (by omega) (by omega)
      rw [show i + (c + 1) = i + 1 + c by omega]; exact this
theorem cnt_stop0 (p : Int → Bool) (h0 : p 0 = false) (s : ByteArray) (i : Nat) : p (bt s (i + cnt p s i)) = false := by
  by_cases h : i + cnt p s i < s.size
  · exact cnt_stop p s _ i rfl h
  · rw [bt_out s _ (by omega)]; exact h0
theorem cnt_is (p : Int → Bool) (s : ByteArray) : ∀ (c i : Nat), (∀ k, k < c → i + k < s.size ∧ p (bt s (i + k)) = true) → (s.size ≤ i + c ∨ p (bt s (i + c)) = false) → cnt p s i = c
  | 0, i, _, h => by
    rcases h with h | h
    · exact cnt_end p s i h
    · exact cnt_no p s i h
  | c + 1, i, h1, h => by
    have h0 := h1 0 (by omega)
    rw [cnt_yes p s i h0.1 h0.2, cnt_is p s c (i + 1) (fun k hk => by have := h1 (k + 1) (by omega); rw [show i + 1 + k = i + (k + 1) by omega]; exact this) (by rw [show i + 1 + c = i + (c + 1) by omega]; exact h)]

/-- n bytes of s from i on are those of t from j on -/
structure Agr (s t : ByteArray) (i j n : Nat) : Prop where
  ls : i + n ≤ s.size
  lt : j + n ≤ t.size
  b : ∀ k, k < n → bt t (j + k) = bt s (i + k)
/-- a byte that goes on with no token, or the end -/
def bar (b : Int) : Bool := blk b || decide (b = 40) || decide (b = 0)
theorem bar_no {b : Int} (h : bar b = true) : rnb b = false ∧ ltr b = false ∧ dgt b = false ∧ b ≠ 45 ∧ b ≠ 61 ∧ wrth b < 0 := by
  simp only [bar, blk, Bool.or_eq_true, decide_eq_true_eq] at h
  rcases h with ((((rfl | rfl) | rfl) | rfl) | rfl) | rfl <;> decide

theorem Agr.mono {s t : ByteArray} {i j n m : Nat} (h : Agr s t i j n) (hm : m ≤ n) : Agr s t i j m := ⟨by have := h.ls; omega, by have := h.lt; omega, fun k hk => h.b k (by omega)⟩
theorem Agr.shift {s t : ByteArray} {i j n : Nat} (h : Agr s t i j n) (m : Nat) (hm : m ≤ n) : Agr s t (i + m) (j + m) (n - m) :=
  ⟨by have := h.ls; omega, by have := h.lt; omega, fun k hk => by have := h.b (m + k) (by omega); rw [show j + m + k = j + (m + k) by omega, show i + m + k = i + (m + k) by omega]; exact this⟩
theorem Agr.symm {s t : ByteArray} {i j n : Nat} (h : Agr s t i j n) : Agr t s j i n := ⟨h.lt, h.ls, fun k hk => (h.b k hk).symm⟩

theorem byte_of_bt (s t : ByteArray) (i j : Nat) (h : bt s i = bt t j) : s.data.toList.getD i 0 = t.data.toList.getD j 0 := by
  unfold bt at h
  exact UInt8.toNat_inj.1 (by omega)
theorem Agr.drop {s t : ByteArray} {i j n : Nat} (h : Agr s t i j n) : ∀ c, c ≤ n → (t.data.toList.drop j).take c = (s.data.toList.drop i).take c := by
  intro c hc
  apply List.ext_getElem?
  intro k
  by_cases hk : k < c
  · rw [List.getElem?_take_of_lt hk, List.getElem?_take_of_lt hk, List.getElem?_drop, List.getElem?_drop]
    have h1 := byte_of_bt _ _ _ _ (h.b k (by omega))
    have hs : i + k < s.data.toList.length := by have := h.ls; simp; omega
    have ht : j + k < t.data.toList.length := by have := h.lt; simp; omega
    rw [List.getD_eq_getElem?_getD, List.getD_eq_getElem?_getD] at h1
    rw [List.getElem?_eq_getElem hs, List.getElem?_eq_getElem ht] at h1 ⊢
    simpa using h1
  · rw [List.getElem?_eq_none (by simp; omega), List.getElem?_eq_none (by simp; omega)]
theorem extLst (s : ByteArray) (i c : Nat) : (s.extract i (i + c)).data.toList = (s.data.toList.drop i).take c := by
  simp [ByteArray.data_extract, Array.toList_extract, List.extract_eq_take_drop]
theorem ba_eq {a b : ByteArray} (h : a.data.toList = b.data.toList) : a = b := by
  apply ByteArray.ext; exact Array.toList_inj.1 h
theorem Agr.ext {s t : ByteArray} {i j n : Nat} (h : Agr s t i j n) (c : Nat) (hc : c ≤ n) : t.extract j (j + c) = s.extract i (i + c) := by
  apply ba_eq; rw [extLst, extLst]; exact h.drop c hc

/-- counted in one text as in the other: where the count ends within the common part, or a stop is behind it -/
theorem Agr.cnt {s t : ByteArray} {i j n : Nat} (h : Agr s t i j n) (p : Int → Bool) (hp : p 0 = false) (hc : Go.Proofs.YtagcfgoofiibfaaGreatDoor.cnt p s i ≤ n) (hb : Go.Proofs.YtagcfgoofiibfaaGreatDoor.cnt p s i = n → p (bt t (j + n)) = false) : Go.Proofs.YtagcfgoofiibfaaGreatDoor.cnt p t j = Go.Proofs.YtagcfgoofiibfaaGreatDoor.cnt p s i := by
  refine cnt_is p t _ j (fun k hk => ?_) ?_
  · have h1 := cnt_lt p s _ i rfl k hk
    have h2 := h.b k (by omega)
    refine ⟨by have := h.lt; omega, ?_⟩
    rw [h2]; exact h1.2
  · right
    rcases Nat.lt_or_ge (Go.Proofs.YtagcfgoofiibfaaGreatDoor.cnt p s i) n with hl | hl
    · rw [h.b _ hl]; exact cnt_stop0 p hp s i
    · have e : Go.Proofs.YtagcfgoofiibfaaGreatDoor.cnt p s i = n := by omega
      rw [e]; exact hb e
theorem Agr.cnt_le {s t : ByteArray} {i j n : Nat} (h : Agr s t i j n) (p : Int → Bool) (hb : p (bt t (j + n)) = false) : Go.Proofs.YtagcfgoofiibfaaGreatDoor.cnt p t j ≤ n := by
  rcases Nat.lt_or_ge n (Go.Proofs.YtagcfgoofiibfaaGreatDoor.cnt p t j) with hl | hl
  · have := (cnt_lt p t _ j rfl n hl).2
    rw [hb] at this; cases this
  · exact hl

theorem sees_take (s : ByteArray) (i : Nat) (p : ByteArray) : sees s i p = true ↔ (s.data.toList.drop i).take p.size = p.data.toList := by
  unfold sees Lib.hasPrefix
  rw [List.isPrefixOf_iff_prefix, List.prefix_iff_eq_take]
  exact ⟨fun h => h.symm, fun h => h.symm⟩
theorem Agr.sees {s t : ByteArray} {i j n : Nat} (h : Agr s t i j n) (p : ByteArray) (hp : p.size ≤ n) : Go.Proofs.YtagcfgoofiibfaaGreatDoor.sees t j p = Go.Proofs.YtagcfgoofiibfaaGreatDoor.sees s i p := by
  rw [Bool.eq_iff_iff, sees_take, sees_take, h.drop _ hp]
theorem sees_byte (s : ByteArray) (i : Nat) (p : ByteArray) (h : sees s i p = true) (k : Nat) (hk : k < p.size) : bt s (i + k) = bt p k := by
  rw [sees_take] at h
  have h2 : p.data.toList[k]? = s.data.toList[i + k]? := by rw [← h, List.getElem?_take_of_lt hk, List.getElem?_drop]
  unfold bt
  rw [List.getD_eq_getElem?_getD, List.getD_eq_getElem?_getD, h2]
/-- what is seen in t is seen in s, if no byte of it is a bar -/
theorem Agr.sees_bar {s t : ByteArray} {i j n : Nat} (h : Agr s t i j n) (p : ByteArray) (hb : bar (bt t (j + n)) = true) (hp : ∀ k, k < p.size → n ≤ k → bar (bt p k) = false) : Go.Proofs.YtagcfgoofiibfaaGreatDoor.sees t j p = true → Go.Proofs.YtagcfgoofiibfaaGreatDoor.sees s i p = true := by
  intro hs
  rcases Nat.lt_or_ge n p.size with hl | hl
  · have := sees_byte t j p hs n hl
    rw [this, hp n hl (Nat.le_refl _)] at hb; cases hb
  · rw [← h.sees p hl]; exact hs
end Go.Proofs.YtagcfgoofiibfaaGreatDoor
