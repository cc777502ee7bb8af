/- The lexer and what it reaches: part 24 of 41: U1, U2, U3. -/
import Derived.Test.YtagcfgoofiibfaaGreatDoorG14
import Derived.Test.YtagcfgoofiibfaaGreatDoorG23
set_option linter.unusedVariables false
set_option linter.unusedSimpArgs false
namespace Go.Proofs.YtagcfgoofiibfaaGreatDoor
open Go Go.RowKit

/-- behind size: 0 just where the numbers are the same -/
def SzTo (l1 l2 : List Int) (w : World) (e : Ending) (w' : World) : Prop := ∃ r : Int, e = .returned (.int .i64 r) ∧ (r = 0 ↔ l1 = l2) ∧ Dr w w'
theorem SzTo.mk {l1 l2 : List Int} {w w' : World} (r : Int) (h : r = 0 ↔ l1 = l2) (hd : Dr w w') : SzTo l1 l2 w (.returned (.int .i64 r)) w' := ⟨r, rfl, h, hd⟩
theorem ints_ext {l1 l2 : List Int} (hl : l1.length = l2.length) (h : ∀ j, j < l1.length → atL l1 j = atL l2 j) : l1 = l2 := by
  apply List.ext_getElem hl
  intro j h1 h2
  have := h j h1
  have e1 := atL_get l1 j h1
  have e2 := atL_get l2 j h2
  rw [List.getElem?_eq_getElem h1] at e1
  rw [List.getElem?_eq_getElem h2] at e2
  injection e1 with e1; injection e2 with e2
  rw [e1, e2, this]
theorem dr_cell {w w' : World} (h : Dr w w') {p : Addr} {v : Value} (hc : w.cell? p = some v) : w'.cell? p = some v := by obtain ⟨n, rfl⟩ := h; exact hc

/-- the state of size's loop -/
def SzL (l1 l2 : List Int) (w : World) (s5 : Value) (wr : World) : Prop := ∃ k : Nat, k ≤ l1.length ∧ s5 = .int .i64 ((k : Int) - 1) ∧ (∀ j, k ≤ j → j < l1.length → atL l1 j = atL l2 j) ∧ Dr w wr

set_option maxRecDepth 100000 in
set_option maxHeartbeats 1600000 in
theorem c168 (v1 v2 : Value) (l1 l2 : List Int) (w : World) (h1 : IntsAt w v1 l1) (h2 : IntsAt w v2 l2) (hl1 : l1.length ≤ 1000000) : Calls Tryz.prog 168 #[v1, v2] w (SzTo l1 l2 w) := by
  obtain ⟨a1, cp1, rfl⟩ := row_form h1
  obtain ⟨a2, cp2, rfl⟩ := row_form h2
  by_cases c1 : l1.length < l2.length
  · have H1 := Lib.hid h1
    clear h1 h2
    go_enter Tryz.func168, Tryz.ntmps168
    go_wp2
    go_ret
    exact SzTo.mk _ (by constructor; intro h; cases h; rintro rfl; omega) (Dr.refl _)
  by_cases c2 : l2.length < l1.length
  · clear h1 h2
    go_enter Tryz.func168, Tryz.ntmps168
    go_wp2
    go_ret
    exact SzTo.mk _ (by constructor; intro h; cases h; rintro rfl; omega) (Dr.refl _)
  have hl : l2.length = l1.length := by omega
  clear c1 c2
  by_cases hz : l1.length = 0
  · have e : l1 = l2 := by rw [List.eq_nil_of_length_eq_zero hz, List.eq_nil_of_length_eq_zero (by omega : l2.length = 0)]
    subst e
    rw [hz]
    have HE := Lib.hid hl
    clear h1 h2 hl hz
    go_enter Tryz.func168, Tryz.ntmps168
    go_wp2
    go_loopw [5] (fun s5 wr => s5 = .int .i64 (-1) ∧ wr = w) (fun _ _ => 0)
    case atStart => exact ⟨rfl, rfl⟩
    case round =>
      obtain ⟨rfl, rfl⟩ := hrel
      go_wp2
      go_ret
      exact SzTo.mk _ (by simp) (Dr.refl _)
  · rcases h1.form with ⟨_, h0⟩ | ⟨g1, q1, e1, _, _, _, x1⟩
    · rw [h0] at hz; exact absurd rfl hz
    rcases h2.form with ⟨_, h0⟩ | ⟨g2, q2, e2, _, _, _, x2⟩
    · rw [h0] at hl; exact absurd hl.symm hz
    injection e1 with e1a e1b e1c
    injection e2 with e2a e2b e2c
    subst e1a e1c e2a e2c
    rw [hl] at x2 ⊢
    have X1 := Lib.hid x1
    have X2 := Lib.hid x2
    have HL := Lib.hid hl
    have hpos : 0 < l1.length := by omega
    clear h1 h2 x1 x2 hl hz e1b e2b
    go_enter Tryz.func168, Tryz.ntmps168
    go_wp2
    go_loopw [5] (SzL l1 l2 w) (fun s5 _ => (intOf s5 + 1).toNat)
    case atStart => exact ⟨l1.length, Nat.le_refl _, rfl, fun j a b => by omega, Dr.refl _⟩
    case round =>
      obtain ⟨k, hk, rfl, heq, hdr⟩ := hrel
      have HEQ := Lib.hid heq
      have HDR := Lib.hid hdr
      clear heq hdr
      rcases k with _ | k
      · go_wp2
        go_ret
        exact SzTo.mk _ (by simp; exact ints_ext HL.out.symm (fun j hj => HEQ.out j (Nat.zero_le _) hj)) HDR.out
      · have ek : ((k + 1 : Nat) : Int) - 1 = (k : Int) := by omega
        rw [ek]
        clear ek
        have k1 := dr_cell HDR.out (X1.out k (by omega))
        have k2 := dr_cell HDR.out (X2.out k (by omega))
        have b1 : (k : Int) < (l1.length : Int) := by omega
        have b0 : (0 : Int) ≤ (k : Int) := by omega
        rcases Int.lt_trichotomy (atL l1 k) (atL l2 k) with hc | hc | hc
        · go_wp2
          go_quiet (fail)
          go_wp2
          go_ret
          exact SzTo.mk _ (by constructor; intro h; cases h; rintro rfl; omega) (HDR.out.drewN _)
        · have n1 : ¬ atL l1 k < atL l2 k := by omega
          have n2 : ¬ atL l2 k < atL l1 k := by omega
          have HC := Lib.hid hc
          clear hc
          go_wp2
          go_quiet (fail)
          go_wp2
          go_quiet (fail)
          go_wp2
          go_roundw
          case rel => exact ⟨k, by omega, rfl, fun j a b => by
            rcases Nat.lt_or_ge k j with q | q
            · exact HEQ.out j q b
            · rw [show j = k by omega]; exact HC.out, HDR.out.drewN _⟩
          case measure => simp [intOf]
        · have n1 : ¬ atL l1 k < atL l2 k := by omega
          go_wp2
          go_quiet (fail)
          go_wp2
          go_quiet (fail)
          go_wp2
          go_ret
          exact SzTo.mk _ (by constructor; intro h; cases h; rintro rfl; omega) ((HDR.out.drewN _).drewN _)
end Go.Proofs.YtagcfgoofiibfaaGreatDoor
namespace Go.Proofs.YtagcfgoofiibfaaGreatDoor
open Go Go.RowKit

theorem Dr.belowN {w w' : World} (h : Dr w w') (B : Nat) : Below B w w' := Dr.below h B
/-- behind Compare -/
def CmpTo (l1 l2 : List Int) (w : World) (e : Ending) (w' : World) : Prop := ∃ r : Int, e = .returned (.int .i64 r) ∧ (r = 0 ↔ l1 = l2) ∧ Below w.heap.size w w'

set_option maxRecDepth 100000 in
set_option maxHeartbeats 1600000 in
theorem c108 (v1 v2 : Value) (l1 l2 : List Int) (w : World) (h1 : IntsAt w v1 l1) (h2 : IntsAt w v2 l2) (hl1 : l1.length ≤ 1000000) : Calls Tryz.prog 108 #[.agg #[.bool false, v1], .agg #[.bool false, v2]] w (CmpTo l1 l2 w) := by
  obtain ⟨a1, cp1, rfl⟩ := row_form h1
  obtain ⟨a2, cp2, rfl⟩ := row_form h2
  have HC := Lib.hid (c168 _ _ l1 l2 _ ((h1.alloc (.cells #[.bool false, .slice a1 l1.length cp1] 39)).alloc (.cells #[.bool false, .slice a2 l2.length cp2] 39)) ((h2.alloc (.cells #[.bool false, .slice a1 l1.length cp1] 39)).alloc (.cells #[.bool false, .slice a2 l2.length cp2] 39)) hl1)
  clear h1 h2
  go_enter Tryz.func108, Tryz.ntmps108
  go_wp2_with (go_at_call 168; ((with_reducible refine HC.out.mono ?_); rintro e w' ⟨r, rfl, hr, hd⟩; have HR := Lib.hid hr; have HD := Lib.hid hd; clear hr hd))
  go_ret
  exact ⟨r, rfl, HR.out, (((Below.refl _ _).alloc (Nat.le_refl _) _).alloc (by simp) _).trans (Dr.below HD.out _)⟩

theorem c70 (v1 v2 : Value) (l1 l2 : List Int) (w : World) (h1 : IntsAt w v1 l1) (h2 : IntsAt w v2 l2) (hl1 : l1.length ≤ 1000000) : Calls Tryz.prog 70 #[.agg #[.bool false, v1], .agg #[.bool false, v2]] w fun e w' => e = .returned (.bool (l1 == l2)) ∧ Below w.heap.size w w' := by
  obtain ⟨a1, cp1, rfl⟩ := row_form h1
  obtain ⟨a2, cp2, rfl⟩ := row_form h2
  have HC := Lib.hid (c108 _ _ l1 l2 _ ((h1.alloc (.cells #[.bool false, .slice a1 l1.length cp1] 39)).alloc (.cells #[.bool false, .slice a2 l2.length cp2] 39)) ((h2.alloc (.cells #[.bool false, .slice a1 l1.length cp1] 39)).alloc (.cells #[.bool false, .slice a2 l2.length cp2] 39)) hl1)
  clear h1 h2
  go_enter Tryz.func70, Tryz.ntmps70
  go_wp2_with (go_at_call 108; ((with_reducible refine HC.out.mono ?_); rintro e w' ⟨r, rfl, hr, hd⟩; have HR := Lib.hid hr; have HD := Lib.hid hd; clear hr hd))
  go_ret
  refine ⟨ret_bool ?_, (((Below.refl _ _).alloc (Nat.le_refl _) _).alloc (by simp) _).trans (HD.out.mono (by simp; omega))⟩
  have := HR.out
  by_cases h : r = 0
  · have h2 := this.1 h
    subst h h2; simp
  · have h2 : ¬ l1 = l2 := fun q => h (this.2 q)
    have e1 : (r == 0) = false := by simpa using h
    have e2 : (l1 == l2) = false := by simpa using h2
    rw [e1, e2]

theorem str_eq {a b : ByteArray} (h : a.toList = b.toList) : a = b := by
  rw [ByteArray.toList_eq, ByteArray.toList_eq] at h
  apply ByteArray.ext; exact Array.toList_inj.1 h
/-- two tokens are alike -/
def likeF (a b : Tk) : Bool := (a.k == b.k) && (decide (a.s = b.s)) && (a.d == b.d)
abbrev tokV (t : Tk) (dv : Value) : Value := .agg #[.int .i64 t.k, .string t.s, .bool false, dv, .int .i64 (t.at_ : Int), .int .i64 (t.en : Int), .int .i64 t.line, .int .i64 t.col]

set_option maxRecDepth 100000 in
set_option maxHeartbeats 1600000 in
theorem c26 (a b : Tk) (da db : Value) (w : World) (h1 : IntsAt w da a.d) (h2 : IntsAt w db b.d) (hl1 : a.d.length ≤ 1000000) : Calls Tryz.prog 26 #[tokV a da, tokV b db] w fun e w' => e = .returned (.bool (likeF a b)) ∧ Below w.heap.size w w' := by
  obtain ⟨a1, cp1, rfl⟩ := row_form h1
  obtain ⟨a2, cp2, rfl⟩ := row_form h2
  show Calls Tryz.prog 26 #[.agg #[_, _, _, _, _, _, _, _], .agg #[_, _, _, _, _, _, _, _]] w _
  obtain ⟨ak, sa, ad, aat, aen, al, ac⟩ := a
  obtain ⟨bk, sb, bd, bat, ben, bl, bc⟩ := b
  simp only [likeF] at *
  have HC := Lib.hid (fun X Y => c70 _ _ ad bd _ ((h1.alloc X).alloc Y) ((h2.alloc X).alloc Y) hl1)
  clear h1 h2
  by_cases hk : ak = bk
  · by_cases hs : sa = sb
    · subst hk hs
      go_enter Tryz.func26, Tryz.ntmps26
      go_wp2_with (go_at_call 70; ((with_reducible refine (HC.out _ _).mono ?_); rintro e w' ⟨rfl, hd⟩; have HD := Lib.hid hd; clear hd))
      go_ret
      exact ⟨ret_bool (by simp), (((Below.refl _ _).alloc (Nat.le_refl _) _).alloc (by simp) _).trans (HD.out.mono (by simp; omega))⟩
    · subst hk
      have hs2 : ¬ sa.toList = sb.toList := fun q => hs (str_eq q)
      go_enter Tryz.func26, Tryz.ntmps26
      go_wp2
      go_ret
      exact ⟨ret_bool (by simp [hs]), (((Below.refl _ _).alloc (Nat.le_refl _) _).alloc (by simp) _)⟩
  · have e1 : (ak == bk) = false := by simpa using hk
    go_enter Tryz.func26, Tryz.ntmps26
    go_wp2
    go_ret
    exact ⟨ret_bool (by rw [e1]; rfl), (((Below.refl _ _).alloc (Nat.le_refl _) _).alloc (by simp) _)⟩
end Go.Proofs.YtagcfgoofiibfaaGreatDoor
namespace Go.Proofs.YtagcfgoofiibfaaGreatDoor
open Go Go.RowKit

/-- tokens are alike, one by one -/
def likeL : List Tk → List Tk → Bool
  | [], [] => true
  | a :: as', b :: bs' => likeF a b && likeL as' bs'
  | _, _ => false
theorem likeL_iff : ∀ (a b : List Tk), likeL a b = true ↔ a.length = b.length ∧ ∀ (j : Nat) (x y : Tk), a[j]? = some x → b[j]? = some y → likeF x y = true
  | [], [] => by simp [likeL]
  | [], b :: bs => by simp [likeL]
  | a :: as', [] => by simp [likeL]
  | a :: as', b :: bs' => by
    simp only [likeL, Bool.and_eq_true, likeL_iff as' bs', List.length_cons]
    constructor
    · rintro ⟨h1, h2, h3⟩
      refine ⟨by omega, fun j x y hx hy => ?_⟩
      rcases j with _ | j
      · simp only [List.getElem?_cons_zero, Option.some.injEq] at hx hy
        subst hx hy; exact h1
      · exact h3 j x y (by simpa using hx) (by simpa using hy)
    · rintro ⟨h1, h2⟩
      exact ⟨h2 0 a b rfl rfl, by omega, fun j x y hx hy => h2 (j + 1) x y (by simpa using hx) (by simpa using hy)⟩
theorem likeL_no {a b : List Tk} (h : a.length ≠ b.length) : likeL a b = false := by
  rcases hl : likeL a b with _ | _
  · rfl
  · exact absurd ((likeL_iff a b).1 hl).1 h

/-- a row of tokens, laid open: the k-th token's cells -/
theorem TokRow.cells {w : World} {v : Value} {ts : List Tk} (h : TokRow w v ts) (hpos : 0 < ts.length) : ∃ b cap, v = .slice (some ⟨b, 0, none⟩) ts.length cap ∧ ts.length ≤ cap ∧ cap ≤ maxLen ∧ b < w.heap.size ∧
    ∀ (k : Nat) (t : Tk), ts[k]? = some t → ∃ dv, IntsAt w dv t.d ∧ w.cell? ⟨b, k * 8, none⟩ = some (.int .i64 t.k) ∧ w.cell? ⟨b, k * 8 + 1, none⟩ = some (.string t.s) ∧ w.cell? ⟨b, k * 8 + 2, none⟩ = some (.bool false) ∧ w.cell? ⟨b, k * 8 + 3, none⟩ = some dv ∧
      w.cell? ⟨b, k * 8 + 4, none⟩ = some (.int .i64 (t.at_ : Int)) ∧ w.cell? ⟨b, k * 8 + 5, none⟩ = some (.int .i64 (t.en : Int)) ∧ w.cell? ⟨b, k * 8 + 6, none⟩ = some (.int .i64 t.line) ∧ w.cell? ⟨b, k * 8 + 7, none⟩ = some (.int .i64 t.col) := by
  rcases h.form with ⟨_, h0⟩ | ⟨b, cap, hv, hc, hm, hb, _, hg⟩
  · rw [h0] at hpos; cases hpos
  · refine ⟨b, cap, hv, hc, hm, hb, fun k t hk => ?_⟩
    obtain ⟨dv, h1, h2⟩ := hg k t hk
    exact ⟨dv, h1, by have := h2 0 (by omega); rw [Nat.add_zero] at this; exact this, h2 1 (by omega), h2 2 (by omega), h2 3 (by omega), h2 4 (by omega), h2 5 (by omega), h2 6 (by omega), h2 7 (by omega)⟩
theorem TokRow.shape {w : World} {v : Value} {ts : List Tk} (h : TokRow w v ts) : ∃ a cap, v = .slice a ts.length cap ∧ cap ≤ maxLen ∧ ts.length ≤ cap := by
  rcases h.form with ⟨hv, h0⟩ | ⟨b, cap, hv, hc, hm, hb, _, hg⟩
  · subst hv h0; exact ⟨_, _, rfl, by unfold maxLen; omega, by simp⟩
  · exact ⟨_, _, hv, hm, hc⟩

/-- tokens in a part of a row -/
def TokSl (w : World) (v : Value) (ts : List Tk) : Prop := ∃ a cap, v = .slice a ts.length cap ∧ ts.length ≤ cap ∧ cap ≤ maxLen ∧ (0 < ts.length → ∃ b o, a = some ⟨b, o, none⟩ ∧ b < w.heap.size ∧
    ∀ (k : Nat) (t : Tk), ts[k]? = some t → ∃ dv, IntsAt w dv t.d ∧ w.cell? ⟨b, o + k * 8, none⟩ = some (.int .i64 t.k) ∧ w.cell? ⟨b, o + k * 8 + 1, none⟩ = some (.string t.s) ∧ w.cell? ⟨b, o + k * 8 + 2, none⟩ = some (.bool false) ∧ w.cell? ⟨b, o + k * 8 + 3, none⟩ = some dv ∧
      w.cell? ⟨b, o + k * 8 + 4, none⟩ = some (.int .i64 (t.at_ : Int)) ∧ w.cell? ⟨b, o + k * 8 + 5, none⟩ = some (.int .i64 (t.en : Int)) ∧ w.cell? ⟨b, o + k * 8 + 6, none⟩ = some (.int .i64 t.line) ∧ w.cell? ⟨b, o + k * 8 + 7, none⟩ = some (.int .i64 t.col))
theorem TokRow.sl {w : World} {v : Value} {ts : List Tk} (h : TokRow w v ts) : TokSl w v ts := by
  obtain ⟨a, cap, hv, h1, h2⟩ := h.shape
  refine ⟨a, cap, hv, h2, h1, fun hp => ?_⟩
  obtain ⟨b, cap', hv', _, _, hb, hc⟩ := h.cells hp
  rw [hv] at hv'
  injection hv' with e1 e2 e3
  refine ⟨b, 0, e1, hb, fun k t ht => ?_⟩
  simp only [Nat.zero_add]
  exact hc k t ht
theorem TokSl.below {w w' : World} {v : Value} {ts : List Tk} (h : TokSl w v ts) (hb : Below w.heap.size w w') : TokSl w' v ts := by
  obtain ⟨a, cap, h1, h2, h3, h4⟩ := h
  refine ⟨a, cap, h1, h2, h3, fun hp => ?_⟩
  obtain ⟨b, o, e, hlt, hc⟩ := h4 hp
  refine ⟨b, o, e, Nat.lt_of_lt_of_le hlt hb.size, fun k t ht => ?_⟩
  obtain ⟨dv, i, x0, x1, x2, x3, x4, x5, x6, x7⟩ := hc k t ht
  have hbc : ∀ (o : Nat) (u : Value), w.cell? ⟨b, o, none⟩ = some u → w'.cell? ⟨b, o, none⟩ = some u := fun o u h => (hb.cell (p := ⟨b, o, none⟩) hlt).trans h
  exact ⟨dv, i.below hb, hbc _ _ x0, hbc _ _ x1, hbc _ _ x2, hbc _ _ x3, hbc _ _ x4, hbc _ _ x5, hbc _ _ x6, hbc _ _ x7⟩
/-- a part of it -/
theorem TokSl.sub {w : World} {a : Option Addr} {n cap : Nat} {ts : List Tk} (h : TokSl w (.slice a n cap) ts) (i j : Nat) (hij : i < j) (hj : j ≤ n) : ∃ b o, a = some ⟨b, o, none⟩ ∧ TokSl w (.slice (some ⟨b, o + i * 8, none⟩) (j - i) (cap - i)) ((ts.drop i).take (j - i)) := by
  obtain ⟨a', cap', h1, h2, h3, h4⟩ := h
  injection h1 with e1 e2 e3
  subst e1 e2 e3
  obtain ⟨b, o, e, hlt, hc⟩ := h4 (by omega)
  have hlen : ((ts.drop i).take (j - i)).length = j - i := by simp; omega
  refine ⟨b, o, e, some ⟨b, o + i * 8, none⟩, cap - i, by rw [hlen], by rw [hlen]; omega, by omega, fun _ => ⟨b, o + i * 8, rfl, hlt, fun k t ht => ?_⟩⟩
  have hk : k < j - i := by
    rcases Nat.lt_or_ge k (j - i) with q | q
    · exact q
    · rw [List.getElem?_eq_none (by rw [hlen]; exact q)] at ht; cases ht
  rw [List.getElem?_take_of_lt hk, List.getElem?_drop] at ht
  have := hc (i + k) t ht
  rw [show o + (i + k) * 8 = o + i * 8 + k * 8 by omega] at this
  exact this

/-- the state of LikeAll's loop -/
def LkL (a b : List Tk) (w : World) (s5 : Value) (wr : World) : Prop := ∃ k : Nat, k ≤ a.length ∧ s5 = .int .i64 (k : Int) ∧ (∀ (j : Nat) (x y : Tk), j < k → a[j]? = some x → b[j]? = some y → likeF x y = true) ∧ Below w.heap.size w wr
def DLim (ts : List Tk) : Prop := ∀ t ∈ ts, t.d.length ≤ 1000000

set_option maxRecDepth 100000 in
set_option maxHeartbeats 3200000 in
theorem c25 (va vb : Value) (a b : List Tk) (w : World) (ha : TokSl w va a) (hb : TokSl w vb b) (hd : DLim a) : Calls Tryz.prog 25 #[va, vb] w fun e w' => e = .returned (.bool (likeL a b)) ∧ Below w.heap.size w w' := by
  by_cases hl : a.length = b.length
  · have hll := (likeL_iff a b).1
    by_cases hz : a.length = 0
    · have e1 := List.eq_nil_of_length_eq_zero hz
      have e2 : b = [] := List.eq_nil_of_length_eq_zero (by omega)
      subst e1 e2
      obtain ⟨a1, cp1, rfl, _⟩ := ha
      obtain ⟨a2, cp2, rfl, _⟩ := hb
      clear hd hl hll hz
      go_enter Tryz.func25, Tryz.ntmps25
      go_wp2
      go_loopw [5] (fun s5 wr => s5 = .int .i64 0 ∧ wr = w) (fun _ _ => 0)
      case atStart => exact ⟨rfl, rfl⟩
      case round =>
        obtain ⟨rfl, rfl⟩ := hrel
        go_wp2
        go_ret
        exact ⟨rfl, Below.refl _ _⟩
    · have hpa : 0 < a.length := by omega
      have hpb : 0 < b.length := by omega
      obtain ⟨_, cp1, rfl, hc1, hm1, hA⟩ := ha
      obtain ⟨_, cp2, rfl, hc2, hm2, hB⟩ := hb
      obtain ⟨g1, o1, rfl, hg1, hA⟩ := hA hpa
      obtain ⟨g2, o2, rfl, hg2, hB⟩ := hB hpb
      have hmx : (maxLen : Nat) = 9223372036854775807 := rfl
      have hn : a.length ≤ 9223372036854775807 := by omega
      have hn2 : ((a.length : Int) != (b.length : Int)) = false := by simp [hl]
      have HL := Lib.hid hl
      have HA := Lib.hid hA
      have HB := Lib.hid hB
      have HD := Lib.hid hd
      rw [← hl]
      have hn3 : ((a.length : Int) != (a.length : Int)) = false := by simp
      clear hpa hpb hd hl hz hA hB hll hn2 hc1 hc2 hm1 hm2 hmx
      go_enter Tryz.func25, Tryz.ntmps25
      go_wp2
      go_loopw [5] (LkL a b w) (fun s5 _ => a.length - (intOf s5).toNat)
      case atStart => exact ⟨0, Nat.zero_le _, rfl, fun j x y h => by omega, Below.refl _ _⟩
      case round =>
        obtain ⟨k, hk, rfl, heq, hbl⟩ := hrel
        have HEQ := Lib.hid heq
        have HBL := Lib.hid hbl
        clear heq hbl
        by_cases hlt : k < a.length
        · obtain ⟨x, hx⟩ : ∃ x, a[k]? = some x := ⟨_, List.getElem?_eq_getElem hlt⟩
          obtain ⟨y, hy⟩ : ∃ y, b[k]? = some y := ⟨_, List.getElem?_eq_getElem (by have := HL.out; omega)⟩
          obtain ⟨dx, ix, x0, x1, x2, x3, x4, x5, x6, x7⟩ := HA.out k x hx
          obtain ⟨dy, iy, y0, y1, y2, y3, y4, y5, y6, y7⟩ := HB.out k y hy
          have CC := Lib.hid (fun X (hX : Below w.heap.size w X) => c26 x y dx dy X (ix.below hX) (iy.below hX) (HD.out x (List.mem_of_getElem? hx)))
          have HX := Lib.hid hx
          have HY := Lib.hid hy
          have b0 : (0 : Int) ≤ (k : Int) := by omega
          have b1 : (k : Int) < (a.length : Int) := by omega
          have hb2 : k < a.length := hlt
          have KS : Hid (∀ X, Below w.heap.size w X → X.cell? ⟨g1, o1 + k * 8, none⟩ = some (.int .i64 x.k) ∧ X.cell? ⟨g1, o1 + k * 8 + 1, none⟩ = some (.string x.s) ∧ X.cell? ⟨g1, o1 + k * 8 + 2, none⟩ = some (.bool false) ∧ X.cell? ⟨g1, o1 + k * 8 + 3, none⟩ = some dx ∧ X.cell? ⟨g1, o1 + k * 8 + 4, none⟩ = some (.int .i64 (x.at_ : Int)) ∧ X.cell? ⟨g1, o1 + k * 8 + 5, none⟩ = some (.int .i64 (x.en : Int)) ∧ X.cell? ⟨g1, o1 + k * 8 + 6, none⟩ = some (.int .i64 x.line) ∧ X.cell? ⟨g1, o1 + k * 8 + 7, none⟩ = some (.int .i64 x.col) ∧ X.cell? ⟨g2, o2 + k * 8, none⟩ = some (.int .i64 y.k) ∧ X.cell? ⟨g2, o2 + k * 8 + 1, none⟩ = some (.string y.s) ∧ X.cell? ⟨g2, o2 + k * 8 + 2, none⟩ = some (.bool false) ∧ X.cell? ⟨g2, o2 + k * 8 + 3, none⟩ = some dy ∧ X.cell? ⟨g2, o2 + k * 8 + 4, none⟩ = some (.int .i64 (y.at_ : Int)) ∧ X.cell? ⟨g2, o2 + k * 8 + 5, none⟩ = some (.int .i64 (y.en : Int)) ∧ X.cell? ⟨g2, o2 + k * 8 + 6, none⟩ = some (.int .i64 y.line) ∧ X.cell? ⟨g2, o2 + k * 8 + 7, none⟩ = some (.int .i64 y.col)) := Lib.hid (fun X hX => by
            have hbc : ∀ (g o : Nat) (u : Value), g < w.heap.size → w.cell? ⟨g, o, none⟩ = some u → X.cell? ⟨g, o, none⟩ = some u := fun g o u hg h => (hX.cell (p := ⟨g, o, none⟩) hg).trans h
            exact ⟨hbc _ _ _ hg1 x0, hbc _ _ _ hg1 x1, hbc _ _ _ hg1 x2, hbc _ _ _ hg1 x3, hbc _ _ _ hg1 x4, hbc _ _ _ hg1 x5, hbc _ _ _ hg1 x6, hbc _ _ _ hg1 x7, hbc _ _ _ hg2 y0, hbc _ _ _ hg2 y1, hbc _ _ _ hg2 y2, hbc _ _ _ hg2 y3, hbc _ _ _ hg2 y4, hbc _ _ _ hg2 y5, hbc _ _ _ hg2 y6, hbc _ _ _ hg2 y7⟩)
          clear ix iy hx hy x0 x1 x2 x3 x4 x5 x6 x7 y0 y1 y2 y3 y4 y5 y6 y7
          obtain ⟨q, hq⟩ : ∃ q, likeF x y = q := ⟨_, rfl⟩
          rw [hq] at CC
          have HQ := Lib.hid hq
          clear hq
          rcases q with _ | _
          · have hno : likeL a b = false := by
              rcases hl : likeL a b with _ | _
              · rfl
              · have := ((likeL_iff a b).1 hl).2 k x y HX.out HY.out
                rw [HQ.out] at this; cases this
            have HNO := Lib.hid hno
            clear hno
            go_wp2
            go_region_held3 (fun w' : World => w'.cell? ⟨g1, o1 + k * 8, none⟩ = some (.int .i64 x.k) ∧ w'.cell? ⟨g1, o1 + k * 8 + 1, none⟩ = some (.string x.s) ∧ w'.cell? ⟨g1, o1 + k * 8 + 2, none⟩ = some (.bool false) ∧ w'.cell? ⟨g1, o1 + k * 8 + 3, none⟩ = some dx ∧ w'.cell? ⟨g1, o1 + k * 8 + 4, none⟩ = some (.int .i64 (x.at_ : Int)) ∧ w'.cell? ⟨g1, o1 + k * 8 + 5, none⟩ = some (.int .i64 (x.en : Int)) ∧ w'.cell? ⟨g1, o1 + k * 8 + 6, none⟩ = some (.int .i64 x.line) ∧ w'.cell? ⟨g1, o1 + k * 8 + 7, none⟩ = some (.int .i64 x.col) ∧ w'.cell? ⟨g2, o2 + k * 8, none⟩ = some (.int .i64 y.k) ∧ w'.cell? ⟨g2, o2 + k * 8 + 1, none⟩ = some (.string y.s) ∧ w'.cell? ⟨g2, o2 + k * 8 + 2, none⟩ = some (.bool false) ∧ w'.cell? ⟨g2, o2 + k * 8 + 3, none⟩ = some dy ∧ w'.cell? ⟨g2, o2 + k * 8 + 4, none⟩ = some (.int .i64 (y.at_ : Int)) ∧ w'.cell? ⟨g2, o2 + k * 8 + 5, none⟩ = some (.int .i64 (y.en : Int)) ∧ w'.cell? ⟨g2, o2 + k * 8 + 6, none⟩ = some (.int .i64 y.line) ∧ w'.cell? ⟨g2, o2 + k * 8 + 7, none⟩ = some (.int .i64 y.col)) (first | exact KS.out _ HBL.out | exact KS.out _ HBL.out.drew | exact KS.out _ HBN.out | exact KS.out _ HBN.out.drew)
              ((go_at_call 26; ((with_reducible refine (CC.out _ (by first | exact HBL.out | exact HBL.out.drew)).mono ?_); rintro e w' ⟨rfl, hbb⟩; have HBN : Hid (Below w.heap.size w w') := Lib.hid (by first | exact HBL.out.trans (hbb.mono HBL.out.size) | exact HBL.out.drew.trans (hbb.mono HBL.out.size)); clear hbb)))
            go_wp2
            go_ret
            exact ⟨ret_bool HNO.out.symm, HBN.out⟩
          · skip
            go_wp2
            go_region_held3 (fun w' : World => w'.cell? ⟨g1, o1 + k * 8, none⟩ = some (.int .i64 x.k) ∧ w'.cell? ⟨g1, o1 + k * 8 + 1, none⟩ = some (.string x.s) ∧ w'.cell? ⟨g1, o1 + k * 8 + 2, none⟩ = some (.bool false) ∧ w'.cell? ⟨g1, o1 + k * 8 + 3, none⟩ = some dx ∧ w'.cell? ⟨g1, o1 + k * 8 + 4, none⟩ = some (.int .i64 (x.at_ : Int)) ∧ w'.cell? ⟨g1, o1 + k * 8 + 5, none⟩ = some (.int .i64 (x.en : Int)) ∧ w'.cell? ⟨g1, o1 + k * 8 + 6, none⟩ = some (.int .i64 x.line) ∧ w'.cell? ⟨g1, o1 + k * 8 + 7, none⟩ = some (.int .i64 x.col) ∧ w'.cell? ⟨g2, o2 + k * 8, none⟩ = some (.int .i64 y.k) ∧ w'.cell? ⟨g2, o2 + k * 8 + 1, none⟩ = some (.string y.s) ∧ w'.cell? ⟨g2, o2 + k * 8 + 2, none⟩ = some (.bool false) ∧ w'.cell? ⟨g2, o2 + k * 8 + 3, none⟩ = some dy ∧ w'.cell? ⟨g2, o2 + k * 8 + 4, none⟩ = some (.int .i64 (y.at_ : Int)) ∧ w'.cell? ⟨g2, o2 + k * 8 + 5, none⟩ = some (.int .i64 (y.en : Int)) ∧ w'.cell? ⟨g2, o2 + k * 8 + 6, none⟩ = some (.int .i64 y.line) ∧ w'.cell? ⟨g2, o2 + k * 8 + 7, none⟩ = some (.int .i64 y.col)) (first | exact KS.out _ HBL.out | exact KS.out _ HBL.out.drew | exact KS.out _ HBN.out | exact KS.out _ HBN.out.drew)
              ((go_at_call 26; ((with_reducible refine (CC.out _ (by first | exact HBL.out | exact HBL.out.drew)).mono ?_); rintro e w' ⟨rfl, hbb⟩; have HBN : Hid (Below w.heap.size w w') := Lib.hid (by first | exact HBL.out.trans (hbb.mono HBL.out.size) | exact HBL.out.drew.trans (hbb.mono HBL.out.size)); clear hbb)))
            go_wp2
            go_roundw
            case rel => exact ⟨k + 1, by omega, by go_num, fun j x' y' hj hx' hy' => by
              rcases Nat.lt_or_ge j k with h | h
              · exact HEQ.out j x' y' h hx' hy'
              · obtain rfl : j = k := by omega
                rw [HX.out] at hx'; rw [HY.out] at hy'
                injection hx' with hx'; injection hy' with hy'
                subst hx' hy'; exact HQ.out, HBN.out⟩
            case measure => simp [intOf]; omega
        · have hd : decide (k < a.length) = false := by simpa using hlt
          go_wp2
          go_ret
          refine ⟨ret_bool ((likeL_iff a b).2 ⟨HL.out, fun j x y hx hy => HEQ.out j x y ?_ hx hy⟩).symm, HBL.out⟩
          have : j < a.length := by
            rcases Nat.lt_or_ge j a.length with h | h
            · exact h
            · rw [List.getElem?_eq_none h] at hx; cases hx
          omega
  · have e1 : ((a.length : Int) != (b.length : Int)) = true := by simp; omega
    rw [likeL_no hl]
    obtain ⟨a1, cp1, rfl, _⟩ := ha
    obtain ⟨a2, cp2, rfl, _⟩ := hb
    clear hd hl
    go_enter Tryz.func25, Tryz.ntmps25
    go_wp2
    go_ret
    exact ⟨rfl, Below.refl _ _⟩
end Go.Proofs.YtagcfgoofiibfaaGreatDoor
