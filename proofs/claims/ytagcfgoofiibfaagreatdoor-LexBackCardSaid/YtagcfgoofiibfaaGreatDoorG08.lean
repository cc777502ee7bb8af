/- The lexer and what it reaches: part 8 of 41: C8. -/
import Derived.Test.YtagcfgoofiibfaaGreatDoorG07
import Derived.Test.YtagcfgoofiibfaaGreatDoorG06
set_option linter.unusedVariables false
set_option linter.unusedSimpArgs false
namespace Go.Proofs.YtagcfgoofiibfaaGreatDoor
open Go.RowKit

def C157 : Prop := ∀ (g : Nat) (s : ByteArray) (i : Nat) (tb : Value) (ps : List Tk) (ys : List (Nat × Nat)) (w : World),
    SC g s i tb ps ys w → i < s.size → ps.length ≤ i → s.size ≤ 1073741824 →
    Calls Tryz.prog 157 #[.pointer (some ⟨g, 0, none⟩)] w (ScTok g s i tb (quo s i (s.size + 1 - i) 1 []) ps ys w)

theorem c154v (b : Int) (h0 : 0 ≤ b) (h1 : b ≤ 255) (w : World) (v : Bool) (h : rnb b = v) : Calls Tryz.prog 154 #[.int .u8 b] w fun e w' => e = .returned (.bool v) ∧ w = w' := h ▸ c154 b h0 h1 w

theorem c149v (g : Nat) (s pre : ByteArray) (i : Nat) (w : World) (v : Bool) (hv : sees s i pre = v) (hs : w.cell? ⟨g, 0, none⟩ = some (.string s)) (ha : w.cell? ⟨g, 1, none⟩ = some (.int .i64 (i : Int)))
    (hle : i ≤ s.size) (hsz : s.size ≤ 140737488355328) :
    Calls Tryz.prog 149 #[.pointer (some ⟨g, 0, none⟩), .string pre] w fun e w' => e = .returned (.bool v) ∧ Dr w w' := hv ▸ c149 g s pre i w hs ha hle hsz

theorem ScTok.from {g : Nat} {s : ByteArray} {i : Nat} {tb : Value} {r : Except Int Tk} {ps : List Tk} {ys : List (Nat × Nat)} {w W : World} {e : Ending} {w' : World} (h : ScTok g s i tb r ps ys W e w') (hm : Modd g w W) : ScTok g s i tb r ps ys w e w' := by
  unfold ScTok at h ⊢
  split at h
  · exact ⟨h.1, h.2.1, hm.trans h.2.2⟩
  · exact ⟨h.1, hm.trans h.2⟩

set_option maxRecDepth 100000 in
set_option maxHeartbeats 3200000 in
theorem c103 (h195 : C195) (h157 : C157) (g : Nat) (s : ByteArray) (i p : Nat) (ps : List Tk) (ys : List (Nat × Nat)) (w : World)
    (H : SC g s i (.pointer (some ⟨p, 0, none⟩)) ps ys w) (HT : TabAt g p w) (hi : i < s.size) (hp : ps.length ≤ i) (hsz : s.size ≤ 1073741824) :
    Calls Tryz.prog 103 #[.pointer (some ⟨g, 0, none⟩)] w (ScTok g s i (.pointer (some ⟨p, 0, none⟩)) (tokF s i) ps ys w) := by
  have h195 := Lib.hid h195
  unfold C157 at h157
  have h157 := Lib.hid h157
  have hs := H.hs
  have ha := H.ha
  have HH := Lib.hid H
  have HTT := Lib.hid HT
  have hsD : ∀ n, (w.drewN n).cell? ⟨g, 0, none⟩ = some (.string s) := fun _ => hs
  have haD : ∀ n, (w.drewN n).cell? ⟨g, 1, none⟩ = some (.int .i64 (i : Int)) := fun _ => ha
  clear H HT
  rcases h1 : rnb (bt s i) with _ | _
  rotate_left
  · replace h1 := Lib.hid h1
    rcases hr : runF s i with er | t
    · replace hr := Lib.hid hr
      go_enter Tryz.func103, Tryz.ntmps103
      go_wp2_with (first | (go_at_call 153; (with_reducible refine (c153L g s i 0 i 0 _ (by omega) (by omega) (by first | exact hs | exact hsD _) (by first | exact ha | exact haD _) (by omega) (by omega) (by omega)).mono ?_); rintro e w' ⟨rfl, n1, rfl⟩) | (go_at_call 154; (with_reducible refine (c154v _ (bt_lo _ _) (bt_hi _ _) _ _ (by exact h1.out)).mono ?_); rintro e w' ⟨rfl, rfl⟩) | (go_at_call 155; (with_reducible refine (c155 h195.out g s i p ps ys _ (SC.heap HH.out (by with_unfolding_all rfl)) (TabAt.dr HTT.out _) hi hp hsz).mono ?_); rintro e w' hI; rw [hr.out] at hI; obtain ⟨rfl, hM⟩ := hI))
      refine ⟨rfl, ?_⟩
      unfold tokF
      rw [if_pos h1.out, hr.out]
      exact ⟨rfl, ((Modd.refl _ _).dr _).trans hM⟩
    · replace hr := Lib.hid hr
      go_enter Tryz.func103, Tryz.ntmps103
      go_wp2_with (first | (go_at_call 153; (with_reducible refine (c153L g s i 0 i 0 _ (by omega) (by omega) (by first | exact hs | exact hsD _) (by first | exact ha | exact haD _) (by omega) (by omega) (by omega)).mono ?_); rintro e w' ⟨rfl, n1, rfl⟩) | (go_at_call 154; (with_reducible refine (c154v _ (bt_lo _ _) (bt_hi _ _) _ _ (by exact h1.out)).mono ?_); rintro e w' ⟨rfl, rfl⟩) | (go_at_call 155; (with_reducible refine (c155 h195.out g s i p ps ys _ (SC.heap HH.out (by with_unfolding_all rfl)) (TabAt.dr HTT.out _) hi hp hsz).mono ?_); rintro e w' hI; rw [hr.out] at hI; obtain ⟨rfl, hS, hM⟩ := hI))
      go_end0
      unfold tokF
      rw [if_pos h1.out, hr.out]
      exact ⟨rfl, hS, ((Modd.refl _ _).dr _).trans hM⟩
  have hn1 : Hid (¬ rnb (bt s i) = true) := by intro h; rw [h1] at h; cases h
  replace h1 := Lib.hid h1
  by_cases h2 : baseF s i = 0
  rotate_left
  · replace h2 := Lib.hid h2
    rcases hr : basedF s i with er | t
    · replace hr := Lib.hid hr
      go_enter Tryz.func103, Tryz.ntmps103
      go_wp2_with (first | (go_at_call 153; (with_reducible refine (c153L g s i 0 i 0 _ (by omega) (by omega) (by first | exact hs | exact hsD _) (by first | exact ha | exact haD _) (by omega) (by omega) (by omega)).mono ?_); rintro e w' ⟨rfl, n1, rfl⟩) | (go_at_call 154; (with_reducible refine (c154v _ (bt_lo _ _) (bt_hi _ _) _ _ (by exact h1.out)).mono ?_); rintro e w' ⟨rfl, rfl⟩) | (go_at_call 156; (with_reducible refine (c156 h195.out g s i _ ps ys _ (SC.heap HH.out (by with_unfolding_all rfl)) hi hp hsz).mono ?_); rintro e w' hI; unfold ScBased at hI; rw [if_neg h2.out, hr.out] at hI; obtain ⟨rfl, hM⟩ := hI))
      refine ⟨rfl, ?_⟩
      unfold tokF
      rw [if_neg hn1.out, if_pos h2.out, hr.out]
      exact ⟨rfl, ((Modd.refl _ _).dr _).trans hM⟩
    · replace hr := Lib.hid hr
      go_enter Tryz.func103, Tryz.ntmps103
      go_wp2_with (first | (go_at_call 153; (with_reducible refine (c153L g s i 0 i 0 _ (by omega) (by omega) (by first | exact hs | exact hsD _) (by first | exact ha | exact haD _) (by omega) (by omega) (by omega)).mono ?_); rintro e w' ⟨rfl, n1, rfl⟩) | (go_at_call 154; (with_reducible refine (c154v _ (bt_lo _ _) (bt_hi _ _) _ _ (by exact h1.out)).mono ?_); rintro e w' ⟨rfl, rfl⟩) | (go_at_call 156; (with_reducible refine (c156 h195.out g s i _ ps ys _ (SC.heap HH.out (by with_unfolding_all rfl)) hi hp hsz).mono ?_); rintro e w' hI; unfold ScBased at hI; rw [if_neg h2.out, hr.out] at hI; obtain ⟨rfl, hS, hM⟩ := hI))
      go_end0
      unfold tokF
      rw [if_neg hn1.out, if_pos h2.out, hr.out]
      exact ⟨rfl, hS, ((Modd.refl _ _).dr _).trans hM⟩
  have hn2 : Hid (¬ baseF s i ≠ 0) := fun h => h h2
  replace h2 := Lib.hid h2
  rcases h3 : (bt s i == 34) with _ | _
  rotate_left
  · have hn3 : Hid (bt s i = 34) := by show _ = _; simpa using h3
    rcases hr : quo s i (s.size + 1 - i) 1 [] with er | t
    · replace hr := Lib.hid hr
      go_enter Tryz.func103, Tryz.ntmps103
      go_wp2_with (first | (go_at_call 153; (with_reducible refine (c153L g s i 0 i 0 _ (by omega) (by omega) (by first | exact hs | exact hsD _) (by first | exact ha | exact haD _) (by omega) (by omega) (by omega)).mono ?_); rintro e w' ⟨rfl, n1, rfl⟩) | (go_at_call 154; (with_reducible refine (c154v _ (bt_lo _ _) (bt_hi _ _) _ _ (by exact h1.out)).mono ?_); rintro e w' ⟨rfl, rfl⟩) | (go_at_call 156; (with_reducible refine (c156 h195.out g s i _ ps ys _ (SC.heap HH.out (by with_unfolding_all rfl)) hi hp hsz).mono ?_); rintro e w' hI; unfold ScBased at hI; rw [if_pos h2.out] at hI; obtain ⟨rfl, n5, rfl⟩ := hI) | (go_at_call 157; (with_reducible refine (h157.out g s i _ ps ys _ (SC.heap HH.out (by with_unfolding_all rfl)) hi hp hsz).mono ?_); rintro e w' hI; rw [hr.out] at hI; obtain ⟨rfl, hM⟩ := hI))
      refine ⟨rfl, ?_⟩
      unfold tokF
      rw [if_neg hn1.out, if_neg hn2.out, if_pos hn3.out, hr.out]
      exact ⟨rfl, ((Modd.refl _ _).dr _).trans hM⟩
    · replace hr := Lib.hid hr
      go_enter Tryz.func103, Tryz.ntmps103
      go_wp2_with (first | (go_at_call 153; (with_reducible refine (c153L g s i 0 i 0 _ (by omega) (by omega) (by first | exact hs | exact hsD _) (by first | exact ha | exact haD _) (by omega) (by omega) (by omega)).mono ?_); rintro e w' ⟨rfl, n1, rfl⟩) | (go_at_call 154; (with_reducible refine (c154v _ (bt_lo _ _) (bt_hi _ _) _ _ (by exact h1.out)).mono ?_); rintro e w' ⟨rfl, rfl⟩) | (go_at_call 156; (with_reducible refine (c156 h195.out g s i _ ps ys _ (SC.heap HH.out (by with_unfolding_all rfl)) hi hp hsz).mono ?_); rintro e w' hI; unfold ScBased at hI; rw [if_pos h2.out] at hI; obtain ⟨rfl, n5, rfl⟩ := hI) | (go_at_call 157; (with_reducible refine (h157.out g s i _ ps ys _ (SC.heap HH.out (by with_unfolding_all rfl)) hi hp hsz).mono ?_); rintro e w' hI; rw [hr.out] at hI; obtain ⟨rfl, hS, hM⟩ := hI))
      go_end0
      unfold tokF
      rw [if_neg hn1.out, if_neg hn2.out, if_pos hn3.out, hr.out]
      exact ⟨rfl, hS, ((Modd.refl _ _).dr _).trans hM⟩
  have hn3 : Hid (¬ bt s i = 34) := by intro h; rw [h] at h3; exact absurd h3 (by decide)
  rcases h4 : sees s i ⟨#[45, 45, 45, 45]⟩ with _ | _
  rotate_left
  · replace h4 := Lib.hid h4
    have hle := cnt_le (fun b => b == 45) s i
    go_enter Tryz.func103, Tryz.ntmps103
    go_wp2_with (first | (go_at_call 153; (with_reducible refine (c153L g s i 0 i 0 _ (by omega) (by omega) (by first | exact hs | exact hsD _) (by first | exact ha | exact haD _) (by omega) (by omega) (by omega)).mono ?_); rintro e w' ⟨rfl, n1, rfl⟩) | (go_at_call 154; (with_reducible refine (c154v _ (bt_lo _ _) (bt_hi _ _) _ _ (by exact h1.out)).mono ?_); rintro e w' ⟨rfl, rfl⟩) | (go_at_call 156; (with_reducible refine (c156 h195.out g s i _ ps ys _ (SC.heap HH.out (by with_unfolding_all rfl)) hi hp hsz).mono ?_); rintro e w' hI; unfold ScBased at hI; rw [if_pos h2.out] at hI; obtain ⟨rfl, n5, rfl⟩ := hI) | (go_at_call 149; (with_reducible refine (c149v g s _ i _ _ (by exact h4.out) (by first | exact hs | exact hsD _) (by first | exact ha | exact haD _) (by omega) (by omega)).mono ?_); rintro e w' ⟨rfl, n3, rfl⟩) | (go_at_call 150; (with_reducible refine (c150L 159 _ p159 g s i 0 i 0 _ (by omega) (by omega) (by first | exact hs | exact hsD _) (by first | exact ha | exact haD _) (by omega) (by omega) (by omega)).mono ?_); rintro e w' ⟨rfl, n2, rfl⟩) | (go_at_call 158; (with_reducible refine (c158s g s i _ ps ys _ _ _ [] (cnt (fun b => b == 45) s i) _ (SC.heap HH.out (by with_unfolding_all rfl)) (IntsAt.nil _) (by omega) (by omega) (by omega)).mono ?_); rintro e w' ⟨rfl, hS, hM⟩))
    go_end0
    unfold tokF
    rw [if_neg hn1.out, if_neg hn2.out, if_neg hn3.out, if_pos h4.out]
    exact ⟨rfl, hS, ((Modd.refl _ _).dr _).trans hM⟩
  have hn4 : Hid (¬ sees s i ⟨#[45, 45, 45, 45]⟩ = true) := by intro h; rw [h4] at h; cases h
  replace h4 := Lib.hid h4
  rcases h5 : sees s i ⟨#[61, 61, 61, 61]⟩ with _ | _
  rotate_left
  · replace h5 := Lib.hid h5
    have hle := cnt_le (fun b => b == 61) s i
    go_enter Tryz.func103, Tryz.ntmps103
    go_wp2_with (first | (go_at_call 153; (with_reducible refine (c153L g s i 0 i 0 _ (by omega) (by omega) (by first | exact hs | exact hsD _) (by first | exact ha | exact haD _) (by omega) (by omega) (by omega)).mono ?_); rintro e w' ⟨rfl, n1, rfl⟩) | (go_at_call 154; (with_reducible refine (c154v _ (bt_lo _ _) (bt_hi _ _) _ _ (by exact h1.out)).mono ?_); rintro e w' ⟨rfl, rfl⟩) | (go_at_call 156; (with_reducible refine (c156 h195.out g s i _ ps ys _ (SC.heap HH.out (by with_unfolding_all rfl)) hi hp hsz).mono ?_); rintro e w' hI; unfold ScBased at hI; rw [if_pos h2.out] at hI; obtain ⟨rfl, n5, rfl⟩ := hI) | (go_at_call 149; (with_reducible refine (c149v g s _ i _ _ (by exact h4.out) (by first | exact hs | exact hsD _) (by first | exact ha | exact haD _) (by omega) (by omega)).mono ?_); rintro e w' ⟨rfl, n3, rfl⟩) | (go_at_call 149; (with_reducible refine (c149v g s _ i _ _ (by exact h5.out) (by first | exact hs | exact hsD _) (by first | exact ha | exact haD _) (by omega) (by omega)).mono ?_); rintro e w' ⟨rfl, n3, rfl⟩) | (go_at_call 150; (with_reducible refine (c150L 160 _ p160 g s i 0 i 0 _ (by omega) (by omega) (by first | exact hs | exact hsD _) (by first | exact ha | exact haD _) (by omega) (by omega) (by omega)).mono ?_); rintro e w' ⟨rfl, n2, rfl⟩) | (go_at_call 158; (with_reducible refine (c158s g s i _ ps ys _ _ _ [] (cnt (fun b => b == 61) s i) _ (SC.heap HH.out (by with_unfolding_all rfl)) (IntsAt.nil _) (by omega) (by omega) (by omega)).mono ?_); rintro e w' ⟨rfl, hS, hM⟩))
    go_end0
    unfold tokF
    rw [if_neg hn1.out, if_neg hn2.out, if_neg hn3.out, if_neg hn4.out, if_pos h5.out]
    exact ⟨rfl, hS, ((Modd.refl _ _).dr _).trans hM⟩
  have hn5 : Hid (¬ sees s i ⟨#[61, 61, 61, 61]⟩ = true) := by intro h; rw [h5] at h; cases h
  replace h5 := Lib.hid h5
  rcases hr : signF s i with er | t
  · replace hr := Lib.hid hr
    go_enter Tryz.func103, Tryz.ntmps103
    go_wp2_with (first | (go_at_call 153; (with_reducible refine (c153L g s i 0 i 0 _ (by omega) (by omega) (by first | exact hs | exact hsD _) (by first | exact ha | exact haD _) (by omega) (by omega) (by omega)).mono ?_); rintro e w' ⟨rfl, n1, rfl⟩) | (go_at_call 154; (with_reducible refine (c154v _ (bt_lo _ _) (bt_hi _ _) _ _ (by exact h1.out)).mono ?_); rintro e w' ⟨rfl, rfl⟩) | (go_at_call 156; (with_reducible refine (c156 h195.out g s i _ ps ys _ (SC.heap HH.out (by with_unfolding_all rfl)) hi hp hsz).mono ?_); rintro e w' hI; unfold ScBased at hI; rw [if_pos h2.out] at hI; obtain ⟨rfl, n5, rfl⟩ := hI) | (go_at_call 149; (with_reducible refine (c149v g s _ i _ _ (by exact h4.out) (by first | exact hs | exact hsD _) (by first | exact ha | exact haD _) (by omega) (by omega)).mono ?_); rintro e w' ⟨rfl, n3, rfl⟩) | (go_at_call 149; (with_reducible refine (c149v g s _ i _ _ (by exact h5.out) (by first | exact hs | exact hsD _) (by first | exact ha | exact haD _) (by omega) (by omega)).mono ?_); rintro e w' ⟨rfl, n3, rfl⟩) | (go_at_call 161; (with_reducible refine (c161 g s i p ps ys _ (SC.heap HH.out (by with_unfolding_all rfl)) (TabAt.dr HTT.out _) hi hp hsz).mono ?_); rintro e w' hI; rw [hr.out] at hI; obtain ⟨rfl, hM⟩ := hI))
    refine ⟨rfl, ?_⟩
    unfold tokF
    rw [if_neg hn1.out, if_neg hn2.out, if_neg hn3.out, if_neg hn4.out, if_neg hn5.out, hr.out]
    exact ⟨rfl, ((Modd.refl _ _).dr _).trans hM⟩
  · replace hr := Lib.hid hr
    go_enter Tryz.func103, Tryz.ntmps103
    go_wp2_with (first | (go_at_call 153; (with_reducible refine (c153L g s i 0 i 0 _ (by omega) (by omega) (by first | exact hs | exact hsD _) (by first | exact ha | exact haD _) (by omega) (by omega) (by omega)).mono ?_); rintro e w' ⟨rfl, n1, rfl⟩) | (go_at_call 154; (with_reducible refine (c154v _ (bt_lo _ _) (bt_hi _ _) _ _ (by exact h1.out)).mono ?_); rintro e w' ⟨rfl, rfl⟩) | (go_at_call 156; (with_reducible refine (c156 h195.out g s i _ ps ys _ (SC.heap HH.out (by with_unfolding_all rfl)) hi hp hsz).mono ?_); rintro e w' hI; unfold ScBased at hI; rw [if_pos h2.out] at hI; obtain ⟨rfl, n5, rfl⟩ := hI) | (go_at_call 149; (with_reducible refine (c149v g s _ i _ _ (by exact h4.out) (by first | exact hs | exact hsD _) (by first | exact ha | exact haD _) (by omega) (by omega)).mono ?_); rintro e w' ⟨rfl, n3, rfl⟩) | (go_at_call 149; (with_reducible refine (c149v g s _ i _ _ (by exact h5.out) (by first | exact hs | exact hsD _) (by first | exact ha | exact haD _) (by omega) (by omega)).mono ?_); rintro e w' ⟨rfl, n3, rfl⟩) | (go_at_call 161; (with_reducible refine (c161 g s i p ps ys _ (SC.heap HH.out (by with_unfolding_all rfl)) (TabAt.dr HTT.out _) hi hp hsz).mono ?_); rintro e w' hI; rw [hr.out] at hI; obtain ⟨rfl, hS, hM⟩ := hI))
    go_end0
    unfold tokF
    rw [if_neg hn1.out, if_neg hn2.out, if_neg hn3.out, if_neg hn4.out, if_neg hn5.out, hr.out]
    exact ⟨rfl, hS, ((Modd.refl _ _).dr _).trans hM⟩
end Go.Proofs.YtagcfgoofiibfaaGreatDoor
