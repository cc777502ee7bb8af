/- The lexer and what it reaches: part 7 of 41: C4, C5, C6. -/
import Derived.Test.YtagcfgoofiibfaaGreatDoorG05
import Derived.Test.YtagcfgoofiibfaaGreatDoorG06
import Derived.Deep.DeepCutAuto
import Derived.Deep.CutBlock
set_option linter.unusedVariables false
set_option linter.unusedSimpArgs false
namespace Go.Proofs.YtagcfgoofiibfaaGreatDoor
open Go.RowKit

/-- behind value -/
def ValTo (i : Nat) (r : Option (List Int)) (w : World) (e : Ending) (w' : World) : Prop :=
  match r with
  | some d => (∃ dv, e = .returned (.agg #[.bool false, dv]) ∧ IntsAt w' dv d) ∧ Below w.heap.size w w'
  | none => e = .panicked [{ v := .iface 134 (.agg #[.int .i64 (i : Int), .int .i64 23]), recovered := false }] ∧ Below w.heap.size w w'
def C195 : Prop := ∀ (g i : Nat) (sd : ByteArray) (b : Int) (w : World), b = 2 ∨ b = 8 ∨ b = 10 ∨ b = 16 → w.cell? ⟨g, 1, none⟩ = some (.int .i64 (i : Int)) → sd.size ≤ 1073741824 →
  Calls Tryz.prog 195 #[.pointer (some ⟨g, 0, none⟩), .string sd, .int .i64 b] w (ValTo i (valF sd b) w)

theorem SC.hs {g : Nat} {s : ByteArray} {i : Nat} {tb : Value} {ps : List Tk} {ys : List (Nat × Nat)} {w : World} (H : SC g s i tb ps ys w) : w.cell? ⟨g, 0, none⟩ = some (.string s) := by obtain ⟨_, _, _, h, _⟩ := H; exact h.hs
theorem SC.ha {g : Nat} {s : ByteArray} {i : Nat} {tb : Value} {ps : List Tk} {ys : List (Nat × Nat)} {w : World} (H : SC g s i tb ps ys w) : w.cell? ⟨g, 1, none⟩ = some (.int .i64 (i : Int)) := by obtain ⟨_, _, _, h, _⟩ := H; exact h.ha
theorem SC.ht {g : Nat} {s : ByteArray} {i : Nat} {tb : Value} {ps : List Tk} {ys : List (Nat × Nat)} {w : World} (H : SC g s i tb ps ys w) : w.cell? ⟨g, 2, none⟩ = some tb := by obtain ⟨_, _, _, h, _⟩ := H; exact h.ht
theorem SC.lt {g : Nat} {s : ByteArray} {i : Nat} {tb : Value} {ps : List Tk} {ys : List (Nat × Nat)} {w : World} (H : SC g s i tb ps ys w) : g < w.heap.size := by obtain ⟨_, _, _, h, _⟩ := H; exact h.lt

theorem ext_size (s : ByteArray) (i n : Nat) (h : i + n ≤ s.size) : (s.extract i (i + n)).size = n := by simp [ByteArray.size_extract]; omega

set_option maxRecDepth 100000 in
set_option maxHeartbeats 3200000 in
theorem c155 (h195 : C195) (g : Nat) (s : ByteArray) (i p : Nat) (ps : List Tk) (ys : List (Nat × Nat)) (w : World)
    (H : SC g s i (.pointer (some ⟨p, 0, none⟩)) ps ys w) (HT : TabAt g p w) (hi : i < s.size) (hp : ps.length ≤ i) (hsz : s.size ≤ 1073741824) :
    Calls Tryz.prog 155 #[.pointer (some ⟨g, 0, none⟩)] w (ScTok g s i (.pointer (some ⟨p, 0, none⟩)) (runF s i) ps ys w) := by
  unfold C195 at h195
  have h195 := Lib.hid h195
  have hs := H.hs
  have ha := H.ha
  have ht := H.ht
  have hle := cnt_le rnb s i
  have hle2 := cnt_le dgt s i
  have hex := Lib.hid (ext_size s i (cnt rnb s i) (by omega))
  obtain ⟨cb, wb, ht0, ht1, ht2, hw, hc, _⟩ := HT.lookW (s.extract i (i + cnt rnb s i)) (ext_max _ _ _ hsz)
  have HH := Lib.hid H
  have HTT := Lib.hid HT
  have hsD : ∀ n, (w.drewN n).cell? ⟨g, 0, none⟩ = some (.string s) := fun _ => hs
  have haD : ∀ n, (w.drewN n).cell? ⟨g, 1, none⟩ = some (.int .i64 (i : Int)) := fun _ => ha
  clear H HT
  have q1 : IntKind.i64.wrap ((i : Int) + (cnt rnb s i : Int)) = (i : Int) + (cnt rnb s i : Int) := IntWalk.i64_in _ (by omega)
  have q2 : ((i : Int) + (cnt rnb s i : Int)).toNat = i + cnt rnb s i := by omega
  have q3 : (i : Int) ≤ (i : Int) + (cnt rnb s i : Int) := by omega
  have q4 : (i : Int) + (cnt rnb s i : Int) ≤ (s.size : Int) := by omega
  by_cases h1 : cnt dgt s i = cnt rnb s i
  · have h1' : ((cnt dgt s i : Int) == (cnt rnb s i : Int)) = true := by simp [h1]
    have h1 := Lib.hid h1
    rcases hv : valF (s.extract i (i + cnt rnb s i)) 10 with _ | d
    · have hv := Lib.hid hv
      go_enter Tryz.func155, Tryz.ntmps155
      go_wp2_with (go_at_call 150; first | ((with_reducible refine (c150L 154 _ p154 g s i 0 i 0 _ (by omega) (by omega) (by first | exact hs | exact hsD _) (by first | exact ha | exact haD _) (by omega) (by omega) (by omega)).mono ?_); rintro e w' ⟨rfl, n1, rfl⟩) | ((with_reducible refine (c150L 194 _ p194 g s i 0 i 0 _ (by omega) (by omega) (by first | exact hs | exact hsD _) (by first | exact ha | exact haD _) (by omega) (by omega) (by omega)).mono ?_); rintro e w' ⟨rfl, n2, rfl⟩))
      go_quiet (fail)
      go_wp2_with (first | (go_at_call 150; first | ((with_reducible refine (c150L 154 _ p154 g s i 0 i 0 _ (by omega) (by omega) (by first | exact hs | exact hsD _) (by first | exact ha | exact haD _) (by omega) (by omega) (by omega)).mono ?_); rintro e w' ⟨rfl, n1, rfl⟩) | ((with_reducible refine (c150L 194 _ p194 g s i 0 i 0 _ (by omega) (by omega) (by first | exact hs | exact hsD _) (by first | exact ha | exact haD _) (by omega) (by omega) (by omega)).mono ?_); rintro e w' ⟨rfl, n2, rfl⟩)) | (go_at_call 195; (with_reducible refine (h195.out g i _ 10 _ (by omega) (by first | exact ha | exact haD _) (by rw [hex.out]; omega)).mono ?_); rintro e w' hI; rw [hv.out] at hI; obtain ⟨rfl, hB⟩ := hI))
      refine ⟨rfl, ?_⟩
      unfold runF
      rw [if_pos h1.out, hv.out]
      exact ⟨rfl, ((Modd.refl _ _).dr _).trans (Below.modd hB g (Nat.le_of_lt (HH.out).lt))⟩
    · have hv := Lib.hid hv
      go_enter Tryz.func155, Tryz.ntmps155
      go_wp2_with (go_at_call 150; first | ((with_reducible refine (c150L 154 _ p154 g s i 0 i 0 _ (by omega) (by omega) (by first | exact hs | exact hsD _) (by first | exact ha | exact haD _) (by omega) (by omega) (by omega)).mono ?_); rintro e w' ⟨rfl, n1, rfl⟩) | ((with_reducible refine (c150L 194 _ p194 g s i 0 i 0 _ (by omega) (by omega) (by first | exact hs | exact hsD _) (by first | exact ha | exact haD _) (by omega) (by omega) (by omega)).mono ?_); rintro e w' ⟨rfl, n2, rfl⟩))
      go_quiet (fail)
      go_wp2_with (first | (go_at_call 150; first | ((with_reducible refine (c150L 154 _ p154 g s i 0 i 0 _ (by omega) (by omega) (by first | exact hs | exact hsD _) (by first | exact ha | exact haD _) (by omega) (by omega) (by omega)).mono ?_); rintro e w' ⟨rfl, n1, rfl⟩) | ((with_reducible refine (c150L 194 _ p194 g s i 0 i 0 _ (by omega) (by omega) (by first | exact hs | exact hsD _) (by first | exact ha | exact haD _) (by omega) (by omega) (by omega)).mono ?_); rintro e w' ⟨rfl, n2, rfl⟩)) | (go_at_call 195; (with_reducible refine (h195.out g i _ 10 _ (by omega) (by first | exact ha | exact haD _) (by rw [hex.out]; omega)).mono ?_); rintro e w' hI; rw [hv.out] at hI; obtain ⟨⟨dv, rfl, hd⟩, hB⟩ := hI; have hd := Lib.hid hd; have hB := Lib.hid hB) | (go_at_call 158; (with_reducible refine (c158s g s i _ ps ys _ _ _ d (cnt rnb s i) _ (((HH.out).dr _).below hB.out) hd.out (by omega) (by omega) (by omega)).mono ?_); rintro e w' ⟨rfl, hS, hM⟩))
      go_end0
      unfold runF
      rw [if_pos h1.out, hv.out]
      exact ⟨rfl, hS, (((Modd.refl _ _).dr _).trans (Below.modd hB.out g (Nat.le_of_lt (HH.out).lt))).trans hM⟩
  · have h1' : ((cnt dgt s i : Int) == (cnt rnb s i : Int)) = false := by rw [beq_eq_false_iff_ne]; omega
    have h1 := Lib.hid h1
    have hle3 : Lib.hasPrefix (s.extract i (i + cnt rnb s i)).data.toList [87, 70, 95] = true ∨ Lib.hasPrefix (s.extract i (i + cnt rnb s i)).data.toList [83, 70, 95] = true → 3 ≤ cnt rnb s i := by
      intro h
      have h3 : 3 ≤ (s.extract i (i + cnt rnb s i)).data.toList.length := by rcases h with h | h <;> exact isPrefixOf_len _ _ h
      rw [Array.length_toList] at h3
      change 3 ≤ (s.extract i (i + cnt rnb s i)).size at h3
      rw [hex.out] at h3
      exact h3
    have hle3 := Lib.hid hle3
    rcases hw1 : Lib.hasPrefix (s.extract i (i + cnt rnb s i)).data.toList [87, 70, 95] with _ | _
    · rcases hw2 : Lib.hasPrefix (s.extract i (i + cnt rnb s i)).data.toList [83, 70, 95] with _ | _
      · have HP : Hid ((Lib.hasPrefix (s.extract i (i + cnt rnb s i)).data.toList [87, 70, 95] || Lib.hasPrefix (s.extract i (i + cnt rnb s i)).data.toList [83, 70, 95]) = false) := by show _ = _; rw [hw1, hw2]; rfl
        replace hw1 := Lib.hid hw1
        replace hw2 := Lib.hid hw2
        rcases h3 : ((s.extract i (i + cnt rnb s i)).toList == [95]) with _ | _
        · rcases h4 : isWord (s.extract i (i + cnt rnb s i)) with _ | _
          · rcases h5 : letd (s.extract i (i + cnt rnb s i)) with _ | _
            · go_enter Tryz.func155, Tryz.ntmps155
              go_wp2_with (go_at_call 150; first | ((with_reducible refine (c150L 154 _ p154 g s i 0 i 0 _ (by omega) (by omega) (by first | exact hs | exact hsD _) (by first | exact ha | exact haD _) (by omega) (by omega) (by omega)).mono ?_); rintro e w' ⟨rfl, n1, rfl⟩) | ((with_reducible refine (c150L 194 _ p194 g s i 0 i 0 _ (by omega) (by omega) (by first | exact hs | exact hsD _) (by first | exact ha | exact haD _) (by omega) (by omega) (by omega)).mono ?_); rintro e w' ⟨rfl, n2, rfl⟩))
              go_quiet (fail)
              go_wp2_with (first | (go_at_call 150; first | ((with_reducible refine (c150L 154 _ p154 g s i 0 i 0 _ (by omega) (by omega) (by first | exact hs | exact hsD _) (by first | exact ha | exact haD _) (by omega) (by omega) (by omega)).mono ?_); rintro e w' ⟨rfl, n1, rfl⟩) | ((with_reducible refine (c150L 194 _ p194 g s i 0 i 0 _ (by omega) (by omega) (by first | exact hs | exact hsD _) (by first | exact ha | exact haD _) (by omega) (by omega) (by omega)).mono ?_); rintro e w' ⟨rfl, n2, rfl⟩)) | (go_at_call 76; first | ((with_reducible refine (c76v _ _ _ _ (by exact hw1.out)).mono ?_); rintro e w' ⟨rfl, rfl⟩) | ((with_reducible refine (c76v _ _ _ _ (by exact hw2.out)).mono ?_); rintro e w' ⟨rfl, rfl⟩)) | (go_at_call 107; (with_reducible refine (c107 _ _).mono ?_); rintro e w3 ⟨rfl, hB⟩; have ha3 : w3.cell? ⟨g, 1, none⟩ = some (.int .i64 (i : Int)) := by rw [hB.cell (p := ⟨g, 1, none⟩) (by exact (HH.out).lt)]; exact ha) | (go_at_call 192; (with_reducible refine (c192 _ _ _).mono ?_); rintro e w' ⟨rfl, rfl⟩))
              refine ⟨rfl, ?_⟩
              unfold runF
              rw [if_neg h1.out, HP.out, if_neg (by simp), h3, if_neg (by simp), h4, if_neg (by simp), h5, if_pos rfl]
              exact ⟨rfl, ((Modd.refl _ _).dr _).trans (Below.modd hB g (Nat.le_of_lt (HH.out).lt))⟩
            · by_cases h6 : 40 < cnt rnb s i
              · have h6' : (40 : Int) < (cnt rnb s i : Int) := by omega
                go_enter Tryz.func155, Tryz.ntmps155
                go_wp2_with (go_at_call 150; first | ((with_reducible refine (c150L 154 _ p154 g s i 0 i 0 _ (by omega) (by omega) (by first | exact hs | exact hsD _) (by first | exact ha | exact haD _) (by omega) (by omega) (by omega)).mono ?_); rintro e w' ⟨rfl, n1, rfl⟩) | ((with_reducible refine (c150L 194 _ p194 g s i 0 i 0 _ (by omega) (by omega) (by first | exact hs | exact hsD _) (by first | exact ha | exact haD _) (by omega) (by omega) (by omega)).mono ?_); rintro e w' ⟨rfl, n2, rfl⟩))
                go_quiet (fail)
                go_wp2_with (first | (go_at_call 150; first | ((with_reducible refine (c150L 154 _ p154 g s i 0 i 0 _ (by omega) (by omega) (by first | exact hs | exact hsD _) (by first | exact ha | exact haD _) (by omega) (by omega) (by omega)).mono ?_); rintro e w' ⟨rfl, n1, rfl⟩) | ((with_reducible refine (c150L 194 _ p194 g s i 0 i 0 _ (by omega) (by omega) (by first | exact hs | exact hsD _) (by first | exact ha | exact haD _) (by omega) (by omega) (by omega)).mono ?_); rintro e w' ⟨rfl, n2, rfl⟩)) | (go_at_call 76; first | ((with_reducible refine (c76v _ _ _ _ (by exact hw1.out)).mono ?_); rintro e w' ⟨rfl, rfl⟩) | ((with_reducible refine (c76v _ _ _ _ (by exact hw2.out)).mono ?_); rintro e w' ⟨rfl, rfl⟩)) | (go_at_call 107; (with_reducible refine (c107 _ _).mono ?_); rintro e w3 ⟨rfl, hB⟩; have ha3 : w3.cell? ⟨g, 1, none⟩ = some (.int .i64 (i : Int)) := by rw [hB.cell (p := ⟨g, 1, none⟩) (by exact (HH.out).lt)]; exact ha) | (go_at_call 192; (with_reducible refine (c192 _ _ _).mono ?_); rintro e w' ⟨rfl, rfl⟩))
                refine ⟨rfl, ?_⟩
                unfold runF
                rw [if_neg h1.out, HP.out, if_neg (by simp), h3, if_neg (by simp), h4, if_neg (by simp), h5, if_neg (by simp), if_pos h6]
                exact ⟨rfl, ((Modd.refl _ _).dr _).trans (Below.modd hB g (Nat.le_of_lt (HH.out).lt))⟩
              · have h6' : decide ((40 : Int) < (cnt rnb s i : Int)) = false := by simp; omega
                go_enter Tryz.func155, Tryz.ntmps155
                go_wp2_with (go_at_call 150; first | ((with_reducible refine (c150L 154 _ p154 g s i 0 i 0 _ (by omega) (by omega) (by first | exact hs | exact hsD _) (by first | exact ha | exact haD _) (by omega) (by omega) (by omega)).mono ?_); rintro e w' ⟨rfl, n1, rfl⟩) | ((with_reducible refine (c150L 194 _ p194 g s i 0 i 0 _ (by omega) (by omega) (by first | exact hs | exact hsD _) (by first | exact ha | exact haD _) (by omega) (by omega) (by omega)).mono ?_); rintro e w' ⟨rfl, n2, rfl⟩))
                go_quiet (fail)
                go_wp2_with (first | (go_at_call 150; first | ((with_reducible refine (c150L 154 _ p154 g s i 0 i 0 _ (by omega) (by omega) (by first | exact hs | exact hsD _) (by first | exact ha | exact haD _) (by omega) (by omega) (by omega)).mono ?_); rintro e w' ⟨rfl, n1, rfl⟩) | ((with_reducible refine (c150L 194 _ p194 g s i 0 i 0 _ (by omega) (by omega) (by first | exact hs | exact hsD _) (by first | exact ha | exact haD _) (by omega) (by omega) (by omega)).mono ?_); rintro e w' ⟨rfl, n2, rfl⟩)) | (go_at_call 76; first | ((with_reducible refine (c76v _ _ _ _ (by exact hw1.out)).mono ?_); rintro e w' ⟨rfl, rfl⟩) | ((with_reducible refine (c76v _ _ _ _ (by exact hw2.out)).mono ?_); rintro e w' ⟨rfl, rfl⟩)) | (go_at_call 107; (with_reducible refine (c107 _ _).mono ?_); rintro e w3 ⟨rfl, hB⟩; have ha3 : w3.cell? ⟨g, 1, none⟩ = some (.int .i64 (i : Int)) := by rw [hB.cell (p := ⟨g, 1, none⟩) (by exact (HH.out).lt)]; exact ha) | (go_at_call 158; (with_reducible refine (c158s g s i _ ps ys _ _ _ [] (cnt rnb s i) _ (((HH.out).dr _).below hB) (IntsAt.nil _) (by omega) (by omega) (by omega)).mono ?_); rintro e w5 ⟨rfl, hS, hM⟩))
                go_end0
                unfold runF
                rw [if_neg h1.out, HP.out, if_neg (by simp), h3, if_neg (by simp), h4, if_neg (by simp), h5, if_neg (by simp), if_neg h6]
                exact ⟨rfl, hS, (((Modd.refl _ _).dr _).trans (Below.modd hB g (Nat.le_of_lt (HH.out).lt))).trans hM⟩
          · go_enter Tryz.func155, Tryz.ntmps155
            go_wp2_with (go_at_call 150; first | ((with_reducible refine (c150L 154 _ p154 g s i 0 i 0 _ (by omega) (by omega) (by first | exact hs | exact hsD _) (by first | exact ha | exact haD _) (by omega) (by omega) (by omega)).mono ?_); rintro e w' ⟨rfl, n1, rfl⟩) | ((with_reducible refine (c150L 194 _ p194 g s i 0 i 0 _ (by omega) (by omega) (by first | exact hs | exact hsD _) (by first | exact ha | exact haD _) (by omega) (by omega) (by omega)).mono ?_); rintro e w' ⟨rfl, n2, rfl⟩))
            go_quiet (fail)
            go_wp2_with (first | (go_at_call 150; first | ((with_reducible refine (c150L 154 _ p154 g s i 0 i 0 _ (by omega) (by omega) (by first | exact hs | exact hsD _) (by first | exact ha | exact haD _) (by omega) (by omega) (by omega)).mono ?_); rintro e w' ⟨rfl, n1, rfl⟩) | ((with_reducible refine (c150L 194 _ p194 g s i 0 i 0 _ (by omega) (by omega) (by first | exact hs | exact hsD _) (by first | exact ha | exact haD _) (by omega) (by omega) (by omega)).mono ?_); rintro e w' ⟨rfl, n2, rfl⟩)) | (go_at_call 76; first | ((with_reducible refine (c76v _ _ _ _ (by exact hw1.out)).mono ?_); rintro e w' ⟨rfl, rfl⟩) | ((with_reducible refine (c76v _ _ _ _ (by exact hw2.out)).mono ?_); rintro e w' ⟨rfl, rfl⟩)) | (go_at_call 158; (with_reducible refine (c158s g s i _ ps ys _ _ _ [] (cnt rnb s i) _ ((HH.out).dr _) (IntsAt.nil _) (by omega) (by omega) (by omega)).mono ?_); rintro e w5 ⟨rfl, hS, hM⟩))
            go_end0
            unfold runF
            rw [if_neg h1.out, HP.out, if_neg (by simp), h3, if_neg (by simp), h4, if_pos rfl]
            exact ⟨rfl, hS, ((Modd.refl _ _).dr _).trans hM⟩
        · go_enter Tryz.func155, Tryz.ntmps155
          go_wp2_with (go_at_call 150; first | ((with_reducible refine (c150L 154 _ p154 g s i 0 i 0 _ (by omega) (by omega) (by first | exact hs | exact hsD _) (by first | exact ha | exact haD _) (by omega) (by omega) (by omega)).mono ?_); rintro e w' ⟨rfl, n1, rfl⟩) | ((with_reducible refine (c150L 194 _ p194 g s i 0 i 0 _ (by omega) (by omega) (by first | exact hs | exact hsD _) (by first | exact ha | exact haD _) (by omega) (by omega) (by omega)).mono ?_); rintro e w' ⟨rfl, n2, rfl⟩))
          go_quiet (fail)
          go_wp2_with (first | (go_at_call 150; first | ((with_reducible refine (c150L 154 _ p154 g s i 0 i 0 _ (by omega) (by omega) (by first | exact hs | exact hsD _) (by first | exact ha | exact haD _) (by omega) (by omega) (by omega)).mono ?_); rintro e w' ⟨rfl, n1, rfl⟩) | ((with_reducible refine (c150L 194 _ p194 g s i 0 i 0 _ (by omega) (by omega) (by first | exact hs | exact hsD _) (by first | exact ha | exact haD _) (by omega) (by omega) (by omega)).mono ?_); rintro e w' ⟨rfl, n2, rfl⟩)) | (go_at_call 76; first | ((with_reducible refine (c76v _ _ _ _ (by exact hw1.out)).mono ?_); rintro e w' ⟨rfl, rfl⟩) | ((with_reducible refine (c76v _ _ _ _ (by exact hw2.out)).mono ?_); rintro e w' ⟨rfl, rfl⟩)) | (go_at_call 158; (with_reducible refine (c158s g s i _ ps ys _ _ _ [] (cnt rnb s i) _ ((HH.out).dr _) (IntsAt.nil _) (by omega) (by omega) (by omega)).mono ?_); rintro e w5 ⟨rfl, hS, hM⟩))
          go_end0
          unfold runF
          rw [if_neg h1.out, HP.out, if_neg (by simp), h3, if_pos rfl]
          exact ⟨rfl, hS, ((Modd.refl _ _).dr _).trans hM⟩
      · have HP : Hid ((Lib.hasPrefix (s.extract i (i + cnt rnb s i)).data.toList [87, 70, 95] || Lib.hasPrefix (s.extract i (i + cnt rnb s i)).data.toList [83, 70, 95]) = true) := by show _ = _; rw [hw1, hw2]; rfl
        have h33 := hle3.out (.inr hw2)
        have h34 : (3 : Int) ≤ ((s.extract i (i + cnt rnb s i)).size : Int) := by rw [hex.out]; omega
        replace hw1 := Lib.hid hw1
        replace hw2 := Lib.hid hw2
        go_enter Tryz.func155, Tryz.ntmps155
        go_wp2_with (go_at_call 150; first | ((with_reducible refine (c150L 154 _ p154 g s i 0 i 0 _ (by omega) (by omega) (by first | exact hs | exact hsD _) (by first | exact ha | exact haD _) (by omega) (by omega) (by omega)).mono ?_); rintro e w' ⟨rfl, n1, rfl⟩) | ((with_reducible refine (c150L 194 _ p194 g s i 0 i 0 _ (by omega) (by omega) (by first | exact hs | exact hsD _) (by first | exact ha | exact haD _) (by omega) (by omega) (by omega)).mono ?_); rintro e w' ⟨rfl, n2, rfl⟩))
        go_quiet (fail)
        go_wp2_with (first | (go_at_call 150; first | ((with_reducible refine (c150L 154 _ p154 g s i 0 i 0 _ (by omega) (by omega) (by first | exact hs | exact hsD _) (by first | exact ha | exact haD _) (by omega) (by omega) (by omega)).mono ?_); rintro e w' ⟨rfl, n1, rfl⟩) | ((with_reducible refine (c150L 194 _ p194 g s i 0 i 0 _ (by omega) (by omega) (by first | exact hs | exact hsD _) (by first | exact ha | exact haD _) (by omega) (by omega) (by omega)).mono ?_); rintro e w' ⟨rfl, n2, rfl⟩)) | (go_at_call 76; first | ((with_reducible refine (c76v _ _ _ _ (by exact hw1.out)).mono ?_); rintro e w' ⟨rfl, rfl⟩) | ((with_reducible refine (c76v _ _ _ _ (by exact hw2.out)).mono ?_); rintro e w' ⟨rfl, rfl⟩)) | (go_at_call 158; (with_reducible refine (c158L g s i _ ps ys _ _ _ [] 3 _ _ (by omega) ((HH.out).dr _) (IntsAt.nil _) (by omega) (by omega) (by omega)).mono ?_); rintro e w5 ⟨rfl, hS, hM⟩))
        go_end0
        unfold runF
        rw [if_neg h1.out, HP.out, if_pos rfl]
        exact ⟨rfl, hS, ((Modd.refl _ _).dr _).trans hM⟩
    · have HP : Hid ((Lib.hasPrefix (s.extract i (i + cnt rnb s i)).data.toList [87, 70, 95] || Lib.hasPrefix (s.extract i (i + cnt rnb s i)).data.toList [83, 70, 95]) = true) := by show _ = _; rw [hw1]; rfl
      have h33 := hle3.out (.inl hw1)
      have h34 : (3 : Int) ≤ ((s.extract i (i + cnt rnb s i)).size : Int) := by rw [hex.out]; omega
      replace hw1 := Lib.hid hw1
      go_enter Tryz.func155, Tryz.ntmps155
      go_wp2_with (go_at_call 150; first | ((with_reducible refine (c150L 154 _ p154 g s i 0 i 0 _ (by omega) (by omega) (by first | exact hs | exact hsD _) (by first | exact ha | exact haD _) (by omega) (by omega) (by omega)).mono ?_); rintro e w' ⟨rfl, n1, rfl⟩) | ((with_reducible refine (c150L 194 _ p194 g s i 0 i 0 _ (by omega) (by omega) (by first | exact hs | exact hsD _) (by first | exact ha | exact haD _) (by omega) (by omega) (by omega)).mono ?_); rintro e w' ⟨rfl, n2, rfl⟩))
      go_quiet (fail)
      go_wp2_with (first | (go_at_call 150; first | ((with_reducible refine (c150L 154 _ p154 g s i 0 i 0 _ (by omega) (by omega) (by first | exact hs | exact hsD _) (by first | exact ha | exact haD _) (by omega) (by omega) (by omega)).mono ?_); rintro e w' ⟨rfl, n1, rfl⟩) | ((with_reducible refine (c150L 194 _ p194 g s i 0 i 0 _ (by omega) (by omega) (by first | exact hs | exact hsD _) (by first | exact ha | exact haD _) (by omega) (by omega) (by omega)).mono ?_); rintro e w' ⟨rfl, n2, rfl⟩)) | (go_at_call 76; first | ((with_reducible refine (c76v _ _ _ _ (by exact hw1.out)).mono ?_); rintro e w' ⟨rfl, rfl⟩) | ((with_reducible refine (c76v _ _ _ _ (by exact hw1.out)).mono ?_); rintro e w' ⟨rfl, rfl⟩)) | (go_at_call 158; (with_reducible refine (c158L g s i _ ps ys _ _ _ [] 3 _ _ (by omega) ((HH.out).dr _) (IntsAt.nil _) (by omega) (by omega) (by omega)).mono ?_); rintro e w5 ⟨rfl, hS, hM⟩))
      go_end0
      unfold runF
      rw [if_neg h1.out, HP.out, if_pos rfl]
      exact ⟨rfl, hS, ((Modd.refl _ _).dr _).trans hM⟩
end Go.Proofs.YtagcfgoofiibfaaGreatDoor
namespace Go.Proofs.YtagcfgoofiibfaaGreatDoor
open Go.RowKit

theorem TabAt.dr {g p : Nat} {w : World} (h : TabAt g p w) (n : Nat) : TabAt g p (w.drewN n) := h.below (Dr.below (Dr.here _ _) _)

set_option maxRecDepth 100000 in
set_option maxHeartbeats 3200000 in
theorem c161 (g : Nat) (s : ByteArray) (i p : Nat) (ps : List Tk) (ys : List (Nat × Nat)) (w : World)
    (H : SC g s i (.pointer (some ⟨p, 0, none⟩)) ps ys w) (HT : TabAt g p w) (hi : i < s.size) (hp : ps.length ≤ i) (hsz : s.size ≤ 1073741824) :
    Calls Tryz.prog 161 #[.pointer (some ⟨g, 0, none⟩)] w (ScTok g s i (.pointer (some ⟨p, 0, none⟩)) (signF s i) ps ys w) := by
  have hs := H.hs
  have ha := H.ha
  have ht := H.ht
  have HH := Lib.hid H
  have HTT := Lib.hid HT
  have hsD : ∀ n, (w.drewN n).cell? ⟨g, 0, none⟩ = some (.string s) := fun _ => hs
  have haD : ∀ n, (w.drewN n).cell? ⟨g, 1, none⟩ = some (.int .i64 (i : Int)) := fun _ => ha
  have hle := cnt_le ltr s (i + 1)
  obtain ⟨cb, wb, ht0, ht1, ht2, hw, hc, _⟩ := HT.lookW (s.extract i (i + (1 + cnt ltr s (i + 1)))) (ext_max _ _ _ hsz)
  clear H HT hw
  have q0 : IntKind.i64.wrap ((s.size : Int) - (i : Int)) = (s.size : Int) - (i : Int) := IntWalk.i64_in _ (by omega)
  have q5 : ((s.size : Int) - (i : Int)) = ((s.size - i : Nat) : Int) := by omega
  by_cases h1 : bt s i = 92
  · have q1 : IntKind.i64.wrap (1 + (cnt ltr s (i + 1) : Int)) = 1 + (cnt ltr s (i + 1) : Int) := IntWalk.i64_in _ (by omega)
    have q2 : IntKind.i64.wrap ((i : Int) + (1 + (cnt ltr s (i + 1) : Int))) = (i : Int) + (1 + (cnt ltr s (i + 1) : Int)) := IntWalk.i64_in _ (by omega)
    have q3 : ((i : Int) + (1 + (cnt ltr s (i + 1) : Int))).toNat = i + (1 + cnt ltr s (i + 1)) := by omega
    have q4 : (i : Int) ≤ (i : Int) + (1 + (cnt ltr s (i + 1) : Int)) := by omega
    have q6 : (i : Int) + (1 + (cnt ltr s (i + 1) : Int)) ≤ (s.size : Int) := by omega
    have h1' : (bt s i == 92) = true := by simp [h1]
    have h1 := Lib.hid h1
    rcases h2 : (canonOf (s.extract i (i + (1 + cnt ltr s (i + 1))))).isSome with _ | _
    · have hNS : Hid (¬ (bt s i = 92 ∧ 0 < cnt ltr s (i + 1) ∧ (canonOf (s.extract i (i + (1 + cnt ltr s (i + 1))))).isSome)) := by
        intro h; rw [h2] at h; exact absurd h.2.2 (by simp)
      rw [h2] at hc
      go_enter Tryz.func161, Tryz.ntmps161
      go_wp2_with (first | (go_at_call 153; (with_reducible refine (c153L g s i 0 i 0 _ (by omega) (by omega) (by first | exact hs | exact hsD _) (by first | exact ha | exact haD _) (by omega) (by omega) (by omega)).mono ?_); rintro e w' ⟨rfl, n1, rfl⟩) | (go_at_call 150; (with_reducible refine (c150L 193 _ p193 g s i 1 (i + 1) 1 _ (by omega) (by omega) (by first | exact hs | exact hsD _) (by first | exact ha | exact haD _) (by omega) (by omega) (by omega)).mono ?_); rintro e w' ⟨rfl, n2, rfl⟩) | (go_at_call 158; (with_reducible refine (c158L g s i _ ps ys _ _ _ [] (1 + cnt ltr s (i + 1)) _ _ (by omega) ((HH.out).dr _) (IntsAt.nil _) (by omega) (by omega) (by omega)).mono ?_); rintro e w5 ⟨rfl, hS, hM⟩))
      go_quiet (fail)
      go_wp2
      go_quiet (fail)
      go_wp2
      clear hs ha ht hsD haD ht0 ht1 ht2
      go_loopw [5] (fun n wr => ∃ k : Nat, k ≤ 3 ∧ i + k ≤ s.size ∧ n = .int .i64 (k : Int) ∧ Below w.heap.size w wr ∧ sgn s i (min 3 (s.size - i)) = sgn s i k) (fun n _ => (intOf n).toNat)
      case atStart => exact ⟨min 3 (s.size - i), by omega, by omega, by congr 1; omega, Dr.below (((Dr.refl w).drewN _).drewN _) _, rfl⟩
      case round =>
        obtain ⟨k, hk1, hk2, rfl, hB, HI⟩ := hrel
        have HS2 := (HH.out).below hB
        have hs := HS2.hs
        have ha := HS2.ha
        have ht := HS2.ht
        have hT2 := (HTT.out).below (hB.mono (Nat.le_of_lt (HH.out).lt))
        obtain ⟨cb2, wb2, ht0, ht1, ht2, hw, hc, hc2⟩ := hT2.lookW (s.extract i (i + k)) (ext_max _ _ _ hsz)
        have HI := Lib.hid HI
        have HB := Lib.hid hB
        have HS := Lib.hid HS2
        have HT := Lib.hid hT2
        clear hB HS2 hT2 hw hc2
        have q7 : IntKind.i64.wrap ((i : Int) + (k : Int)) = (i : Int) + (k : Int) := IntWalk.i64_in _ (by omega)
        have q8 : IntKind.i64.wrap ((k : Int) - 1) = (k : Int) - 1 := IntWalk.i64_in _ (by omega)
        have q9 : ((i : Int) + (k : Int)).toNat = i + k := by omega
        have q10 : (i : Int) ≤ (i : Int) + (k : Int) := by omega
        have q11 : (i : Int) + (k : Int) ≤ (s.size : Int) := by omega
        rcases k with _ | k
        · go_wp2_with (go_at_call 192; (with_reducible refine (c192 _ _ _).mono ?_); rintro e w' ⟨rfl, rfl⟩)
          refine ⟨rfl, ?_⟩
          unfold signF
          rw [if_neg hNS.out, HI.out]
          exact ⟨rfl, Below.modd HB.out g (Nat.le_of_lt (HH.out).lt)⟩
        · have hk0 : (0 : Int) < ((k + 1 : Nat) : Int) := by omega
          have q12 : (((k + 1 : Nat) : Int) - 1) = (k : Int) := by omega
          rcases hcn : canonOf (s.extract i (i + (k + 1))) with _ | c
          · rw [hcn] at hc
            have hcn := Lib.hid hcn
            go_wp2
            go_quiet (fail)
            go_wp2
            go_roundw
            case rel => exact ⟨k, by omega, by omega, by go_num, (HB.out).trans (Dr.below (Dr.here _ _) _), by rw [HI.out, sgn, hcn.out]⟩
            case measure => simp [intOf]
          · rw [hcn] at hc
            have hcn := Lib.hid hcn
            rcases hl : letd (s.extract i (i + (k + 1))) with _ | _
            · go_wp2
              go_quiet (fail)
              go_wp2_with (first | (go_at_call 107; (with_reducible refine (c107 _ _).mono ?_); rintro e w3 ⟨rfl, hB3⟩) | (go_at_call 158; (with_reducible refine (c158L g s i _ ps ys _ _ _ [] (k + 1) _ _ (by omega) (((HS.out).dr _).below hB3) (IntsAt.nil _) (by omega) (by omega) (by omega)).mono ?_); rintro e w5 ⟨rfl, hS, hM⟩))
              go_end0
              unfold signF
              rw [if_neg hNS.out, HI.out, sgn, hcn.out]
              simp only [hl]
              exact ⟨rfl, hS, (((Below.modd HB.out g (Nat.le_of_lt (HH.out).lt)).dr _).trans (Below.modd hB3 g (Nat.le_of_lt (HS.out).lt))).trans hM⟩
            · go_wp2
              go_quiet (fail)
              go_wp2_with (go_at_call 107; (with_reducible refine (c107 _ _).mono ?_); rintro e w3 ⟨rfl, hB3⟩)
              go_roundw
              case rel => exact ⟨k, by omega, by omega, by go_num, ((HB.out).trans (Dr.below (Dr.here _ _) _)).trans (Below.mono hB3 (HB.out).size), by rw [HI.out, sgn, hcn.out]; simp only [hl]; rfl⟩
              case measure => simp [intOf]
    · by_cases h3 : 0 < cnt ltr s (i + 1)
      · have h3' : (1 : Int) < 1 + (cnt ltr s (i + 1) : Int) := by omega
        rw [h2] at hc
        go_enter Tryz.func161, Tryz.ntmps161
        go_wp2_with (first | (go_at_call 153; (with_reducible refine (c153L g s i 0 i 0 _ (by omega) (by omega) (by first | exact hs | exact hsD _) (by first | exact ha | exact haD _) (by omega) (by omega) (by omega)).mono ?_); rintro e w' ⟨rfl, n1, rfl⟩) | (go_at_call 150; (with_reducible refine (c150L 193 _ p193 g s i 1 (i + 1) 1 _ (by omega) (by omega) (by first | exact hs | exact hsD _) (by first | exact ha | exact haD _) (by omega) (by omega) (by omega)).mono ?_); rintro e w' ⟨rfl, n2, rfl⟩) | (go_at_call 158; (with_reducible refine (c158L g s i _ ps ys _ _ _ [] (1 + cnt ltr s (i + 1)) _ _ (by omega) ((HH.out).dr _) (IntsAt.nil _) (by omega) (by omega) (by omega)).mono ?_); rintro e w5 ⟨rfl, hS, hM⟩))
        go_quiet (fail)
        go_wp2_with (first | (go_at_call 153; (with_reducible refine (c153L g s i 0 i 0 _ (by omega) (by omega) (by first | exact hs | exact hsD _) (by first | exact ha | exact haD _) (by omega) (by omega) (by omega)).mono ?_); rintro e w' ⟨rfl, n1, rfl⟩) | (go_at_call 150; (with_reducible refine (c150L 193 _ p193 g s i 1 (i + 1) 1 _ (by omega) (by omega) (by first | exact hs | exact hsD _) (by first | exact ha | exact haD _) (by omega) (by omega) (by omega)).mono ?_); rintro e w' ⟨rfl, n2, rfl⟩) | (go_at_call 158; (with_reducible refine (c158L g s i _ ps ys _ _ _ [] (1 + cnt ltr s (i + 1)) _ _ (by omega) ((HH.out).dr _) (IntsAt.nil _) (by omega) (by omega) (by omega)).mono ?_); rintro e w5 ⟨rfl, hS, hM⟩))
        go_end0
        unfold signF
        rw [if_pos ⟨h1.out, h3, h2⟩]
        exact ⟨rfl, hS, ((Modd.refl _ _).dr _).trans hM⟩
      · have hNS : Hid (¬ (bt s i = 92 ∧ 0 < cnt ltr s (i + 1) ∧ (canonOf (s.extract i (i + (1 + cnt ltr s (i + 1))))).isSome)) := fun h => h3 h.2.1
        have h3' : decide ((1 : Int) < 1 + (cnt ltr s (i + 1) : Int)) = false := by simp; omega
        rw [h2] at hc
        go_enter Tryz.func161, Tryz.ntmps161
        go_wp2_with (first | (go_at_call 153; (with_reducible refine (c153L g s i 0 i 0 _ (by omega) (by omega) (by first | exact hs | exact hsD _) (by first | exact ha | exact haD _) (by omega) (by omega) (by omega)).mono ?_); rintro e w' ⟨rfl, n1, rfl⟩) | (go_at_call 150; (with_reducible refine (c150L 193 _ p193 g s i 1 (i + 1) 1 _ (by omega) (by omega) (by first | exact hs | exact hsD _) (by first | exact ha | exact haD _) (by omega) (by omega) (by omega)).mono ?_); rintro e w' ⟨rfl, n2, rfl⟩) | (go_at_call 158; (with_reducible refine (c158L g s i _ ps ys _ _ _ [] (1 + cnt ltr s (i + 1)) _ _ (by omega) ((HH.out).dr _) (IntsAt.nil _) (by omega) (by omega) (by omega)).mono ?_); rintro e w5 ⟨rfl, hS, hM⟩))
        go_quiet (fail)
        go_wp2
        go_quiet (fail)
        go_wp2
        clear hs ha ht hsD haD ht0 ht1 ht2
        go_loopw [5] (fun n wr => ∃ k : Nat, k ≤ 3 ∧ i + k ≤ s.size ∧ n = .int .i64 (k : Int) ∧ Below w.heap.size w wr ∧ sgn s i (min 3 (s.size - i)) = sgn s i k) (fun n _ => (intOf n).toNat)
        case atStart => exact ⟨min 3 (s.size - i), by omega, by omega, by congr 1; omega, Dr.below (((Dr.refl w).drewN _).drewN _) _, rfl⟩
        case round =>
          obtain ⟨k, hk1, hk2, rfl, hB, HI⟩ := hrel
          have HS2 := (HH.out).below hB
          have hs := HS2.hs
          have ha := HS2.ha
          have ht := HS2.ht
          have hT2 := (HTT.out).below (hB.mono (Nat.le_of_lt (HH.out).lt))
          obtain ⟨cb2, wb2, ht0, ht1, ht2, hw, hc, hc2⟩ := hT2.lookW (s.extract i (i + k)) (ext_max _ _ _ hsz)
          have HI := Lib.hid HI
          have HB := Lib.hid hB
          have HS := Lib.hid HS2
          have HT := Lib.hid hT2
          clear hB HS2 hT2 hw hc2
          have q7 : IntKind.i64.wrap ((i : Int) + (k : Int)) = (i : Int) + (k : Int) := IntWalk.i64_in _ (by omega)
          have q8 : IntKind.i64.wrap ((k : Int) - 1) = (k : Int) - 1 := IntWalk.i64_in _ (by omega)
          have q9 : ((i : Int) + (k : Int)).toNat = i + k := by omega
          have q10 : (i : Int) ≤ (i : Int) + (k : Int) := by omega
          have q11 : (i : Int) + (k : Int) ≤ (s.size : Int) := by omega
          rcases k with _ | k
          · go_wp2_with (go_at_call 192; (with_reducible refine (c192 _ _ _).mono ?_); rintro e w' ⟨rfl, rfl⟩)
            refine ⟨rfl, ?_⟩
            unfold signF
            rw [if_neg hNS.out, HI.out]
            exact ⟨rfl, Below.modd HB.out g (Nat.le_of_lt (HH.out).lt)⟩
          · have hk0 : (0 : Int) < ((k + 1 : Nat) : Int) := by omega
            have q12 : (((k + 1 : Nat) : Int) - 1) = (k : Int) := by omega
            rcases hcn : canonOf (s.extract i (i + (k + 1))) with _ | c
            · rw [hcn] at hc
              have hcn := Lib.hid hcn
              go_wp2
              go_quiet (fail)
              go_wp2
              go_roundw
              case rel => exact ⟨k, by omega, by omega, by go_num, (HB.out).trans (Dr.below (Dr.here _ _) _), by rw [HI.out, sgn, hcn.out]⟩
              case measure => simp [intOf]
            · rw [hcn] at hc
              have hcn := Lib.hid hcn
              rcases hl : letd (s.extract i (i + (k + 1))) with _ | _
              · go_wp2
                go_quiet (fail)
                go_wp2_with (first | (go_at_call 107; (with_reducible refine (c107 _ _).mono ?_); rintro e w3 ⟨rfl, hB3⟩) | (go_at_call 158; (with_reducible refine (c158L g s i _ ps ys _ _ _ [] (k + 1) _ _ (by omega) (((HS.out).dr _).below hB3) (IntsAt.nil _) (by omega) (by omega) (by omega)).mono ?_); rintro e w5 ⟨rfl, hS, hM⟩))
                go_end0
                unfold signF
                rw [if_neg hNS.out, HI.out, sgn, hcn.out]
                simp only [hl]
                exact ⟨rfl, hS, (((Below.modd HB.out g (Nat.le_of_lt (HH.out).lt)).dr _).trans (Below.modd hB3 g (Nat.le_of_lt (HS.out).lt))).trans hM⟩
              · go_wp2
                go_quiet (fail)
                go_wp2_with (go_at_call 107; (with_reducible refine (c107 _ _).mono ?_); rintro e w3 ⟨rfl, hB3⟩)
                go_roundw
                case rel => exact ⟨k, by omega, by omega, by go_num, ((HB.out).trans (Dr.below (Dr.here _ _) _)).trans (Below.mono hB3 (HB.out).size), by rw [HI.out, sgn, hcn.out]; simp only [hl]; rfl⟩
                case measure => simp [intOf]
  · have h1' : (bt s i == 92) = false := by simp [h1]
    have hNS : Hid (¬ (bt s i = 92 ∧ 0 < cnt ltr s (i + 1) ∧ (canonOf (s.extract i (i + (1 + cnt ltr s (i + 1))))).isSome)) := fun h => h1 h.1
    have h1 := Lib.hid h1
    clear hc
    go_enter Tryz.func161, Tryz.ntmps161
    go_wp2_with (first | (go_at_call 153; (with_reducible refine (c153L g s i 0 i 0 _ (by omega) (by omega) (by first | exact hs | exact hsD _) (by first | exact ha | exact haD _) (by omega) (by omega) (by omega)).mono ?_); rintro e w' ⟨rfl, n1, rfl⟩) | (go_at_call 150; (with_reducible refine (c150L 193 _ p193 g s i 1 (i + 1) 1 _ (by omega) (by omega) (by first | exact hs | exact hsD _) (by first | exact ha | exact haD _) (by omega) (by omega) (by omega)).mono ?_); rintro e w' ⟨rfl, n2, rfl⟩) | (go_at_call 158; (with_reducible refine (c158L g s i _ ps ys _ _ _ [] (1 + cnt ltr s (i + 1)) _ _ (by omega) ((HH.out).dr _) (IntsAt.nil _) (by omega) (by omega) (by omega)).mono ?_); rintro e w5 ⟨rfl, hS, hM⟩))
    go_quiet (fail)
    go_wp2
    clear hs ha ht hsD haD ht0 ht1 ht2
    go_loopw [5] (fun n wr => ∃ k : Nat, k ≤ 3 ∧ i + k ≤ s.size ∧ n = .int .i64 (k : Int) ∧ Below w.heap.size w wr ∧ sgn s i (min 3 (s.size - i)) = sgn s i k) (fun n _ => (intOf n).toNat)
    case atStart => exact ⟨min 3 (s.size - i), by omega, by omega, by congr 1; omega, Dr.below ((((Dr.refl w).drewN _).drewN _)) _, rfl⟩
    case round =>
      obtain ⟨k, hk1, hk2, rfl, hB, HI⟩ := hrel
      have HS2 := (HH.out).below hB
      have hs := HS2.hs
      have ha := HS2.ha
      have ht := HS2.ht
      have hT2 := (HTT.out).below (hB.mono (Nat.le_of_lt (HH.out).lt))
      obtain ⟨cb2, wb2, ht0, ht1, ht2, hw, hc, hc2⟩ := hT2.lookW (s.extract i (i + k)) (ext_max _ _ _ hsz)
      have HI := Lib.hid HI
      have HB := Lib.hid hB
      have HS := Lib.hid HS2
      have HT := Lib.hid hT2
      clear hB HS2 hT2 hw hc2
      have q7 : IntKind.i64.wrap ((i : Int) + (k : Int)) = (i : Int) + (k : Int) := IntWalk.i64_in _ (by omega)
      have q8 : IntKind.i64.wrap ((k : Int) - 1) = (k : Int) - 1 := IntWalk.i64_in _ (by omega)
      have q9 : ((i : Int) + (k : Int)).toNat = i + k := by omega
      have q10 : (i : Int) ≤ (i : Int) + (k : Int) := by omega
      have q11 : (i : Int) + (k : Int) ≤ (s.size : Int) := by omega
      rcases k with _ | k
      · go_wp2_with (go_at_call 192; (with_reducible refine (c192 _ _ _).mono ?_); rintro e w' ⟨rfl, rfl⟩)
        refine ⟨rfl, ?_⟩
        unfold signF
        rw [if_neg hNS.out, HI.out]
        exact ⟨rfl, Below.modd HB.out g (Nat.le_of_lt (HH.out).lt)⟩
      · have hk0 : (0 : Int) < ((k + 1 : Nat) : Int) := by omega
        have q12 : (((k + 1 : Nat) : Int) - 1) = (k : Int) := by omega
        rcases hcn : canonOf (s.extract i (i + (k + 1))) with _ | c
        · rw [hcn] at hc
          have hcn := Lib.hid hcn
          go_wp2
          go_quiet (fail)
          go_wp2
          go_roundw
          case rel => exact ⟨k, by omega, by omega, by go_num, (HB.out).trans (Dr.below (Dr.here _ _) _), by rw [HI.out, sgn, hcn.out]⟩
          case measure => simp [intOf]
        · rw [hcn] at hc
          have hcn := Lib.hid hcn
          rcases hl : letd (s.extract i (i + (k + 1))) with _ | _
          · go_wp2
            go_quiet (fail)
            go_wp2_with (first | (go_at_call 107; (with_reducible refine (c107 _ _).mono ?_); rintro e w3 ⟨rfl, hB3⟩) | (go_at_call 158; (with_reducible refine (c158L g s i _ ps ys _ _ _ [] (k + 1) _ _ (by omega) (((HS.out).dr _).below hB3) (IntsAt.nil _) (by omega) (by omega) (by omega)).mono ?_); rintro e w5 ⟨rfl, hS, hM⟩))
            go_end0
            unfold signF
            rw [if_neg hNS.out, HI.out, sgn, hcn.out]
            simp only [hl]
            exact ⟨rfl, hS, (((Below.modd HB.out g (Nat.le_of_lt (HH.out).lt)).dr _).trans (Below.modd hB3 g (Nat.le_of_lt (HS.out).lt))).trans hM⟩
          · go_wp2
            go_quiet (fail)
            go_wp2_with (go_at_call 107; (with_reducible refine (c107 _ _).mono ?_); rintro e w3 ⟨rfl, hB3⟩)
            go_roundw
            case rel => exact ⟨k, by omega, by omega, by go_num, ((HB.out).trans (Dr.below (Dr.here _ _) _)).trans (Below.mono hB3 (HB.out).size), by rw [HI.out, sgn, hcn.out]; simp only [hl]; rfl⟩
            case measure => simp [intOf]
end Go.Proofs.YtagcfgoofiibfaaGreatDoor
namespace Go.Proofs.YtagcfgoofiibfaaGreatDoor
open Go.RowKit

/-- behind based -/
def ScBased (g : Nat) (s : ByteArray) (i : Nat) (tb : Value) (ps : List Tk) (ys : List (Nat × Nat)) (w : World) (e : Ending) (w' : World) : Prop :=
  if baseF s i = 0 then e = .returned (.bool false) ∧ Dr w w'
  else match basedF s i with
    | .ok p => e = .returned (.bool true) ∧ SC g s p.en tb (ps ++ [p]) ys w' ∧ Modd g w w'
    | .error er => e = .panicked [{ v := .iface 134 (.agg #[.int .i64 (i : Int), .int .i64 er]), recovered := false }] ∧ Modd g w w'

/-- the base that a letter stands for -/
def swF (b : Int) : Int := if b = 98 ∨ b = 66 then 2 else if b = 111 ∨ b = 79 then 8 else if b = 104 ∨ b = 72 then 16 else 0
theorem swF_base (s : ByteArray) (i : Nat) (h : bt s i = 92) : baseF s i = if swF (bt s (i + 1)) = 0 then 0 else if dgt (bt s (i + 2)) = true ∨ (swF (bt s (i + 1)) = 16 ∧ 0 ≤ wrth (bt s (i + 2))) then swF (bt s (i + 1)) else 0 := by
  unfold baseF swF
  rw [if_neg (by simp [h])]
  by_cases a1 : bt s (i + 1) = 98 ∨ bt s (i + 1) = 66
  · simp [a1]
  by_cases a2 : bt s (i + 1) = 111 ∨ bt s (i + 1) = 79
  · simp [a1, a2]
  by_cases a3 : bt s (i + 1) = 104 ∨ bt s (i + 1) = 72
  · simp [a1, a2, a3]
  · simp [a1, a2, a3]

theorem cnt_pos2 (s : ByteArray) (i : Nat) (h : bt s i = 92) (hb : baseF s i ≠ 0) (hi : i < s.size) : i + 2 < s.size ∧ i + 2 + cnt rnb s (i + 2) ≤ s.size := by
  have h2 : i + 2 < s.size := by
    by_cases h3 : i + 2 < s.size
    · exact h3
    · exfalso
      have h4 := bt_out s (i + 2) (by omega)
      rw [swF_base s i h, h4] at hb
      have e1 : dgt 0 = false := by decide
      have e2 : ¬ (0 ≤ wrth 0) := by decide
      simp [e1, e2] at hb
  have := cnt_le rnb s (i + 2)
  omega

/-- a base, and a byte behind it that is a digit to it, or likely one -/
def gB (c b : Int) : Bool := !(c == 0) && (dgt b || (c == 16 && decide (0 ≤ wrth b)))
theorem swF_gB (s : ByteArray) (i : Nat) (h : bt s i = 92) : baseF s i = if gB (swF (bt s (i + 1))) (bt s (i + 2)) then swF (bt s (i + 1)) else 0 := by
  rw [swF_base s i h]
  unfold gB
  by_cases h0 : swF (bt s (i + 1)) = 0
  · simp [h0]
  · rw [if_neg h0]
    congr 1
    simp [h0]
theorem SC.heap {g : Nat} {s : ByteArray} {i : Nat} {tb : Value} {ps : List Tk} {ys : List (Nat × Nat)} {w W : World} (H : SC g s i tb ps ys w) (h : W.heap = w.heap) : SC g s i tb ps ys W := by
  obtain ⟨vo, vc, xs, h1, h2⟩ := H
  refine ⟨vo, vc, xs, ⟨by rw [h]; exact h1.blk, ownsRow_blocks h1.ro fun k _ => by rw [h], ownsRow_blocks h1.rc fun k _ => by rw [h]⟩, ?_⟩
  have : Modd 0 w W → RowsAt W ps xs := fun hm => h2.modd hm
  clear h1
  induction ps generalizing xs with
  | nil => exact h2
  | cons t ts ih =>
    obtain ⟨dv, zs, a1, a2, a3⟩ := h2
    exact ⟨dv, zs, ownsRow_blocks a1 fun k _ => by rw [h], a2, ih zs a3 fun hm => a3.modd hm⟩

/-- a panic in the midst of a region that draws: for go_region_with -/
theorem any_stop (P : Program) (G : Prop) (w : World) (h : wpAny P .any #[] (fun _ _ _ => G) 0 #[] { tmps := #[], defers := [] } w) : G := h.2

theorem c194v (b : Int) (w : World) (v : Bool) (h : dgt b = v) : Calls Tryz.prog 194 #[.int .u8 b] w fun e w' => e = .returned (.bool v) ∧ w = w' := h ▸ c194 b w

set_option maxRecDepth 100000 in
set_option maxHeartbeats 3200000 in
theorem c156 (h195 : C195) (g : Nat) (s : ByteArray) (i : Nat) (tb : Value) (ps : List Tk) (ys : List (Nat × Nat)) (w : World)
    (H : SC g s i tb ps ys w) (hi : i < s.size) (hp : ps.length ≤ i) (hsz : s.size ≤ 1073741824) :
    Calls Tryz.prog 156 #[.pointer (some ⟨g, 0, none⟩)] w (ScBased g s i tb ps ys w) := by
  unfold C195 at h195
  have h195 := Lib.hid h195
  have hs := H.hs
  have ha := H.ha
  have HH := Lib.hid H
  have hsD : ∀ n, (w.drewN n).cell? ⟨g, 0, none⟩ = some (.string s) := fun _ => hs
  have haD : ∀ n, (w.drewN n).cell? ⟨g, 1, none⟩ = some (.int .i64 (i : Int)) := fun _ => ha
  have hle := cnt_le rnb s (i + 2)
  clear H
  by_cases h1 : bt s i = 92
  · have h1' : (bt s i != 92) = false := by simp [h1]
    have h1 := Lib.hid h1
    go_enter Tryz.func156, Tryz.ntmps156
    go_upto_block 0 with (go_at_call 153; first | ((with_reducible refine (c153L g s i 0 i 0 _ (by omega) (by omega) (by first | exact hs | exact hsD _) (by first | exact ha | exact haD _) (by omega) (by omega) (by omega)).mono ?_); rintro e w' ⟨rfl, n1, rfl⟩) | ((with_reducible refine (c153L g s i 1 (i + 1) 1 _ (by omega) (by omega) (by first | exact hs | exact hsD _) (by first | exact ha | exact haD _) (by omega) (by omega) (by omega)).mono ?_); rintro e w' ⟨rfl, n1, rfl⟩) | ((with_reducible refine (c153L g s i 2 (i + 2) 2 _ (by omega) (by omega) (by first | exact hs | exact hsD _) (by first | exact ha | exact haD _) (by omega) (by omega) (by omega)).mono ?_); rintro e w' ⟨rfl, n1, rfl⟩))
    go_cut [3] (fun s3 wx => s3 = .int .i64 (swF (bt s (i + 1))) ∧ Dr w wx)
    case first =>
      rcases f1 : (bt s (i + 1) == 98) with _ | _
      rotate_left
      · go_wp2
        go_meet
        exact ⟨by simp at f1; simp [swF, f1], Dr.here _ _⟩
      rcases f2 : (bt s (i + 1) == 66) with _ | _
      rotate_left
      · go_wp2
        go_meet
        exact ⟨by simp at f2; simp [swF, f2], Dr.here _ _⟩
      rcases f3 : (bt s (i + 1) == 111) with _ | _
      rotate_left
      · go_wp2
        go_meet
        exact ⟨by simp at f3; simp [swF, f3], Dr.here _ _⟩
      rcases f4 : (bt s (i + 1) == 79) with _ | _
      rotate_left
      · go_wp2
        go_meet
        exact ⟨by simp at f4; simp [swF, f4], Dr.here _ _⟩
      rcases f5 : (bt s (i + 1) == 104) with _ | _
      rotate_left
      · go_wp2
        go_meet
        exact ⟨by simp at f5; simp [swF, f5], Dr.here _ _⟩
      rcases f6 : (bt s (i + 1) == 72) with _ | _
      rotate_left
      · go_wp2
        go_meet
        exact ⟨by simp at f6; simp [swF, f6], Dr.here _ _⟩
      go_wp2
      go_meet
      exact ⟨by simp at f1 f2 f3 f4 f5 f6; simp [swF, f1, f2, f3, f4, f5, f6], Dr.here _ _⟩
    case rest =>
      obtain ⟨rfl, hdr⟩ := hcut
      obtain ⟨k, rfl⟩ := hdr
      obtain ⟨c, hc⟩ : ∃ c, swF (bt s (i + 1)) = c := ⟨_, rfl⟩
      rw [hc]
      replace hc := Lib.hid hc
      have q0 : IntKind.i64.wrap ((i : Int) + 2) = (i : Int) + 2 := IntWalk.i64_in _ (by omega)
      have q1 : IntKind.i64.wrap ((i : Int) + 2 + (cnt rnb s (i + 2) : Int)) = (i : Int) + 2 + (cnt rnb s (i + 2) : Int) := IntWalk.i64_in _ (by omega)
      have q2 : ((i : Int) + 2).toNat = i + 2 := by omega
      have q3 : ((i : Int) + 2 + (cnt rnb s (i + 2) : Int)).toNat = i + 2 + cnt rnb s (i + 2) := by omega
      have q4 : (0 : Int) ≤ (i : Int) + 2 := by omega
      have q5 : (i : Int) + 2 ≤ (i : Int) + 2 + (cnt rnb s (i + 2) : Int) := by omega
      have q7 : IntKind.i64.wrap ((cnt rnb s (i + 2) : Int) + 2) = (cnt rnb s (i + 2) : Int) + 2 := IntWalk.i64_in _ (by omega)
      go_upto_region 15 with (go_at_call 153; (with_reducible refine (c153L g s i 2 (i + 2) 2 _ (by omega) (by omega) (by first | exact hs | exact hsD _) (by first | exact ha | exact haD _) (by omega) (by omega) (by omega)).mono ?_); rintro e w' ⟨rfl, n1, rfl⟩)
      go_cut [43] (fun s43 wx => ∃ v : Bool, s43 = .bool v ∧ v = !gB c (bt s (i + 2)) ∧ Dr w wx)
      case first =>
        rcases f0 : (c == 0) with _ | _
        · rcases hd : dgt (bt s (i + 2)) with _ | _
          · rcases f16 : (c != 16) with _ | _
            · rcases hw : decide (wrth (bt s (i + 2)) < 0) with _ | _
              · go_wp2_with (first | (go_at_call 194; (with_reducible refine (c194v _ _ _ (by exact hd)).mono ?_); rintro e w' ⟨rfl, rfl⟩) | (go_at_call 196; (with_reducible refine (c196 _ (bt_lo _ _) (bt_hi _ _) _).mono ?_); rintro e w' ⟨rfl, rfl⟩))
                go_meet
                exact ⟨_, rfl, by simp at f16 hw; simp [gB, hd, f16, hw], Dr.here _ _⟩
              · go_wp2_with (first | (go_at_call 194; (with_reducible refine (c194v _ _ _ (by exact hd)).mono ?_); rintro e w' ⟨rfl, rfl⟩) | (go_at_call 196; (with_reducible refine (c196 _ (bt_lo _ _) (bt_hi _ _) _).mono ?_); rintro e w' ⟨rfl, rfl⟩))
                go_meet
                exact ⟨_, rfl, by simp at f16 hw; simp [gB, hd, f16, hw], Dr.here _ _⟩
            · go_wp2_with (first | (go_at_call 194; (with_reducible refine (c194v _ _ _ (by exact hd)).mono ?_); rintro e w' ⟨rfl, rfl⟩) | (go_at_call 196; (with_reducible refine (c196 _ (bt_lo _ _) (bt_hi _ _) _).mono ?_); rintro e w' ⟨rfl, rfl⟩))
              go_meet
              exact ⟨_, rfl, by simp at f16; simp [gB, hd, f16], Dr.here _ _⟩
          · go_wp2_with (first | (go_at_call 194; (with_reducible refine (c194v _ _ _ (by exact hd)).mono ?_); rintro e w' ⟨rfl, rfl⟩) | (go_at_call 196; (with_reducible refine (c196 _ (bt_lo _ _) (bt_hi _ _) _).mono ?_); rintro e w' ⟨rfl, rfl⟩))
            go_meet
            exact ⟨_, rfl, by simp [gB, hd, f0], Dr.here _ _⟩
        · go_wp2_with (first | (go_at_call 194; (with_reducible refine (c194v _ _ _ (by exact hd)).mono ?_); rintro e w' ⟨rfl, rfl⟩) | (go_at_call 196; (with_reducible refine (c196 _ (bt_lo _ _) (bt_hi _ _) _).mono ?_); rintro e w' ⟨rfl, rfl⟩))
          go_meet
          exact ⟨_, rfl, by simp [gB, f0], Dr.here _ _⟩
      case rest =>
        obtain ⟨v, rfl, hv0, hdr⟩ := hcut
        obtain ⟨k, rfl⟩ := hdr
        rcases hg : gB c (bt s (i + 2)) with _ | _
        · rw [hg] at hv0
          subst hv0
          go_wp2
          go_ret
          unfold ScBased
          rw [if_pos (by rw [swF_gB s i h1.out, hc.out, hg]; rfl)]
          exact ⟨rfl, Dr.here _ _⟩
        · rw [hg] at hv0
          subst hv0
          have hgood : Hid (baseF s i = c) := by
            show _ = _
            rw [swF_gB s i h1.out, hc.out, hg]; rfl
          have hc0 : Hid (c ≠ 0) := by
            intro h0; rw [h0] at hg; exact absurd hg (by simp [gB])
          have hc4 : Hid (c = 2 ∨ c = 8 ∨ c = 10 ∨ c = 16) := by
            have h5 : c = 0 ∨ c = 2 ∨ c = 8 ∨ c = 16 := by rw [← hc.out]; unfold swF; (repeat' split) <;> simp
            have := hc0.out
            show _ ∨ _
            omega
          have hsn := cnt_pos2 s i h1.out (by rw [hgood.out]; exact hc0.out) hi
          have q6 : (i : Int) + 2 + (cnt rnb s (i + 2) : Int) ≤ (s.size : Int) := by omega
          have hex := Lib.hid (ext_size s (i + 2) (cnt rnb s (i + 2)) (by omega))
          rcases hv : valF (s.extract (i + 2) (i + 2 + cnt rnb s (i + 2))) c with _ | d
          · replace hv := Lib.hid hv
            go_wp2_with (go_at_call 150; (with_reducible refine (c150L 154 _ p154 g s i 2 (i + 2) 2 _ (by omega) (by omega) (by first | exact hs | exact hsD _) (by first | exact ha | exact haD _) (by omega) (by omega) (by omega)).mono ?_); rintro e w' ⟨rfl, n2, rfl⟩)
            go_region_with ((first | (go_at_call 195; (with_reducible refine (h195.out g i _ c _ hc4.out (by first | exact ha | exact haD _ | (with_unfolding_all exact ha)) (by rw [hex.out]; omega)).mono ?_); rintro e w' hI; rw [hv.out] at hI; obtain ⟨rfl, hB⟩ := hI; refine any_stop Tryz.prog _ w ?_)))
            all_goals
              refine ⟨rfl, ?_⟩
              unfold ScBased
              rw [if_neg (by rw [hgood.out]; exact hc0.out)]
              unfold basedF
              rw [hgood.out, hv.out]
              exact ⟨rfl, ((Modd.refl _ _).dr _).trans (Below.modd hB g (Nat.le_of_lt (HH.out).lt))⟩
          · replace hv := Lib.hid hv
            go_wp2_with (go_at_call 150; (with_reducible refine (c150L 154 _ p154 g s i 2 (i + 2) 2 _ (by omega) (by omega) (by first | exact hs | exact hsD _) (by first | exact ha | exact haD _) (by omega) (by omega) (by omega)).mono ?_); rintro e w' ⟨rfl, n2, rfl⟩)
            go_region_with ((first | (go_at_call 195; (with_reducible refine (h195.out g i _ c _ hc4.out (by first | exact ha | exact haD _ | (with_unfolding_all exact ha)) (by rw [hex.out]; omega)).mono ?_); rintro e w' hI; rw [hv.out] at hI; obtain ⟨⟨dv, rfl, hd5⟩, hB⟩ := hI; have hd5 := Lib.hid hd5) | (go_at_call 158; (with_reducible refine (c158L g s i _ ps ys _ _ _ d (cnt rnb s (i + 2) + 2) _ _ (by omega) (SC.below (SC.heap HH.out (by with_unfolding_all rfl)) hB) hd5.out (by omega) (by omega) (by omega)).mono ?_); rintro e w5 ⟨rfl, hS, hM⟩)))
            all_goals go_wp2
            all_goals
              go_ret
              unfold ScBased
              rw [if_neg (by rw [hgood.out]; exact hc0.out)]
              unfold basedF
              rw [hgood.out, hv.out]
              exact ⟨rfl, hS, (((Modd.refl _ _).dr _).trans (Below.modd hB g (Nat.le_of_lt (HH.out).lt))).trans hM⟩
  · have h1' : (bt s i != 92) = true := by simp [h1]
    have h1 := Lib.hid h1
    go_enter Tryz.func156, Tryz.ntmps156
    go_wp2_with (go_at_call 153; (with_reducible refine (c153L g s i 0 i 0 _ (by omega) (by omega) (by first | exact hs | exact hsD _) (by first | exact ha | exact haD _) (by omega) (by omega) (by omega)).mono ?_); rintro e w' ⟨rfl, n1, rfl⟩)
    go_ret
    unfold ScBased
    rw [if_pos (by unfold baseF; rw [if_pos h1.out])]
    exact ⟨rfl, Dr.here _ _⟩
end Go.Proofs.YtagcfgoofiibfaaGreatDoor
