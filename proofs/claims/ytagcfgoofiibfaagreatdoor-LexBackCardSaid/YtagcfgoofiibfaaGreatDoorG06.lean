/- The lexer and what it reaches: part 6 of 41: C1, C2. -/
import Derived.Test.YtagcfgoofiibfaaGreatDoorG03
import Derived.Test.YtagcfgoofiibfaaGreatDoorG04
set_option linter.unusedVariables false
set_option linter.unusedSimpArgs false
namespace Go.Proofs.YtagcfgoofiibfaaGreatDoor
open Go.RowKit

theorem c192 (i e0 : Int) (w : World) : Calls Tryz.prog 192 #[.int .i64 i, .int .i64 e0] w fun e w' => e = .panicked [{ v := .iface 134 (.agg #[.int .i64 i, .int .i64 e0]), recovered := false }] ∧ w = w' := by
  go_enter Tryz.func192, Tryz.ntmps192
  go_wp2
  exact ⟨rfl, rfl, rfl⟩

theorem p151 : PredU8 151 (fun b => b != 10) := ⟨enters_of Tryz.func151 (by kernel_rfl) rfl, fun b w _ _ => c151 b w⟩
theorem p159 : PredU8 159 (fun b => b == 45) := ⟨enters_of Tryz.func159 (by kernel_rfl) rfl, fun b w _ _ => c159 b w⟩
theorem p160 : PredU8 160 (fun b => b == 61) := ⟨enters_of Tryz.func160 (by kernel_rfl) rfl, fun b w _ _ => c160 b w⟩
theorem p154 : PredU8 154 rnb := ⟨enters_of Tryz.func154 (by kernel_rfl) rfl, fun b w h0 h1 => c154 b h0 h1 w⟩
theorem p193 : PredU8 193 ltr := ⟨enters_of Tryz.func193 (by kernel_rfl) rfl, fun b w h0 h1 => c193 b h0 h1 w⟩
theorem p194 : PredU8 194 dgt := ⟨enters_of Tryz.func194 (by kernel_rfl) rfl, fun b w h0 h1 => c194 b w⟩

/-- the scanner goes on -/
theorem Scn.step {g : Nat} {s : ByteArray} {i : Nat} {tb vo vc : Value} {m : Nat} {xs : List Value} {c : Nat} {ys : List Value} {w : World} (H : Scn g s i tb vo vc m xs c ys w) (j : Nat) {z : Int} (hz : z = (j : Int)) :
    Scn g s j tb vo vc m xs c ys (w.setCell ⟨g, 1, none⟩ (.int .i64 z)) ∧ Modd g w (w.setCell ⟨g, 1, none⟩ (.int .i64 z)) := by
  have b2 := heap_setCell_same w g 1 _ _ (.int .i64 z) H.blk
  refine ⟨⟨by rw [b2, hz]; rfl, ownsRow_setCell_below H.ro (by simp) _, ownsRow_setCell_below H.rc (by simp) _⟩, (Modd.refl g w).setCell (Nat.le_refl _) (fun cc hcc => ?_) _⟩
  have := H.blk
  simp only [this] at hcc; injection hcc with hcc; injection hcc with _ hcc; exact absurd hcc (by decide)

theorem Scn.dr {g : Nat} {s : ByteArray} {i : Nat} {tb vo vc : Value} {m : Nat} {xs : List Value} {c : Nat} {ys : List Value} {w : World} (H : Scn g s i tb vo vc m xs c ys w) (n : Nat) : Scn g s i tb vo vc m xs c ys (w.drewN n) := ⟨H.blk, H.ro, H.rc⟩
theorem Modd.dr {g : Nat} {a w : World} (h : Modd g a w) (n : Nat) : Modd g a (w.drewN n) := h.trans ⟨Dr.below (Dr.here _ _) _, fun _ _ h => h⟩

theorem c149s (g : Nat) (s pre : ByteArray) (i : Nat) (w : World) (hs : w.cell? ⟨g, 0, none⟩ = some (.string s)) (ha : w.cell? ⟨g, 1, none⟩ = some (.int .i64 (i : Int)))
    (hle : i ≤ s.size) (hsz : s.size ≤ 140737488355328) :
    Calls Tryz.prog 149 #[.pointer (some ⟨g, 0, none⟩), .string pre] w fun e w' => e = .returned (.bool (sees s i pre)) ∧ Dr w w' :=
  c149 g s pre i w hs ha hle hsz

/-- behind a step of the scanner that may end in an error -/
def ScnTo (g : Nat) (s : ByteArray) (r : Except (Int × Int) Nat) (tb vo vc : Value) (m : Nat) (xs : List Value) (c : Nat) (ys : List Value) (w : World) (e : Ending) (w' : World) : Prop :=
  match r with
  | .ok j => e = .returned (.tuple #[]) ∧ Scn g s j tb vo vc m xs c ys w' ∧ Modd g w w'
  | .error (a, er) => e = .panicked [{ v := .iface 134 (.agg #[.int .i64 a, .int .i64 er]), recovered := false }] ∧ Modd g w w'

def insTo (s : ByteArray) (from_ : Nat) (o : Option Nat) : Except (Int × Int) Nat := match o with | some j => .ok j | none => .error ((from_ : Int), 22)

set_option maxRecDepth 100000 in
set_option maxHeartbeats 3200000 in
theorem c152 (g : Nat) (s : ByteArray) (i0 : Nat) (tb vo vc : Value) (m : Nat) (xs : List Value) (c : Nat) (ys : List Value) (w : World)
    (H : Scn g s i0 tb vo vc m xs c ys w) (hi : i0 ≤ s.size) (hsz : s.size ≤ 140737488355328) :
    Calls Tryz.prog 152 #[.pointer (some ⟨g, 0, none⟩)] w (ScnTo g s (insTo s i0 (insA s i0 0)) tb vo vc m xs c ys w) := by
  have ha0 := H.ha
  have HH := Lib.hid H
  clear H
  go_enter Tryz.func152, Tryz.ntmps152
  go_wp2
  clear ha0
  go_loopw [3] (fun d wr => ∃ (i : Nat) (z : Int), i ≤ s.size ∧ i0 ≤ i ∧ d = .int .i64 z ∧ -(i : Int) ≤ z ∧ z ≤ (i : Int) ∧ Scn g s i tb vo vc m xs c ys wr ∧ Modd g w wr ∧ insA s i0 0 = insA s i z)
    (fun _ wr => s.size + 1 - (intOf ((wr.cell? ⟨g, 1, none⟩).getD undef)).toNat)
  case atStart => exact ⟨i0, 0, hi, Nat.le_refl _, rfl, by omega, by omega, HH.out, Modd.refl _ _, rfl⟩
  case round =>
    obtain ⟨i, z, hi1, hi2, rfl, hz1, hz2, HS, HM, HI⟩ := hrel
    have hs := HS.hs
    have ha := HS.ha
    have hf := HS.hf 1
    have HIn := Lib.hid HI
    have HSn := Lib.hid HS
    have HMn := Lib.hid HM
    clear HI HS HM
    have q1 : IntKind.i64.wrap ((i : Int) + 1) = (i : Int) + 1 := IntWalk.i64_in _ (by omega)
    have q2 : IntKind.i64.wrap ((i : Int) + 2) = (i : Int) + 2 := IntWalk.i64_in _ (by omega)
    have q3 : IntKind.i64.wrap (z + 1) = z + 1 := IntWalk.i64_in _ (by omega)
    have q4 : IntKind.i64.wrap (z - 1) = z - 1 := IntWalk.i64_in _ (by omega)
    rcases h1 : sees s i ⟨#[40, 42]⟩ with _ | _
    · rcases h2 : sees s i ⟨#[42, 41]⟩ with _ | _
      · by_cases h3 : i < s.size
        · have h3' : decide ((s.size : Int) ≤ (i : Int)) = false := by simp; omega
          go_wp2_with (go_at_call 149; refine (c149s g s _ i _ (by exact hs) (by exact ha) hi1 hsz).mono ?_; rintro e w' ⟨rfl, n1, rfl⟩)
          go_quiet (fail)
          go_wp2
          go_roundw
          case rel =>
            have hst := fun n => ((HSn.out).dr n).step (i + 1) (z := (i : Int) + 1) (by omega)
            refine ⟨i + 1, z, by omega, by omega, rfl, by omega, by omega, (hst _).1, ((HMn.out).dr _).trans (hst _).2, ?_⟩
            rw [HIn.out, insA_eq s i z hi1, h1, h2]; simp; omega
          case measure =>
            have hst := fun n => ((HSn.out).dr n).step (i + 1) (z := (i : Int) + 1) (by omega)
            rw [(hst _).1.ha, ha]; simp [intOf]; omega
        · have h3' : decide ((s.size : Int) ≤ (i : Int)) = true := by simp; omega
          go_wp2_with (go_at_call 149; refine (c149s g s _ i _ (by exact hs) (by exact ha) hi1 hsz).mono ?_; rintro e w' ⟨rfl, n1, rfl⟩)
          go_quiet (fail)
          go_wp2_with (go_at_call 192; refine (c192 _ _ _).mono ?_; rintro e w' ⟨rfl, rfl⟩)
          refine ⟨rfl, ?_⟩
          rw [HIn.out, insA_eq s i z hi1, h1, h2, if_neg (by simp), if_neg (by simp), if_pos (by omega)]
          exact ⟨rfl, (HMn.out).dr _⟩
      · have hl1 := sees_len s i _ 1 rfl h2
        by_cases hz : z = 1
        · subst hz
          go_wp2_with (go_at_call 149; refine (c149s g s _ i _ (by exact hs) (by exact ha) hi1 hsz).mono ?_; rintro e w' ⟨rfl, n1, rfl⟩)
          go_end0
          have hst := fun n => ((HSn.out).dr n).step (i + 2) (z := (i : Int) + 2) (by omega)
          rw [HIn.out, insA_eq s i _ hi1, h1, h2]
          exact ⟨rfl, (hst _).1, ((HMn.out).dr _).trans (hst _).2⟩
        · have hz' : (z - 1 == 0) = false := by simp; omega
          go_wp2_with (go_at_call 149; refine (c149s g s _ i _ (by exact hs) (by exact ha) hi1 hsz).mono ?_; rintro e w' ⟨rfl, n1, rfl⟩)
          go_roundw
          case rel =>
            have hst := fun n => ((HSn.out).dr n).step (i + 2) (z := (i : Int) + 2) (by omega)
            refine ⟨i + 2, z - 1, by omega, by omega, rfl, by omega, by omega, (hst _).1, ((HMn.out).dr _).trans (hst _).2, ?_⟩
            rw [HIn.out, insA_eq s i z hi1, h1, h2]; simp [hz]
          case measure =>
            have hst := fun n => ((HSn.out).dr n).step (i + 2) (z := (i : Int) + 2) (by omega)
            rw [(hst _).1.ha, ha]; simp [intOf]; omega
    · have hl1 := sees_len s i _ 1 rfl h1
      go_wp2_with (go_at_call 149; refine (c149s g s _ i _ (by exact hs) (by exact ha) hi1 hsz).mono ?_; rintro e w' ⟨rfl, n1, rfl⟩)
      go_roundw
      case rel =>
        have hst := fun n => ((HSn.out).dr n).step (i + 2) (z := (i : Int) + 2) (by omega)
        refine ⟨i + 2, z + 1, by omega, by omega, by go_num, by omega, by omega, (hst _).1, ((HMn.out).dr n1).trans (hst _).2, ?_⟩
        rw [HIn.out, insA_eq s i z hi1, h1]; rfl
      case measure =>
        have hst := fun n => ((HSn.out).dr n).step (i + 2) (z := (i : Int) + 2) (by omega)
        rw [(hst _).1.ha, ha]; simp [intOf]; omega
end Go.Proofs.YtagcfgoofiibfaaGreatDoor
namespace Go.Proofs.YtagcfgoofiibfaaGreatDoor
open Go.RowKit

theorem Tryz.info124 : (Tryz.prog.info? 124).map (fun i => (i.zero, i.size, i.bytes)) = some (some (.agg #[.int .i64 0, .int .i64 0]), 2, 16) := by kernel_rfl
theorem Tryz.underlying98 : Tryz.prog.underlying 98 = some (.slice 124) := by kernel_rfl

theorem c148v (b : Int) (w : World) (v : Bool) (h : blk b = v) : Calls Tryz.prog 148 #[.int .u8 b] w fun e w' => e = .returned (.bool v) ∧ w = w' := h ▸ c148 b w

/-- behind an append to the comments -/
theorem Scn.comEnd {g : Nat} {s : ByteArray} {i : Nat} {tb vo vc : Value} {m : Nat} {xs : List Value} {c : Nat} {ys : List Value} {w : World} (H : Scn g s i tb vo vc m xs c ys w)
    {w0 w1 : World} (hb : Below w.heap.size w w0) (hg : w0.grownBy w1 vc.ownBlock) {gg cap k : Nat} {ns : List Value}
    (hown : w1.ownsRow (g + 1) 124 2 (.slice (some ⟨gg, 0, none⟩) k cap) k ns) :
    Scn g s i tb vo (.slice (some ⟨gg, 0, none⟩) k cap) m xs k ns (w1.setCell ⟨g, 4, none⟩ (.slice (some ⟨gg, 0, none⟩) k cap)) ∧
    Modd g w (w1.setCell ⟨g, 4, none⟩ (.slice (some ⟨gg, 0, none⟩) k cap)) := by
  have lg := H.lt
  have hn : some g ≠ vc.ownBlock := by intro h; have := H.rc.lt g h.symm; omega
  have hs0 := hb.size
  have b1 : w1.heap[g]? = some (.cells #[.string s, .int .i64 (i : Int), tb, vo, vc] 100 (0, 0)) := by rw [hg.block g (by omega) hn, hb.block g lg]; exact H.blk
  have b2 := heap_setCell_same w1 g 4 _ _ (.slice (some ⟨gg, 0, none⟩) k cap) b1
  have ro0 := H.ro.kept hb.grownBy (by rcases h : vo.ownBlock with _ | q <;> simp)
  have hap := rows_apart H.rc H.ro (by decide)
  refine ⟨⟨by rw [b2]; rfl, ?_, ?_⟩, ?_⟩
  · exact ownsRow_setCell_below (ro0.kept hg hap) (by simp) _
  · exact ownsRow_setCell_below hown (by simp) _
  · have m0 : Modd g w w0 := Below.modd hb g (by omega)
    have m1 : Modd g w0 w1 := World.grownBy.modd hg (by omega) (fun q hq => by have := H.rc.lt q hq; omega) (fun q hq cc hcc => by
      obtain ⟨c1, h1⟩ := ownsRow_elem H.rc hq
      have hlq := lt_of_blk h1
      rw [hb.block q hlq, h1] at hcc
      injection hcc with hcc; injection hcc with _ hcc; exact absurd hcc (by decide))
    refine (m0.trans m1).setCell (Nat.le_refl _) (fun cc hcc => ?_) _
    · simp only [b1] at hcc; injection hcc with hcc; injection hcc with _ hcc; exact absurd hcc (by decide)

/-- behind skip -/
def ScnSkip (g : Nat) (s : ByteArray) (r : Except Nat (Nat × List (Nat × Nat))) (tb vo : Value) (m : Nat) (xs : List Value) (w : World) (e : Ending) (w' : World) : Prop :=
  match r with
  | .ok (j, ys) => e = .returned (.tuple #[]) ∧ (∃ vc, Scn g s j tb vo vc m xs ys.length (spanCells ys) w') ∧ Modd g w w'
  | .error a => e = .panicked [{ v := .iface 134 (.agg #[.int .i64 (a : Int), .int .i64 22]), recovered := false }] ∧ Modd g w w'

set_option maxRecDepth 100000 in
set_option maxHeartbeats 3200000 in
theorem c102 (g : Nat) (s : ByteArray) (i0 : Nat) (tb vo vc0 : Value) (m : Nat) (xs : List Value) (ys0 : List (Nat × Nat)) (w : World)
    (H : Scn g s i0 tb vo vc0 m xs ys0.length (spanCells ys0) w) (hi : i0 ≤ s.size) (hy0 : ys0.length ≤ i0) (hsz : s.size ≤ 1073741824) :
    Calls Tryz.prog 102 #[.pointer (some ⟨g, 0, none⟩)] w (ScnSkip g s (skpA s i0 ys0) tb vo m xs w) := by
  obtain ⟨ii, hi0, hz0, hz1, hz2⟩ := info_parts Tryz.info124
  have HH := Lib.hid H
  clear H
  go_enter Tryz.func102, Tryz.ntmps102
  go_wp2
  go_loopw [] (fun wr => ∃ (i : Nat) (vc : Value) (ys : List (Nat × Nat)), i ≤ s.size ∧ ys.length ≤ i ∧ Scn g s i tb vo vc m xs ys.length (spanCells ys) wr ∧ Modd g w wr ∧ skpA s i0 ys0 = skpA s i ys)
    (fun wr => s.size + 1 - (intOf ((wr.cell? ⟨g, 1, none⟩).getD undef)).toNat)
  case atStart => exact ⟨i0, vc0, ys0, hi, hy0, HH.out, Modd.refl _ _, rfl⟩
  case round =>
    obtain ⟨i, vc, ys, hi1, hi2, HS, HM, HI⟩ := hrel
    have hs := HS.hs
    have ha := HS.ha
    have hf := HS.hf 1
    have hc := HS.hc
    have HIn := Lib.hid HI
    have HSn := Lib.hid HS
    have HMn := Lib.hid HM
    clear HI HS HM
    have q1 : IntKind.i64.wrap ((i : Int) + 1) = (i : Int) + 1 := IntWalk.i64_in _ (by omega)
    by_cases h0 : i < s.size
    · have h0' : (i : Int) < (s.size : Int) := by omega
      have hbt := Lib.hid (bt_get s i h0)
      rcases hb : blk ((s[i]'h0).toNat : Int) with _ | _
      · rcases h1 : sees s i ⟨#[92, 42]⟩ with _ | _
        · rcases h2 : sees s i ⟨#[40, 42]⟩ with _ | _
          · go_wp2
            go_quiet (fail)
            go_wp2
            go_quiet ((go_at_call 148; exact quiet_eq2 (c148v _ _ _ hb)))
            go_wp2_with (first | (go_at_call 149; refine (c149s g s _ i _ (by exact hs) (by exact ha) hi1 (by omega)).mono ?_; rintro e w' ⟨rfl, n1, rfl⟩) | (go_at_call 152; refine (c152 g s i tb vo vc m xs _ _ _ ((HSn.out).dr _) hi1 (by omega)).mono ?_; rintro e w' hI))
            go_end0
            rw [HIn.out, skpA_eq, if_neg (by omega), ← hbt.out, hb, h1, h2]
            exact ⟨rfl, ⟨_, (HSn.out).dr _⟩, (HMn.out).dr _⟩
          · rcases hq : insA s i 0 with _ | j
            · have hq := Lib.hid hq
              go_wp2
              go_quiet (fail)
              go_wp2
              go_quiet ((go_at_call 148; exact quiet_eq2 (c148v _ _ _ hb)))
              go_wp2_with (first | (go_at_call 149; refine (c149s g s _ i _ (by exact hs) (by exact ha) hi1 (by omega)).mono ?_; rintro e w' ⟨rfl, n1, rfl⟩) | (go_at_call 152; refine (c152 g s i tb vo vc m xs _ _ _ ((HSn.out).dr _) hi1 (by omega)).mono ?_; rintro e w' hI; rw [hq.out] at hI; obtain ⟨rfl, hI2⟩ := hI))
              refine ⟨rfl, ?_⟩
              rw [HIn.out, skpA_eq, if_neg (by omega), ← hbt.out, hb, h1, h2, hq.out]
              exact ⟨rfl, ((HMn.out).dr _).trans hI2⟩
            · have hjj := insA_bd s i 0 j hi1 hq
              have hq := Lib.hid hq
              go_wp2
              go_quiet (fail)
              go_wp2
              go_quiet ((go_at_call 148; exact quiet_eq2 (c148v _ _ _ hb)))
              go_wp2_with (first | (go_at_call 149; refine (c149s g s _ i _ (by exact hs) (by exact ha) hi1 (by omega)).mono ?_; rintro e w' ⟨rfl, n1, rfl⟩) | (go_at_call 152; refine (c152 g s i tb vo vc m xs _ _ _ ((HSn.out).dr _) hi1 (by omega)).mono ?_; rintro e W hI; rw [hq.out] at hI; obtain ⟨rfl, HS2, hI3⟩ := hI; have HM2 := ((HMn.out).dr _).trans hI3; clear hI3))
              clear hs ha hf hc
              have hown := HS2.rc
              have ha2 := HS2.ha
              have hc2 := HS2.hc
              have hf2 := HS2.hf 4
              have lg := HS2.lt
              have hnb : vc.ownBlock ≠ some g := by intro h; have := hown.lt g h; omega
              have HS3 := Lib.hid HS2
              have HM3 := Lib.hid HM2
              clear HS2 HM2
              go_region_law
              ((refine step_append_lies _ (by rfl) _ _ _ (by rfl) (g + 1) 124 ii _ 2 16 Tryz.underlying98 hi0 hz0 hz1 hz2 rfl (by omega) vc ys.length (spanCells ys) (by rfl) ((hown.alloc _).drew) ⟨W.heap.size, 0, none⟩ 1 1 [.int .i64 (i : Int), .int .i64 (j : Int)] (by rfl) (by rfl) (World.news_of_block (cs := #[.int .i64 (i : Int), .int .i64 (j : Int)]) (t := 124) (fr := (0, 0)) (heap_alloc_new W _)) (by simp [Value.oneCell']) (by omega) (by unfold maxLen; omega) (by omega) (by simp; omega) (W.heap.size + 1) (by simp) ?_
                intro gg cap w1 hown1 hgrow hat hlt
                have k0 := hgrow.cell_far ⟨g, 4, none⟩ (by simp; omega) (Ne.symm hnb)
                have k1 := hgrow.cell_far ⟨g, 1, none⟩ (by simp; omega) (Ne.symm hnb)
                have k2 := hgrow.frozen_far ⟨g, 4, none⟩ (by simp; omega) (Ne.symm hnb)
                simp [*, World.cell?_alloc_some, frozen?_alloc_cells] at k0 k1 k2))

              all_goals
                have HE := (HS3.out).comEnd (((Below.refl _ _).alloc (Nat.le_refl _) _).drew) hgrow hown1
                clear hown1 hgrow
                go_wp2
                go_roundw
                case rel =>
                  refine ⟨_, _, ys ++ [(i, _)], ?_, ?_, by rw [spanCells_snoc, List.length_append]; exact HE.1, (HM3.out).trans HE.2, ?_⟩
                  · omega
                  · simp; omega
                  · rw [HIn.out, skpA_eq, if_neg (by omega), ← hbt.out, hb, h1, h2, hq.out]; rfl
                case measure => rw [HE.1.ha, (HSn.out).ha]; simp [intOf]; omega
        · have hcn := Lib.hid (cnt_yes (fun b => b != 10) s i h0 (by rw [sees_bt s i _ 92 [42] rfl h1]; decide))
          have hle := cnt_le (fun b => b != 10) s i
          have q5 : IntKind.i64.wrap ((i : Int) + (cnt (fun b => b != 10) s i : Int)) = (i : Int) + (cnt (fun b => b != 10) s i : Int) := IntWalk.i64_in _ (by omega)
          go_wp2
          go_quiet (fail)
          go_wp2
          go_quiet ((go_at_call 148; exact quiet_eq2 (c148v _ _ _ hb)))
          go_wp2_with (first | (go_at_call 149; refine (c149s g s _ i _ (by exact hs) (by exact ha) hi1 (by omega)).mono ?_; rintro e w' ⟨rfl, n1, rfl⟩) | (go_at_call 152; refine (c152 g s i tb vo vc m xs _ _ _ ((HSn.out).dr _) hi1 (by omega)).mono ?_; rintro e w' hI))
          go_region_with ((go_at_call 150; refine (c150 151 _ p151 g s i 0 _ (by exact hs) (by exact ha) (by omega) (by omega) (by omega)).mono ?_; rintro e w' ⟨rfl, n5, rfl⟩))
          all_goals
            go_wp2
            have hst := fun n => ((HSn.out).dr n).step (i + cnt (fun b => b != 10) s i) (z := (i : Int) + (cnt (fun b => b != 10) s i : Int)) (by omega)
            generalize hW : World.setCell _ ⟨g, 1, none⟩ _ = W
            have HS2 : Scn g s (i + cnt (fun b => b != 10) s i) tb vo vc m xs ys.length (spanCells ys) W := by rw [← hW]; exact (hst _).1
            have HM2 : Modd g w W := by rw [← hW]; exact ((HMn.out).dr _).trans (hst _).2
            clear hW hst
            clear hs ha hf hc
            have hown := HS2.rc
            have ha2 := HS2.ha
            have hc2 := HS2.hc
            have hf2 := HS2.hf 4
            have lg := HS2.lt
            have hnb : vc.ownBlock ≠ some g := by intro h; have := hown.lt g h; omega
            have HS3 := Lib.hid HS2
            have HM3 := Lib.hid HM2
            clear HS2 HM2
            go_region_law
            ((refine step_append_lies _ (by rfl) _ _ _ (by rfl) (g + 1) 124 ii _ 2 16 Tryz.underlying98 hi0 hz0 hz1 hz2 rfl (by omega) vc ys.length (spanCells ys) (by rfl) ((hown.alloc _).drew) ⟨W.heap.size, 0, none⟩ 1 1 [.int .i64 (i : Int), .int .i64 ((i + cnt (fun b => b != 10) s i : Nat) : Int)] (by rfl) (by rfl) (World.news_of_block (cs := #[.int .i64 (i : Int), .int .i64 ((i + cnt (fun b => b != 10) s i : Nat) : Int)]) (t := 124) (fr := (0, 0)) (heap_alloc_new W _)) (by simp [Value.oneCell']) (by omega) (by unfold maxLen; omega) (by omega) (by simp; omega) (W.heap.size + 1) (by simp) ?_
              intro gg cap w1 hown1 hgrow hat hlt
              have k0 := hgrow.cell_far ⟨g, 4, none⟩ (by simp; omega) (Ne.symm hnb)
              have k1 := hgrow.cell_far ⟨g, 1, none⟩ (by simp; omega) (Ne.symm hnb)
              have k2 := hgrow.frozen_far ⟨g, 4, none⟩ (by simp; omega) (Ne.symm hnb)
              simp [*, World.cell?_alloc_some, frozen?_alloc_cells] at k0 k1 k2))

            all_goals
              have HE := (HS3.out).comEnd (((Below.refl _ _).alloc (Nat.le_refl _) _).drew) hgrow hown1
              clear hown1 hgrow
              go_wp2
              go_roundw
              case rel =>
                refine ⟨_, _, ys ++ [(i, _)], ?_, ?_, by rw [spanCells_snoc, List.length_append]; exact HE.1, (HM3.out).trans HE.2, ?_⟩
                · omega
                · have := hcn.out; simp; omega
                · rw [HIn.out, skpA_eq, if_neg (by omega), ← hbt.out, hb, h1]; rfl
              case measure => rw [HE.1.ha, (HSn.out).ha]; simp [intOf]; have := hcn.out; omega
      · go_wp2
        go_quiet (fail)
        go_wp2
        go_quiet ((go_at_call 148; exact quiet_eq2 (c148v _ _ _ hb)))
        go_wp2
        have hst := fun n => ((HSn.out).dr n).step (i + 1) (z := (i : Int) + 1) (by omega)
        go_roundw
        case rel =>
          refine ⟨i + 1, vc, ys, by omega, by omega, (hst _).1, ((HMn.out).dr _).trans (hst _).2, ?_⟩
          rw [HIn.out, skpA_eq, if_neg (by omega), ← hbt.out, hb]; rfl
        case measure => rw [(hst _).1.ha, ha]; simp [intOf]; omega
    · have h0' : decide ((i : Int) < (s.size : Int)) = false := by simp; omega
      go_wp2
      go_quiet (fail)
      go_wp2
      go_end0
      rw [HIn.out, skpA_eq, if_pos (by omega)]
      exact ⟨rfl, ⟨_, (HSn.out).dr _⟩, (HMn.out).dr _⟩
end Go.Proofs.YtagcfgoofiibfaaGreatDoor
