/- The lexer and what it reaches: part 25 of 41: U4. -/
import Derived.Test.YtagcfgoofiibfaaGreatDoorG24
set_option linter.unusedVariables false
set_option linter.unusedSimpArgs false
namespace Go.Proofs.YtagcfgoofiibfaaGreatDoor
open Go Go.RowKit Go.ChangeMaps

theorem Tryz.underlying37 : Tryz.prog.underlying 37 = some (.slice 3) := by kernel_rfl
theorem limbsZ : ∀ f, limbsF f 0 = []
  | 0 => rfl
  | f + 1 => by simp [limbsF]
theorem limbsP (f n : Nat) (h : 0 < n) : limbsF (f + 1) n = ((n % 1000000000 : Nat) : Int) :: limbsF f (n / 1000000000) := by simp only [limbsF]; rw [if_neg (by omega)]

/-- the state of FromInt's loop -/
structure FiL (n : Nat) (w : World) (ds : List Int) (r : Nat) (v : Value) (wr : World) : Prop where
  e : limbs n = ds ++ limbsF (45 - ds.length) r
  l : ds.length ≤ 3
  r0 : ds.length = 0 → r ≤ 9223372036854775807
  r1 : ds.length = 1 → r ≤ 9223372036
  r2 : ds.length = 2 → r ≤ 9
  r3 : ds.length = 3 → r = 0
  row : wr.ownsRow (w.heap.size + 1) 3 1 v ds.length (ds.map (Value.int .i64))
  bk : wr.heap[w.heap.size]? = some (.cells #[.bool false, .slice none 0 0] 39 (0, 0))
  b : Below w.heap.size w wr
theorem FiL.step {n : Nat} {w : World} {ds : List Int} {r : Nat} {v : Value} {wr : World} (h : FiL n w ds r v wr) (hr : 0 < r) (v' : Value) (wr' : World)
    (hrow : wr'.ownsRow (w.heap.size + 1) 3 1 v' (ds.length + 1) ((ds ++ [((r : Int) % 1000000000)]).map (Value.int .i64))) (hbk : wr'.heap[w.heap.size]? = some (.cells #[.bool false, .slice none 0 0] 39 (0, 0))) (hb : Below w.heap.size w wr') :
    FiL n w (ds ++ [((r : Int) % 1000000000)]) (r / 1000000000) v' wr' := by
  have hl := h.l
  have h0 := h.r0
  have h1 := h.r1
  have h2 := h.r2
  have h3 := h.r3
  have hlen : (ds ++ [((r : Int) % 1000000000)]).length = ds.length + 1 := by simp
  refine ⟨?_, by rw [hlen]; omega, by rw [hlen]; omega, by rw [hlen]; omega, by rw [hlen]; omega, by rw [hlen]; omega, by rw [hlen]; exact hrow, hbk, hb⟩
  rw [hlen, h.e, show 45 - ds.length = (45 - (ds.length + 1)) + 1 by omega, limbsP _ _ hr]
  have e1 : (((r % 1000000000 : Nat) : Int)) = (r : Int) % 1000000000 := by omega
  rw [e1]; simp

set_option maxRecDepth 100000 in
set_option maxHeartbeats 3200000 in
theorem c78 (n : Nat) (w : World) (hn : n ≤ 9223372036854775807) :
    Calls Tryz.prog 78 #[.int .i64 (n : Int)] w fun e w' => ∃ dv, e = .returned (.agg #[.bool false, dv]) ∧ IntsUp w.heap.size w' dv (limbs n) ∧ Below w.heap.size w w' := by
  obtain ⟨i0, hi0, hz0, hz1, hz2⟩ := info_parts Tryz.info3
  have h0 : decide ((n : Int) < 0) = false := by simp
  go_enter Tryz.func78, Tryz.ntmps78
  go_wp2
  go_loopw [0, 4] (fun s0 s4 wr => ∃ (ds : List Int) (r : Nat), s0 = .int .i64 (r : Int) ∧ FiL n w ds r s4 wr)
    (fun s0 _ _ => (intOf s0).toNat)
  case atStart =>
    exact ⟨[], n, rfl, ⟨rfl, by simp, fun _ => hn, by simp, by simp, by simp, World.ownsRow_nil _ _ _ _, blk_new w _ rfl _, (Below.refl _ _).alloc (Nat.le_refl _) _⟩⟩
  case round =>
    obtain ⟨ds, r, rfl, hF⟩ := hrel
    have hrn : r ≤ 9223372036854775807 := by
      have := hF.l
      have := hF.r0
      have := hF.r1
      have := hF.r2
      have := hF.r3
      omega
    have hdl := hF.l
    have HF := Lib.hid hF
    clear hF hn h0
    rcases Nat.eq_zero_or_pos r with rfl | hr
    · have hrow := HF.out.row
      obtain ⟨a2, cap2, rfl⟩ := row_form hrow
      have hbk := HF.out.bk
      have kc0 : wr.cell? ⟨w.heap.size, 0, none⟩ = some (.bool false) := (by rw [cell_of_row _ _ _ _ _ _ hbk]; rfl)
      have kc1 : wr.cell? ⟨w.heap.size, 1, none⟩ = some (.slice none 0 0) := (by rw [cell_of_row _ _ _ _ _ _ hbk]; rfl)
      have kf : ∀ j, wr.frozen? ⟨w.heap.size, j, none⟩ = false := (fun j => frozen_of_row _ _ _ _ _ hbk)
      clear hrow hbk
      go_wp2
      refine bodyPost_ret (v := .agg #[.bool false, .slice a2 ds.length cap2]) (by simp [results, Tryz.results78, go_sem, kc0, kc1]) rfl ?_
      have e1 := (HF.out.b.setCell (p := ⟨w.heap.size, 0, none⟩) (Nat.le_refl _) (.bool false)).setCell (p := ⟨w.heap.size, 1, none⟩) (Nat.le_refl _) (.slice a2 ds.length cap2)
      have e2 : limbs n = ds := by rw [HF.out.e, limbsZ, List.append_nil]
      refine ⟨_, rfl, ?_, e1⟩
      rw [e2]
      exact Go.Joins.ownsRow_le (ownsRow_setCell_below (ownsRow_setCell_below HF.out.row (by simp) _) (by simp) _) (by omega)
    · have hrz : (0 : Int) < (r : Int) := by omega
      have hrz2 : ¬ (r : Int) = 0 := by omega
      have hrz3 : ((r : Int) != 0) = true := by simpa using hrz2
      have q1 : 0 ≤ (r : Int) % 1000000000 := by omega
      have q2 : (r : Int) % 1000000000 < 1000000000 := by omega
      have q4 : ¬ ((r : Int) % 1000000000 < 0) := by omega
      go_wp2_with (at_builtin; refine wpList_append_lies _ rfl _ _ _ rfl (w.heap.size + 1) 3 i0 _ 1 8 Tryz.underlying37 hi0 hz0 hz1 hz2 rfl (by omega) _ ds.length (ds.map (Value.int .i64)) rfl ((HF.out.row).alloc _) ⟨wr.heap.size, 0, none⟩ 1 1 [.int .i64 ((r : Int) % 1000000000)] rfl rfl (World.news_of_block (cs := #[.int .i64 ((r : Int) % 1000000000)]) (t := 3) (fr := (0, 0)) (heap_alloc_new _ _)) (by simp [Value.oneCell']) (by omega) (by unfold maxLen; omega) (by omega) (by have := (HF.out.b).size; have := lt_of_blk HF.out.bk; simp; omega) _ rfl ?_; intro gg cap1 w1 hown1 hgrow hat hlt)
      have hgrow' : (wr.alloc (.cells #[.int .i64 ((r : Int) % 1000000000)] 3)).grownBy w1 u4.ownBlock := hgrow
      go_roundw
      case rel =>
        refine ⟨_, r / 1000000000, by simp, HF.out.step hr _ _ (by simpa using hown1) ?_ ?_⟩
        · exact (hgrow'.block _ (by simp; exact Nat.lt_succ_of_lt (lt_of_blk HF.out.bk)) (fun q => by have := (HF.out.row.lt _ q.symm).1; omega)).trans (blk_alloc HF.out.bk _)
        · exact (HF.out.b.alloc HF.out.b.size _).grown hgrow' (HF.out.b.alloc HF.out.b.size _).size (fun k hk => by have := (HF.out.row.lt k hk).1; omega)
      case measure => simp [intOf]; omega

set_option maxHeartbeats 800000 in
theorem c55 (s : ByteArray) (w : World) : Calls Tryz.prog 55 #[.string s] w fun e w' => e = .returned (tokV ⟨5, s, [], 0, 0, 0, 0⟩ (.slice none 0 0)) ∧ Below w.heap.size w w' := by
  go_enter Tryz.func55, Tryz.ntmps55
  go_wp2
  refine bodyPost_ret (v := tokV ⟨5, s, [], 0, 0, 0, 0⟩ (.slice none 0 0)) (by simp [results, Tryz.results55, go_sem, tokV]) rfl ⟨rfl, ?_⟩
  repeat (refine Below.setCell ?_ (by simp) _)
  exact (Below.refl _ _).alloc (Nat.le_refl _) _
set_option maxHeartbeats 800000 in
theorem c56 (s : ByteArray) (w : World) : Calls Tryz.prog 56 #[.string s] w fun e w' => e = .returned (tokV ⟨1, s, [], 0, 0, 0, 0⟩ (.slice none 0 0)) ∧ Below w.heap.size w w' := by
  go_enter Tryz.func56, Tryz.ntmps56
  go_wp2
  refine bodyPost_ret (v := tokV ⟨1, s, [], 0, 0, 0, 0⟩ (.slice none 0 0)) (by simp [results, Tryz.results56, go_sem, tokV]) rfl ⟨rfl, ?_⟩
  repeat (refine Below.setCell ?_ (by simp) _)
  exact (Below.refl _ _).alloc (Nat.le_refl _) _
set_option maxRecDepth 100000 in
set_option maxHeartbeats 1600000 in
theorem c36 (n : Nat) (w : World) (hn : n ≤ 9223372036854775807) : Calls Tryz.prog 36 #[.int .i64 (n : Int)] w fun e w' => ∃ a cp, e = .returned (tokV ⟨2, ByteArray.empty, limbs n, 0, 0, 0, 0⟩ (.slice a (limbs n).length cp)) ∧ IntsUp w.heap.size w' (.slice a (limbs n).length cp) (limbs n) ∧ Below w.heap.size w w' := by
  go_enter Tryz.func36, Tryz.ntmps36
  go_wp2_with (go_at_call 78; ((with_reducible refine (c78 n _ hn).mono ?_); rintro e w1 ⟨dv, rfl, hi, hb⟩; obtain ⟨a1, cp1, rfl⟩ := row_form hi; have HI := Lib.hid hi; have hbk : w1.heap[w.heap.size]? = some (.cells #[.int .i64 0, .string ByteArray.empty, .bool false, .slice none 0 0, .int .i64 0, .int .i64 0, .int .i64 0, .int .i64 0] 41 (0, 0)) := ((hb.block w.heap.size (by simp)).trans (blk_new _ _ rfl _)); have HB := Lib.hid hb; have k0 : w1.cell? ⟨w.heap.size, 0, none⟩ = some (.int .i64 0) := (by rw [cell_of_row _ _ _ _ _ _ hbk]; rfl); have k1 : w1.cell? ⟨w.heap.size, 1, none⟩ = some (.string ByteArray.empty) := (by rw [cell_of_row _ _ _ _ _ _ hbk]; rfl); have k2 : w1.cell? ⟨w.heap.size, 2, none⟩ = some (.bool false) := (by rw [cell_of_row _ _ _ _ _ _ hbk]; rfl); have k3 : w1.cell? ⟨w.heap.size, 3, none⟩ = some (.slice none 0 0) := (by rw [cell_of_row _ _ _ _ _ _ hbk]; rfl); have k4 : w1.cell? ⟨w.heap.size, 4, none⟩ = some (.int .i64 0) := (by rw [cell_of_row _ _ _ _ _ _ hbk]; rfl); have k5 : w1.cell? ⟨w.heap.size, 5, none⟩ = some (.int .i64 0) := (by rw [cell_of_row _ _ _ _ _ _ hbk]; rfl); have k6 : w1.cell? ⟨w.heap.size, 6, none⟩ = some (.int .i64 0) := (by rw [cell_of_row _ _ _ _ _ _ hbk]; rfl); have k7 : w1.cell? ⟨w.heap.size, 7, none⟩ = some (.int .i64 0) := (by rw [cell_of_row _ _ _ _ _ _ hbk]; rfl); have kf : ∀ j, w1.frozen? ⟨w.heap.size, j, none⟩ = false := (fun j => frozen_of_row _ _ _ _ _ hbk); have HBK := Lib.hid hbk; clear hi hb hbk))
  refine bodyPost_ret (v := tokV ⟨2, ByteArray.empty, limbs n, 0, 0, 0, 0⟩ (.slice a1 (limbs n).length cp1)) (by simp [results, Tryz.results36, go_sem, tokV, k0, k1, k2, k3, k4, k5, k6, k7]; rfl) rfl ?_
  refine ⟨a1, cp1, rfl, ?_, ?_⟩
  · have hlt := lt_of_blk HBK.out
    have hsz : (w.alloc (Obj.cells #[.int .i64 0, .string ByteArray.empty, .bool false, .slice none 0 0, .int .i64 0, .int .i64 0, .int .i64 0, .int .i64 0] 41)).heap.size = w.heap.size + 1 := by simp
    have h : IntsUp (w.heap.size + 1) w1 (.slice a1 (limbs n).length cp1) (limbs n) := HI.out.le (by simp)
    refine IntsUp.le (B := w.heap.size + 1) ?_ (by omega)
    repeat (refine IntsUp.set ?_ (by omega) _ _)
    exact h
  · repeat (refine Below.setCell ?_ (by simp) _)
    exact ((Below.refl _ _).alloc (Nat.le_refl _) _).trans (HB.out.mono (by simp))
end Go.Proofs.YtagcfgoofiibfaaGreatDoor
