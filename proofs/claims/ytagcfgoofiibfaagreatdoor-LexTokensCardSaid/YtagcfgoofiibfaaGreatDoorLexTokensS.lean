/- The law LexTokensS: its walk and its statement: RB0, RB1, RB2, RB3, RB4, RB5. -/
import Derived.Test.YtagcfgoofiibfaaGreatDoorLexTokensR
import Derived.Test.YtagcfgoofiibfaaGreatDoorG19
import Derived.Maps.AppendAt
import Derived.Laws.AppendOwnNone
import Derived.Laws.OwnMore
import Derived.Deep.RegionHeld3
import Derived.Test.YtagcfgoofiibfaaGreatDoorG25
import Derived.Deep.DeepCutAuto
import Derived.Deep.CutBlock
set_option linter.unusedVariables false
set_option linter.unusedSimpArgs false
set_option linter.unusedVariables false
namespace Go.Proofs.YtagcfgoofiibfaaGreatDoor
open Go Go.RowKit

theorem NoZ.last {l : List Int} (h : NoZ l) (hp : 0 < l.length) : atL l (l.length - 1) ≠ 0 := by
  intro e
  apply h
  rw [List.getLast?_eq_getElem?, atL_get l _ (by omega), e]

set_option maxRecDepth 100000 in
set_option maxHeartbeats 1600000 in
/-- Is -/
theorem c128 (dv : Value) (l : List Int) (w : World) (h : IntsAt w dv l) (hb : InB l) (hz : NoZ l) (hl : l.length ≤ 40) :
    Calls Tryz.prog 128 #[.agg #[.bool false, dv]] w fun e w' => e = .returned (.bool true) ∧ Below w.heap.size w w' := by
  have hB : Below w.heap.size w (w.alloc (.cells #[.bool false, dv] 39)) := (Below.refl _ _).alloc (Nat.le_refl _) _
  rcases h.form with ⟨rfl, rfl⟩ | ⟨g, cap, rfl, hc, hm, hg, hx⟩
  · have HB := Lib.hid hB
    clear hB h hb hz hl
    go_enter Tryz.func128, Tryz.ntmps128
    go_wp2
    go_loopw [4] (fun s4 wr => s4 = .int .i64 0 ∧ wr = w.alloc (.cells #[.bool false, .slice none 0 0] 39)) (fun _ _ => 0)
    case atStart => exact ⟨rfl, rfl⟩
    case round =>
      obtain ⟨rfl, rfl⟩ := hrel
      go_wp2
      go_ret
      exact ⟨rfl, HB.out⟩
  · by_cases hp : 0 < l.length
    · have hlast := hz.last hp
      have hxl := hx (l.length - 1) (by omega)
      obtain ⟨n, hn⟩ : ∃ n, l.length = n + 1 := ⟨l.length - 1, by omega⟩
      rw [hn] at hxl hlast hl hc
      rw [Nat.add_sub_cancel] at hxl hlast
      have e0 : (atL l n == 0) = false := by simpa using hlast
      have q1 : ((n + 1 : Nat) : Int) = (n : Int) + 1 := by omega
      have q2 : ¬ ((40 : Int) < (n : Int) + 1) := by omega
      have q3 : ((n : Int) + 1 == 0) = false := by simp; omega
      have q4 : (0 : Int) < (n : Int) + 1 := by omega
      have q5 : IntKind.i64.wrap ((n : Int) + 1 - 1) = (n : Int) := by rw [show (n : Int) + 1 - 1 = (n : Int) by omega]; exact IntWalk.i64_in _ (by omega)
      have q6 : (0 : Int) ≤ (n : Int) := by omega
      have q7 : (n : Int) < (n : Int) + 1 := by omega
      have q8 : (n : Int) + 1 ≤ (cap : Int) := by omega
      have HX := Lib.hid hx
      have HBB := Lib.hid hb
      have HB := Lib.hid hB
      have HN := Lib.hid hn
      have HG := Lib.hid hg
      rw [hn] at hB ⊢
      obtain ⟨y, hy⟩ : ∃ y, atL l n = y := ⟨_, rfl⟩
      rw [hy] at hxl e0
      clear hx hb hB hn h hz hp hlast hc hy
      go_enter Tryz.func128, Tryz.ntmps128
      go_wp2
      go_loopw [4] (fun s4 wr => ∃ k : Nat, k ≤ n + 1 ∧ s4 = .int .i64 (k : Int) ∧ wr = w.alloc (.cells #[.bool false, .slice (some ⟨g, 0, none⟩) (n + 1) cap] 39)) (fun s4 _ => n + 1 - (intOf s4).toNat)
      case atStart => exact ⟨0, Nat.zero_le _, rfl, rfl⟩
      case round =>
        obtain ⟨k, hk, rfl, rfl⟩ := hrel
        by_cases hlt : k < n + 1
        · have h1 := HX.out k (by rw [HN.out]; exact hlt)
          have h2 := atL_in l k HBB.out
          obtain ⟨z, hz⟩ : ∃ z, atL l k = z := ⟨_, rfl⟩
          rw [hz] at h1 h2
          obtain ⟨z0, z9⟩ := h2
          have y1 : ¬ (z < 0) := by omega
          have y2 : ¬ (1000000000 ≤ z) := by omega
          have y3 : (k : Int) < (n : Int) + 1 := by omega
          have y4 : (0 : Int) ≤ (k : Int) := by omega
          have HLT := Lib.hid hlt
          clear hz hlt
          go_wp2
          go_roundw
          case rel => exact ⟨k + 1, HLT.out, by go_num, by first | rfl | trivial⟩
          case measure => have := HLT.out; simp [intOf]; omega
        · have y3 : ¬ ((k : Int) < (n : Int) + 1) := by omega
          go_wp2
          go_ret
          refine ⟨rfl, ?_⟩
          have := HB.out
          rw [HN.out] at this
          exact this
    · have h0 : l = [] := by rcases l with _ | _; rfl; exact absurd (Nat.succ_pos _) hp
      subst h0
      have HB := Lib.hid hB
      clear hB h hb hz hl hp hx
      go_enter Tryz.func128, Tryz.ntmps128
      go_wp2
      go_loopw [4] (fun s4 wr => s4 = .int .i64 0 ∧ wr = w.alloc (.cells #[.bool false, .slice (some ⟨g, 0, none⟩) 0 cap] 39)) (fun _ _ => 0)
      case atStart => exact ⟨rfl, rfl⟩
      case round =>
        obtain ⟨rfl, rfl⟩ := hrel
        go_wp2
        go_ret
        exact ⟨rfl, HB.out⟩
set_option maxRecDepth 100000 in
/-- Are -/
theorem c204 (d1 d2 : Value) (l1 l2 : List Int) (w : World) (h1 : IntsAt w d1 l1) (h2 : IntsAt w d2 l2) (f1 : InB l1 ∧ NoZ l1 ∧ l1.length ≤ 40) (f2 : InB l2 ∧ NoZ l2 ∧ l2.length ≤ 40) :
    Calls Tryz.prog 204 #[.agg #[.bool false, d1], .agg #[.bool false, d2]] w fun e w' => e = .returned (.bool true) ∧ Below w.heap.size w w' := by
  have C1 := Lib.hid (fun X (hX : Below w.heap.size w X) => c128 d1 l1 X (h1.below hX) f1.1 f1.2.1 f1.2.2)
  have C2 := Lib.hid (fun X (hX : Below w.heap.size w X) => c128 d2 l2 X (h2.below hX) f2.1 f2.2.1 f2.2.2)
  obtain ⟨a1, k1, rfl⟩ := row_form h1
  obtain ⟨a2, k2, rfl⟩ := row_form h2
  have hB : Below w.heap.size w ((w.alloc (.cells #[.bool false, .slice a1 l1.length k1] 39)).alloc (.cells #[.bool false, .slice a2 l2.length k2] 39)) := ((Below.refl _ _).alloc (Nat.le_refl _) _).alloc (by simp) _
  have HB := Lib.hid hB
  have hn1 : ((w.alloc (.cells #[.bool false, .slice a1 l1.length k1] 39)).alloc (.cells #[.bool false, .slice a2 l2.length k2] 39)).heap[w.heap.size + 1]? = some (.cells #[.bool false, .slice a2 l2.length k2] 39 (0, 0)) := by
    have h := heap_alloc_new (w.alloc (.cells #[.bool false, .slice a1 l1.length k1] 39)) (.cells #[.bool false, .slice a2 l2.length k2] 39)
    simpa using h
  have HN1 := Lib.hid hn1
  clear h1 h2 f1 f2 hB hn1
  go_enter Tryz.func204, Tryz.ntmps204
  go_wp2_with (first | (go_at_call 128; ((with_reducible refine (C1.out _ HB.out).mono ?_); rintro e w3 ⟨rfl, hb⟩; have hq : w3.heap[w.heap.size + 1]? = some (.cells #[.bool false, .slice a2 l2.length k2] 39 (0, 0)) := (hb.block _ (lt_of_blk HN1.out)).trans HN1.out; have z0 : w3.cell? ⟨w.heap.size + 1, 0, none⟩ = some (.bool false) := (by rw [cell_of_row _ _ _ _ _ _ hq]; rfl); have z1 : w3.cell? ⟨w.heap.size + 1, 1, none⟩ = some (.slice a2 l2.length k2) := (by rw [cell_of_row _ _ _ _ _ _ hq]; rfl); have HB3 := Lib.hid (HB.out.trans (hb.mono HB.out.size)); clear hb hq)) | (go_at_call 128; ((with_reducible refine (C2.out _ HB3.out).mono ?_); rintro e w4 ⟨rfl, hb⟩; have HB4 := Lib.hid (HB3.out.trans (hb.mono HB3.out.size)); clear hb)))
  go_ret
  exact ⟨rfl, HB4.out⟩
end Go.Proofs.YtagcfgoofiibfaaGreatDoor
set_option linter.unusedVariables false
namespace Go.Proofs.YtagcfgoofiibfaaGreatDoor
open Go Go.RowKit

theorem Tryz.underlying37s : Tryz.prog.underlying 37 = some (.slice 3) := by kernel_rfl
theorem take_atL (l : List Int) (k : Nat) (h : k < l.length) : l.take (k + 1) = l.take k ++ [atL l k] := by
  rw [List.take_add_one, atL_get l k h]; rfl
theorem ints_news {w : World} {g : Nat} {l : List Int} (hx : ∀ j, j < l.length → w.cell? ⟨g, j, none⟩ = some (.int .i64 (atL l j))) (m : Nat) (hm : m ≤ l.length) : ∀ j u, ((l.take m).map (Value.int .i64))[j]? = some u → w.cell? ((⟨g, 0, none⟩ : Addr).add j) = some u := by
  intro j u hu
  rw [List.getElem?_map] at hu
  rcases hq : (l.take m)[j]? with _ | y
  · rw [hq] at hu; cases hu
  · rw [hq] at hu
    injection hu with hu
    have hj : j < m := by
      have := (List.getElem?_eq_some_iff.1 hq).1
      rw [List.length_take] at this; omega
    rw [List.getElem?_take_of_lt hj, atL_get l j (by omega)] at hq
    injection hq with hq
    rw [addr_add, hx j (by omega), ← hu, hq]
theorem ints_one (l : List Int) : ∀ u ∈ l.map (Value.int .i64), u.oneCell' = true := by
  intro u hu
  obtain ⟨x, _, rfl⟩ := List.mem_map.1 hu
  rfl

set_option maxRecDepth 100000 in
set_option maxHeartbeats 3200000 in
/-- shorn -/
theorem c236 (v : Value) (l : List Int) (w : World) (h : IntsAt w v l) (hl : l.length ≤ 100) :
    Calls Tryz.prog 236 #[v] w fun e w' => ∃ v', e = .returned v' ∧ IntsUp w.heap.size w' v' (trimL l) ∧ Below w.heap.size w w' := by
  obtain ⟨ii, hi0, hz0, hz1, hz2⟩ := info_parts Tryz.info3
  rcases h.form with ⟨rfl, rfl⟩ | ⟨g, cap, rfl, hc, hm, hg, hx⟩
  · clear h hl
    go_enter Tryz.func236, Tryz.ntmps236
    go_wp2
    go_loopw [3] (fun s3 wr => s3 = .int .i64 0 ∧ wr = w) (fun _ _ => 0)
    case atStart => exact ⟨rfl, rfl⟩
    case round =>
      obtain ⟨rfl, rfl⟩ := hrel
      go_wp2_with (at_builtin; refine wpList_append_own_none rfl _ _ _ rfl wr.heap.size 3 ii 1 Tryz.underlying37s hi0 _ 0 [] rfl (World.ownsRow_nil _ _ _ _) rfl ?_)
      go_ret
      exact ⟨_, rfl, World.ownsRow_nil _ _ _ _, Below.refl _ _⟩
  · obtain ⟨n, hn⟩ : ∃ n, l.length = n := ⟨_, rfl⟩
    rw [hn] at hc hl ⊢
    have HX := Lib.hid hx
    have HN := Lib.hid hn
    have HG := Lib.hid hg
    have q1 : (n : Int) ≤ (cap : Int) := by omega
    have hcm : (cap : Int) ≤ 9223372036854775807 := by have : (maxLen : Nat) = 9223372036854775807 := rfl; omega
    clear h hn hx hg hm
    go_enter Tryz.func236, Tryz.ntmps236
    go_wp2
    go_loopw [3] (fun s3 wr => ∃ m : Nat, m ≤ n ∧ s3 = .int .i64 (m : Int) ∧ trimL (l.take m) = trimL l ∧ wr = w) (fun s3 _ => (intOf s3).toNat)
    case atStart => exact ⟨n, Nat.le_refl _, rfl, by rw [← HN.out, List.take_length], rfl⟩
    case round =>
      obtain ⟨m, hm, rfl, ht, rfl⟩ := hrel
      have HT := Lib.hid ht
      have hmc : (m : Int) ≤ (cap : Int) := by omega
      have hm0 : (0 : Int) ≤ (m : Int) := by omega
      have hmn : m ≤ cap := by omega
      have HM := Lib.hid hm
      clear ht
      rcases Nat.eq_zero_or_pos m with h0 | hp
      · subst h0
        have h0 : trimL l = [] := by rw [← HT.out]; rfl
        go_wp2
        go_ret
        refine ⟨_, rfl, ?_, Below.refl _ _⟩
        rw [h0]
        exact World.ownsRow_nil _ _ _ _
      · obtain ⟨k, rfl⟩ : ∃ k, m = k + 1 := ⟨m - 1, by omega⟩
        have hkl : k < l.length := by rw [HN.out]; omega
        have hxk := HX.out k hkl
        obtain ⟨y, hy⟩ : ∃ y, atL l k = y := ⟨_, rfl⟩
        rw [hy] at hxk
        have c1 : ((k + 1 : Nat) : Int) = (k : Int) + 1 := by omega
        rw [c1] at hmc hm0 ⊢
        have q2 : IntKind.i64.wrap ((k : Int) + 1 - 1) = (k : Int) := by rw [show (k : Int) + 1 - 1 = (k : Int) by omega]; exact IntWalk.i64_in _ (by omega)
        have q3 : (0 : Int) ≤ (k : Int) := by omega
        have q4 : (k : Int) < (n : Int) := by omega
        have q5 : (0 : Int) < (k : Int) + 1 := by omega
        have q6 : ((k : Int) + 1).toNat = k + 1 := by omega
        have HY := Lib.hid hy
        have HKL := Lib.hid hkl
        clear hy hkl hp
        by_cases h0 : y = 0
        · subst h0
          clear c1
          go_wp2
          go_roundw
          case rel =>
            refine ⟨k, by have := HM.out; omega, by go_num, ?_, by first | rfl | trivial⟩
            rw [← HT.out, take_atL l k HKL.out, HY.out, trimL_snoc0]
          case measure => simp [intOf]
        · have e0 : (y == 0) = false := by simpa using h0
          have hd : trimL (l.take (k + 1)) = l.take (k + 1) := trimL_done _ (by
            unfold NoZ
            rw [take_atL l k HKL.out, HY.out]; simpa using h0)
          have HD := Lib.hid hd
          have H1 := Lib.hid (ints_news HX.out (k + 1) HKL.out)
          have hlen : (l.take (k + 1)).length = k + 1 := by rw [List.length_take]; have := HKL.out; omega
          have HLEN := Lib.hid hlen
          have HMX : Hid (k + 1 ≤ 100) := Lib.hid (by omega)
          clear c1 hd hlen h0
          go_wp2_with (at_builtin; refine wpList_append_own_at _ rfl _ _ _ rfl wr.heap.size 3 ii _ 1 8 Tryz.underlying37s hi0 hz0 hz1 hz2 rfl (by omega) _ 0 [] rfl (World.ownsRow_nil _ _ _ _) ⟨g, 0, none⟩ (k + 1) cap ((l.take (k + 1)).map (Value.int .i64)) rfl (by rw [List.length_map, HLEN.out, Nat.mul_one]) H1.out (ints_one _) (by have := HMX.out; unfold maxLen; omega) (by have := HMX.out; omega) (Nat.le_refl _) ?_; intro v' w' hown hgrow hn1 hn2; have HO := Lib.hid hown; have HGR := Lib.hid hgrow; clear hown hgrow hn1 hn2)
          go_ret
          refine ⟨_, rfl, ?_, (Below.refl _ _).grown HGR.out (Nat.le_refl _) (fun k hk => by cases hk)⟩
          have h2 := HT.out
          rw [HD.out] at h2
          rw [← h2]
          have h3 := HO.out
          rw [Nat.zero_add, List.nil_append] at h3
          show World.ownsRow _ _ _ _ _ (l.take (k + 1)).length _
          rw [HLEN.out]
          exact h3
set_option maxRecDepth 100000 in
set_option maxHeartbeats 1600000 in
/-- made, where the number is small enough -/
theorem c205 (v : Value) (l : List Int) (w : World) (h : IntsAt w v l) (hl : l.length ≤ 100) (h4 : (trimL l).length ≤ 40) :
    Calls Tryz.prog 205 #[.bool false, v] w fun e w' => ∃ dv, e = .returned (.tuple #[.agg #[.bool false, dv], .int .i64 0]) ∧ IntsUp w.heap.size w' dv (trimL l) ∧ Below w.heap.size w w' := by
  obtain ⟨m, hm⟩ : ∃ m, (trimL l).length = m := ⟨_, rfl⟩
  have hB : Below w.heap.size w (w.alloc (.cells #[.bool false, .slice none 0 0] 39)) := (Below.refl _ _).alloc (Nat.le_refl _) _
  have hnb := heap_alloc_new w (.cells #[.bool false, .slice none 0 0] 39)
  have C := Lib.hid (c236 v l (w.alloc (.cells #[.bool false, .slice none 0 0] 39)) (h.below hB) hl)
  obtain ⟨a0, k0, rfl⟩ := row_form h
  have g1 : ¬ ((40 : Int) < (m : Int)) := by omega
  have HM := Lib.hid hm
  have HB := Lib.hid hB
  have HNB := Lib.hid hnb
  clear h hl h4 hm hB hnb
  go_enter Tryz.func205, Tryz.ntmps205
  go_wp2_with (go_at_call 236; ((with_reducible refine C.out.mono ?_); rintro e w3 ⟨v3, rfl, hi, hb⟩; obtain ⟨a3, k3, rfl⟩ := row_form hi; rw [HM.out]; have hq : w3.heap[w.heap.size]? = some (.cells #[.bool false, .slice none 0 0] 39 (0, 0)) := (hb.block _ (lt_of_blk HNB.out)).trans HNB.out; have z0 : w3.cell? ⟨w.heap.size, 0, none⟩ = some (.bool false) := (by rw [cell_of_row _ _ _ _ _ _ hq]; rfl); have z1 : w3.cell? ⟨w.heap.size, 1, none⟩ = some (.slice none 0 0) := (by rw [cell_of_row _ _ _ _ _ _ hq]; rfl); have zf : ∀ j, w3.frozen? ⟨w.heap.size, j, none⟩ = false := (fun j => frozen_of_row _ _ _ _ _ hq); have f0 := zf 0; have f1 := zf 1; have HI := Lib.hid hi; have HBB := Lib.hid hb; clear hi hb hq zf))
  refine bodyPost_ret (v := .tuple #[.agg #[.bool false, .slice a3 m k3], .int .i64 0]) (by simp [results, Tryz.results205, go_sem, z0, z1]) rfl ?_
  refine ⟨_, rfl, ?_, ((HB.out.trans (HBB.out.mono HB.out.size)).setCell (p := ⟨w.heap.size, 0, none⟩) (Nat.le_refl _) (.bool false)).setCell (p := ⟨w.heap.size, 1, none⟩) (Nat.le_refl _) _⟩
  have h1 := HI.out
  rw [HM.out] at h1
  have hlt : w.heap.size < (w.alloc (.cells #[.bool false, .slice none 0 0] 39)).heap.size := by simp
  exact ((h1.set hlt 0 _).set hlt 1 _).le (Nat.le_of_lt hlt)
set_option maxRecDepth 100000 in
set_option maxHeartbeats 1600000 in
/-- .. where it is too large -/
theorem c205no (v : Value) (l : List Int) (w : World) (h : IntsAt w v l) (hl : l.length ≤ 100) (h4 : 40 < (trimL l).length) :
    Calls Tryz.prog 205 #[.bool false, v] w fun e w' => e = .returned (.tuple #[.agg #[.bool false, .slice none 0 0], .int .i64 2]) ∧ Below w.heap.size w w' := by
  obtain ⟨m, hm⟩ : ∃ m, (trimL l).length = m := ⟨_, rfl⟩
  have hB : Below w.heap.size w (w.alloc (.cells #[.bool false, .slice none 0 0] 39)) := (Below.refl _ _).alloc (Nat.le_refl _) _
  have hnb := heap_alloc_new w (.cells #[.bool false, .slice none 0 0] 39)
  have C := Lib.hid (c236 v l (w.alloc (.cells #[.bool false, .slice none 0 0] 39)) (h.below hB) hl)
  obtain ⟨a0, k0, rfl⟩ := row_form h
  have g1 : (40 : Int) < (m : Int) := by omega
  have HM := Lib.hid hm
  have HB := Lib.hid hB
  have HNB := Lib.hid hnb
  clear h hl h4 hm hB hnb
  go_enter Tryz.func205, Tryz.ntmps205
  go_wp2_with (go_at_call 236; ((with_reducible refine C.out.mono ?_); rintro e w3 ⟨v3, rfl, hi, hb⟩; obtain ⟨a3, k3, rfl⟩ := row_form hi; rw [HM.out]; have hq : w3.heap[w.heap.size]? = some (.cells #[.bool false, .slice none 0 0] 39 (0, 0)) := (hb.block _ (lt_of_blk HNB.out)).trans HNB.out; have z0 : w3.cell? ⟨w.heap.size, 0, none⟩ = some (.bool false) := (by rw [cell_of_row _ _ _ _ _ _ hq]; rfl); have z1 : w3.cell? ⟨w.heap.size, 1, none⟩ = some (.slice none 0 0) := (by rw [cell_of_row _ _ _ _ _ _ hq]; rfl); have zf : ∀ j, w3.frozen? ⟨w.heap.size, j, none⟩ = false := (fun j => frozen_of_row _ _ _ _ _ hq); have f0 := zf 0; have f1 := zf 1; have HBB := Lib.hid hb; clear hi hb hq zf))
  refine bodyPost_ret (v := .tuple #[.agg #[.bool false, .slice none 0 0], .int .i64 2]) (by simp [results, Tryz.results205, go_sem, z0, z1]) rfl ?_
  exact ⟨rfl, ((HB.out.trans (HBB.out.mono HB.out.size)).setCell (p := ⟨w.heap.size, 0, none⟩) (Nat.le_refl _) (.bool false)).setCell (p := ⟨w.heap.size, 1, none⟩) (Nat.le_refl _) _⟩
end Go.Proofs.YtagcfgoofiibfaaGreatDoor
set_option linter.unusedVariables false
namespace Go.Proofs.YtagcfgoofiibfaaGreatDoor
open Go Go.RowKit

theorem zeros_made (n : Nat) : (madeCells (Value.int .i64 0).cells (n * 1)).toList = (List.replicate n (0 : Int)).map (Value.int .i64) := by
  apply List.ext_getElem
  · simp [madeCells]
  · intro k h1 h2
    have e : ∀ q : Nat, (#[Value.int .i64 0] : Array Value)[q % 1]! = .int .i64 0 := fun q => by rw [Nat.mod_one]; rfl
    have h3 : (madeCells (Value.int .i64 0).cells (n * 1)).toList[k]? = ((Array.range (n * 1)).toList.map fun q => (#[Value.int .i64 0] : Array Value)[q % 1]!)[k]? := by
      unfold madeCells; rw [Array.toList_map]; rfl
    rw [List.getElem?_eq_getElem h1, List.getElem?_map] at h3
    rw [List.getElem_map, List.getElem_replicate]
    rcases hq : (Array.range (n * 1)).toList[k]? with _ | q
    · rw [hq] at h3; cases h3
    · rw [hq] at h3
      injection h3 with h3
      rw [h3]; exact e q
theorem numL_set : ∀ (O : List Int) (i : Nat) (v : Int), i < O.length → numL (O.set i v) + 1000000000 ^ i * (atL O i).toNat = numL O + 1000000000 ^ i * v.toNat
  | [], i, v, h => by simp at h
  | d :: O, 0, v, h => by
    show numL (v :: O) + 1000000000 ^ 0 * d.toNat = numL (d :: O) + 1000000000 ^ 0 * v.toNat
    simp only [numL, Nat.pow_zero, Nat.one_mul]
    omega
  | d :: O, i + 1, v, h => by
    have ih := numL_set O i v (by simpa using h)
    show numL (d :: O.set i v) + 1000000000 ^ (i + 1) * (atL O i).toNat = numL (d :: O) + 1000000000 ^ (i + 1) * v.toNat
    simp only [numL, Nat.pow_succ]
    have e1 : ∀ x, 1000000000 ^ i * 1000000000 * x = 1000000000 * (1000000000 ^ i * x) := fun x => by rw [Nat.mul_comm (1000000000 ^ i) 1000000000, Nat.mul_assoc]
    rw [e1, e1]
    omega
theorem atL_set (O : List Int) (i j : Nat) (v : Int) (h : i < O.length) : atL (O.set i v) j = if j = i then v else atL O j := by
  unfold atL
  rw [List.getD_eq_getElem?_getD, List.getD_eq_getElem?_getD]
  by_cases e : i = j
  · subst e; rw [List.getElem?_set_self h, if_pos rfl]; rfl
  · rw [List.getElem?_set_ne e, if_neg (fun q => e q.symm)]
theorem InB.set {O : List Int} (h : InB O) (i : Nat) (v : Int) (h0 : 0 ≤ v) (h1 : v < 1000000000) : InB (O.set i v) := by
  intro d hd
  rcases List.mem_or_eq_of_mem_set hd with h2 | h2
  · exact h d h2
  · subst h2; exact ⟨h0, h1⟩
/-- a product with one part, while it is being made in its place -/
structure TimTo (l : List Int) (b : Nat) (i : Nat) (O : List Int) : Prop where
  len : O.length = l.length + 2
  inb : InB O
  z : ∀ j, i < j → atL O j = 0
  v : numL O = numL (l.take i) * b
theorem numL_zeros : ∀ n, numL (List.replicate n 0) = 0
  | 0 => rfl
  | n + 1 => by rw [List.replicate_succ]; simp only [numL, numL_zeros n]; rfl
theorem TimTo.start (l : List Int) (b : Nat) : TimTo l b 0 (List.replicate (l.length + 2) 0) := by
  refine ⟨by simp, fun d hd => ?_, fun j hj => ?_, by rw [numL_zeros]; simp [numL]⟩
  · have := (List.mem_replicate.1 hd).2
    subst this
    exact ⟨Int.le_refl _, by decide⟩
  · unfold atL
    rw [List.getD_eq_getElem?_getD, List.getElem?_replicate]
    split <;> rfl
theorem TimTo.step {l : List Int} {b i : Nat} {O : List Int} (h : TimTo l b i O) (hl : InB l) (hb : b < 1000) (hi : i < l.length) :
    0 ≤ atL O i ∧ atL O i < 1000000000 ∧ 0 ≤ atL l i ∧ atL l i < 1000000000 ∧
    (∀ X R C : Nat, X = (atL O i).toNat + (atL l i).toNat * b → R = X % 1000000000 → C = X / 1000000000 → TimTo l b (i + 1) ((O.set i (R : Int)).set (i + 1) (C : Int)) ∧ C < 1000000000) := by
  have q1 := atL_in O i h.inb
  have q2 := atL_in l i hl
  refine ⟨q1.1, q1.2, q2.1, q2.2, fun X R C hX hR hC => ?_⟩
  have hz := h.z (i + 1) (by omega)
  have hOl := h.len
  have hm : (atL l i).toNat * b ≤ 999999999 * 999 := Nat.mul_le_mul (by omega) (by omega)
  have hR9 : R < 1000000000 := by rw [hR]; exact Nat.mod_lt _ (by decide)
  have hC9 : C < 1000000000 := by omega
  have e1 := numL_set O i (R : Int) (by omega)
  have e2 := numL_set (O.set i (R : Int)) (i + 1) (C : Int) (by rw [List.length_set]; omega)
  rw [atL_set O i (i + 1) _ (by omega), if_neg (by omega), hz] at e2
  have hv := h.v
  refine ⟨⟨by simp [hOl], (h.inb.set i _ (by omega) (by omega)).set (i + 1) _ (by omega) (by omega), fun j hj => ?_, ?_⟩, hC9⟩
  · rw [atL_set _ _ _ _ (by rw [List.length_set]; omega), if_neg (by omega), atL_set _ _ _ _ (by omega), if_neg (by omega)]
    exact h.z j (by omega)
  · rw [numL_take, Nat.add_mul]
    have t1 : ((R : Nat) : Int).toNat = R := by omega
    have t2 : ((C : Nat) : Int).toNat = C := by omega
    have t3 : (0 : Int).toNat = 0 := rfl
    rw [t1] at e1
    rw [t2, t3, Nat.mul_zero, Nat.add_zero, Nat.pow_succ] at e2
    have e3 : 1000000000 ^ i * R + 1000000000 ^ i * 1000000000 * C = 1000000000 ^ i * X := by
      rw [Nat.mul_assoc, ← Nat.mul_add, hR, hC, Nat.mod_add_div]
    have e4 : 1000000000 ^ i * X = 1000000000 ^ i * (atL O i).toNat + 1000000000 ^ i * (atL l i).toNat * b := by
      rw [hX, Nat.mul_add, Nat.mul_assoc]
    omega
theorem TimTo.done {l : List Int} {b : Nat} {O : List Int} (h : TimTo l b l.length O) : numL O = numL l * b := by rw [h.v, List.take_length]
/-- a row of whole numbers, one of which is turned -/
theorem ints_set {w : World} {B g n cap i : Nat} {O : List Int} {u : Int} (h : w.ownsRow B 3 1 (.slice (some ⟨g, 0, none⟩) n cap) n (O.map (Value.int .i64))) : (w.setCell ⟨g, i, none⟩ (.int .i64 u)).ownsRow B 3 1 (.slice (some ⟨g, 0, none⟩) n cap) n ((O.set i u).map (Value.int .i64)) := by
  refine ⟨by rw [List.length_map, List.length_set, ← List.length_map (f := Value.int .i64)]; exact h.1, ?_⟩
  rcases h.2 with ⟨h0, _⟩ | ⟨g', cp, cur, he, hb, hg, hc, hm, hz, ht⟩
  · cases h0
  · injection he with e1 e2 e3
    injection e1 with e1
    injection e1 with e1
    subst e1 e3
    refine .inr ⟨g, cap, cur.setIfInBounds i (.int .i64 u), rfl, hb, heap_setCell_same _ _ _ _ _ _ hg, hc, hm, by rw [Array.size_setIfInBounds]; exact hz, ?_⟩
    rw [List.map_set, ← ht, Array.toList_setIfInBounds, List.take_set]
theorem ints_cells {w : World} {B g n cap : Nat} {O : List Int} (h : w.ownsRow B 3 1 (.slice (some ⟨g, 0, none⟩) n cap) n (O.map (Value.int .i64))) (hn : O.length = n) : g < w.heap.size ∧ B ≤ g ∧ (∀ j, w.frozen? ⟨g, j, none⟩ = false) ∧ ∀ j, j < n → w.cell? ⟨g, j, none⟩ = some (.int .i64 (atL O j)) := by
  rcases h.2 with ⟨h0, _⟩ | ⟨g', cp, cur, he, hb, hg, hc, hm, hz, ht⟩
  · cases h0
  · injection he with e1 e2 e3
    injection e1 with e1
    injection e1 with e1
    subst e1 e3
    refine ⟨lt_of_blk hg, hb, fun j => frozen_of_row _ _ _ _ _ hg, fun j hj => ?_⟩
    have := World.ownsRow.cells h (g := g) rfl j (.int .i64 (atL O j)) (by rw [List.getElem?_map, atL_get O j (by omega)]; rfl)
    rw [addr_add] at this
    exact this

set_option maxRecDepth 100000 in
set_option maxHeartbeats 6400000 in
/-- times, with a number of one part -/
theorem c206 (v1 v2 : Value) (l : List Int) (b : Nat) (w : World) (h1 : IntsAt w v1 l) (h2 : IntsAt w v2 [(b : Int)]) (hb : InB l) (hb9 : b < 1000) (hl : l.length ≤ 40) :
    Calls Tryz.prog 206 #[v1, v2] w fun e w' => ∃ v' O, e = .returned v' ∧ IntsUp w.heap.size w' v' (trimL O) ∧ InB O ∧ O.length ≤ 42 ∧ numL O = numL l * b ∧ Below w.heap.size w w' := by
  obtain ⟨ii, hi0, hz0, hz1, hz2⟩ := info_parts Tryz.info3
  obtain ⟨n, hn⟩ : ∃ n, l.length = n := ⟨_, rfl⟩
  rcases h2.form with ⟨_, h⟩ | ⟨gb, cb, rfl, hcb, hmb, hgb, hxb⟩
  · cases h
  have hb0 : w.cell? ⟨gb, 0, none⟩ = some (.int .i64 (b : Int)) := hxb 0 (by simp)
  obtain ⟨w1, hmk, hrow, hgrow⟩ := run_make_full (P := Tryz.prog) w w.heap.size 37 3 ii (.int .i64 0) 1 Tryz.underlying37s hi0 hz0 hz1 .i64 .i64 (n + 2) (by rw [hz2]; omega) (by unfold maxLen; omega) (Nat.le_refl _)
  rw [zeros_made] at hrow
  have hB1 : Below w.heap.size w w1 := (Below.refl _ _).grown hgrow (Nat.le_refl _) (fun k hk => by cases hk)
  have cn2 : ((n + 2 : Nat) : Int) = (n : Int) + 1 + 1 := by omega
  rw [cn2] at hmk
  have m1 : IntKind.i64.wrap ((n : Int) + 1) = (n : Int) + 1 := IntWalk.i64_in _ (by omega)
  have m2 : IntKind.i64.wrap ((n : Int) + 1 + 1) = (n : Int) + 1 + 1 := IntWalk.i64_in _ (by omega)
  clear cn2
  have H1 := Lib.hid h1
  have HBB := Lib.hid hb
  have HN := Lib.hid hn
  have HROW := Lib.hid hrow
  have HB1 := Lib.hid hB1
  have HB0 := Lib.hid hb0
  have HGB := Lib.hid hgb
  obtain ⟨a1, k1, rfl⟩ := row_form h1
  have hA : 0 < n → ∃ ga, a1 = some ⟨ga, 0, none⟩ ∧ ga < w.heap.size ∧ n ≤ k1 ∧ ∀ j, j < n → w.cell? ⟨ga, j, none⟩ = some (.int .i64 (atL l j)) := fun hp => by
    rcases h1.form with ⟨hh, hl0⟩ | ⟨ga, ca, hh, hca, hma, hga, hxa⟩
    · rw [hl0] at hn; simp at hn; omega
    · injection hh with e1 e2 e3
      subst e1 e3
      rw [hn] at hca hxa
      exact ⟨ga, rfl, hga, hca, hxa⟩
  have HA := Lib.hid hA
  have hn40 : n ≤ 40 := by omega
  rw [hn]
  clear h1 h2 hb hrow hgrow hB1 hb0 hgb hxb hA hn hl H1 hmb hcb
  go_enter Tryz.func206, Tryz.ntmps206
  go_wp2
  go_loopw [6] (fun s6 wr => ∃ (i : Nat) (O : List Int), i ≤ n ∧ s6 = .int .i64 (i : Int) ∧ TimTo l b i O ∧ wr.ownsRow w.heap.size 3 1 (.slice (some ⟨w.heap.size, 0, none⟩) (n + 2) (n + 2)) (n + 2) (O.map (Value.int .i64)) ∧ Below w.heap.size w wr) (fun s6 _ => n - (intOf s6).toNat)
  case atStart => exact ⟨0, _, Nat.zero_le _, rfl, by rw [← HN.out]; exact TimTo.start l b, HROW.out, HB1.out⟩
  case round =>
    obtain ⟨i, O, hi, rfl, hT, hrow, hB⟩ := hrel
    have HT := Lib.hid hT
    have HR := Lib.hid hrow
    have HB := Lib.hid hB
    by_cases hlt : i < n
    · obtain ⟨y0, y1, z0, z1, hst⟩ := hT.step HBB.out hb9 (by rw [HN.out]; exact hlt)
      have hOn : O.length = n + 2 := by rw [hT.len, HN.out]
      obtain ⟨k1', k2, k3, k4⟩ := ints_cells hrow hOn
      have co := k4 i (by omega)
      have co1 := k4 (i + 1) (by omega)
      have hzz := hT.z (i + 1) (by omega)
      rw [hzz] at co1
      have f0 := k3 i
      have f1 := k3 (i + 1)
      obtain ⟨ga, rfl, hga, hnk, hxa⟩ := HA.out (by omega)
      have cl := (hB.cell (p := ⟨ga, i, none⟩) hga).trans (hxa i hlt)
      have cb0 := (hB.cell (p := ⟨gb, 0, none⟩) HGB.out).trans HB0.out
      obtain ⟨o, ho⟩ : ∃ o : Nat, atL O i = (o : Int) := ⟨(atL O i).toNat, by omega⟩
      obtain ⟨y, hy⟩ : ∃ y : Nat, atL l i = (y : Int) := ⟨(atL l i).toNat, by omega⟩
      rw [ho] at co y1 hst
      rw [hy] at cl z1 hst
      obtain ⟨P, hP⟩ : ∃ P, y * b = P := ⟨_, rfl⟩
      have hPb : P ≤ 999999999 * 999 := by rw [← hP]; exact Nat.mul_le_mul (by omega) (by omega)
      obtain ⟨X, hX⟩ : ∃ X, o + P = X := ⟨_, rfl⟩
      obtain ⟨R, hR⟩ : ∃ R, X % 1000000000 = R := ⟨_, rfl⟩
      obtain ⟨C, hC⟩ : ∃ C, X / 1000000000 = C := ⟨_, rfl⟩
      have hst2 := hst X R C (by rw [← hX, ← hP]; simp) hR.symm hC.symm
      have HST := Lib.hid hst2
      have p1 : (y : Int) * (b : Int) = (P : Int) := by rw [← hP]; simp
      have p2 : IntKind.i64.wrap (P : Int) = (P : Int) := IntWalk.i64_in _ (by omega)
      have p3 : (o : Int) + (P : Int) = (X : Int) := by omega
      have p4 : IntKind.i64.wrap (X : Int) = (X : Int) := IntWalk.i64_in _ (by omega)
      have p5 : (X : Int) % 1000000000 = (R : Int) := by omega
      have p6 : (X : Int).tmod 1000000000 = (R : Int) := by rw [Int.tmod_eq_emod_of_nonneg (by omega)]; exact p5
      have p7 : (X : Int) / 1000000000 = (C : Int) := by omega
      have p8 : (X : Int).tdiv 1000000000 = (C : Int) := by rw [Int.tdiv_eq_ediv_of_nonneg (by omega)]; exact p7
      have p9 : IntKind.i64.wrap (R : Int) = (R : Int) := IntWalk.i64_in _ (by omega)
      have p10 : IntKind.i64.wrap (C : Int) = (C : Int) := IntWalk.i64_in _ (by omega)
      have r0 : (0 : Int) ≤ (i : Int) := by omega
      have r1 : (i : Int) < (n : Int) := by omega
      have r2 : (i : Int) < (n : Int) + 2 := by omega
      have r3 : (i : Int) + 1 < (n : Int) + 2 := by omega
      have r4 : (0 : Int) ≤ (i : Int) + 1 := by omega
      have r5 : ((i : Int) + 1).toNat = i + 1 := by omega
      have HON := Lib.hid hOn
      have HLT := Lib.hid hlt
      have HZZ := Lib.hid hzz
      clear hst hst2 hP hPb hX hR hC ho hy y0 y1 z0 z1 hxa hT hB hrow k3 k4 hzz hOn hlt co1 f1
      go_wp2
      go_loopw [7, 8] (fun s7 s8 wq => (s8 = .int .i64 0 ∧ s7 = .int .i64 0 ∧ wq = wr) ∨ (s8 = .int .i64 1 ∧ s7 = .int .i64 (C : Int) ∧ wq.ownsRow w.heap.size 3 1 (.slice (some ⟨w.heap.size, 0, none⟩) (n + 2) (n + 2)) (n + 2) ((O.set i (R : Int)).map (Value.int .i64)) ∧ Below w.heap.size w wq)) (fun _ s8 _ => 1 - (intOf s8).toNat)
      case atStart => exact .inl ⟨rfl, rfl, rfl⟩
      case round =>
        rcases hrel with ⟨rfl, rfl, rfl⟩ | ⟨rfl, rfl, hrow2, hB2⟩
        · go_wp2
          go_quiet (fail)
          go_wp2
          go_roundw
          case rel => exact .inr ⟨rfl, by go_num, ints_set HR.out, (HB.out.trans ((Dr.below (Dr.here _ _) _).mono HB.out.size)).setCell (p := ⟨w.heap.size, i, none⟩) (Nat.le_refl _) _⟩
          case measure => simp [intOf]
        · have hcs := ints_cells hrow2 (by rw [List.length_set]; exact HON.out)
          obtain ⟨_, _, k3, k4⟩ := hcs
          have co1 := k4 (i + 1) (by have := HLT.out; omega)
          rw [atL_set O i (i + 1) _ (by have := HON.out; have := HLT.out; omega), if_neg (by omega), HZZ.out] at co1
          have f1 := k3 (i + 1)
          have HR2 := Lib.hid hrow2
          have HB2 := Lib.hid hB2
          clear hrow2 hB2 k3 k4 co f0 cl cb0
          go_wp2
          go_roundw
          case rel => exact ⟨i + 1, _, by have := HLT.out; omega, by go_num, HST.out.1, ints_set HR2.out, HB2.out.setCell (p := ⟨w.heap.size, i + 1, none⟩) (Nat.le_refl _) _⟩
          case measure => have := HLT.out; simp [intOf]; omega
    · have r1 : ¬ ((i : Int) < (n : Int)) := by omega
      have hin : i = n := by omega
      have hOn : O.length = n + 2 := by rw [hT.len, HN.out]
      have hd : numL O = numL l * b := by
        have h9 := hT
        rw [hin, ← HN.out] at h9
        exact h9.done
      have C36 : Hid (Calls Tryz.prog 236 #[.slice (some ⟨w.heap.size, 0, none⟩) (n + 2) (n + 2)] wr fun e w' => ∃ v', e = .returned v' ∧ IntsUp wr.heap.size w' v' (trimL O) ∧ Below wr.heap.size wr w') := Lib.hid (c236 _ O wr (by
        have h9 : wr.ownsRow 0 3 1 (.slice (some ⟨w.heap.size, 0, none⟩) (n + 2) (n + 2)) (n + 2) (O.map (Value.int .i64)) := Go.Joins.ownsRow_le hrow (Nat.zero_le _)
        rw [← hOn] at h9
        show World.ownsRow _ _ _ _ _ _ _
        rw [← hOn]
        exact h9) (by omega))
      have HD := Lib.hid hd
      have HON := Lib.hid hOn
      have HI := Lib.hid hT.inb
      clear hT hrow hB hlt hin hOn hd
      go_wp2_with (go_at_call 236; ((with_reducible refine C36.out.mono ?_); rintro e w3 ⟨v3, rfl, hi3, hb3⟩; have HI3 := Lib.hid hi3; have HB3 := Lib.hid hb3; clear hi3 hb3))
      go_ret
      exact ⟨_, O, rfl, HI3.out.le HB.out.size, HI.out, by have := HON.out; omega, HD.out, HB.out.trans (HB3.out.mono HB.out.size)⟩
end Go.Proofs.YtagcfgoofiibfaaGreatDoor
set_option linter.unusedVariables false
namespace Go.Proofs.YtagcfgoofiibfaaGreatDoor
open Go Go.RowKit

theorem atL_out (l : List Int) (i : Nat) (h : l.length ≤ i) : atL l i = 0 := by
  unfold atL
  rw [List.getD_eq_getElem?_getD, List.getElem?_eq_none h]; rfl
/-- a slice of whole numbers, where it has some -/
theorem ints_open {w : World} {a : Option Addr} {k n : Nat} {l : List Int} (h : IntsAt w (.slice a l.length k) l) (hn : l.length = n) : 0 < n → ∃ g, a = some ⟨g, 0, none⟩ ∧ g < w.heap.size ∧ n ≤ k ∧ ∀ j, j < n → w.cell? ⟨g, j, none⟩ = some (.int .i64 (atL l j)) := fun hp => by
  rcases h.form with ⟨hh, hl0⟩ | ⟨ga, ca, hh, hca, hma, hga, hxa⟩
  · rw [hl0] at hn; simp at hn; omega
  · injection hh with e1 e2 e3
    subst e1 e3
    rw [hn] at hca hxa
    exact ⟨ga, rfl, hga, hca, hxa⟩

set_option maxRecDepth 100000 in
set_option maxHeartbeats 6400000 in
/-- sum -/
theorem c207 (v1 v2 : Value) (s t : List Int) (w : World) (h1 : IntsAt w v1 s) (h2 : IntsAt w v2 t) (hs : InB s) (ht : InB t) (hls : s.length ≤ 40) (hlt : t.length ≤ 40) :
    Calls Tryz.prog 207 #[v1, v2] w fun e w' => ∃ v' O, e = .returned v' ∧ IntsUp w.heap.size w' v' (trimL O) ∧ InB O ∧ O.length ≤ 42 ∧ numL O = numL s + numL t ∧ Below w.heap.size w w' := by
  obtain ⟨ii, hi0, hz0, hz1, hz2⟩ := info_parts Tryz.info3
  obtain ⟨a1, k1, rfl⟩ := row_form h1
  obtain ⟨a2, k2, rfl⟩ := row_form h2
  obtain ⟨n, hn⟩ : ∃ n, s.length = n := ⟨_, rfl⟩
  obtain ⟨m, hm⟩ : ∃ m, t.length = m := ⟨_, rfl⟩
  have HA1 := Lib.hid (ints_open h1 hn)
  have HA2 := Lib.hid (ints_open h2 hm)
  have HN := Lib.hid hn
  have HM := Lib.hid hm
  have HS := Lib.hid hs
  have HT := Lib.hid ht
  rw [hn] at hls ⊢
  rw [hm] at hlt ⊢
  clear h1 h2 hs ht hn hm
  go_enter Tryz.func207, Tryz.ntmps207
  go_wp2
  go_loopw [5, 6, 7] (fun s5 s6 s7 wr => ∃ (i : Nat) (O : List Int) (c : Nat), i ≤ max n m ∧ s7 = .int .i64 (i : Int) ∧ s6 = .int .i64 (c : Int) ∧ SumTo s t i O c ∧ wr.ownsRow w.heap.size 3 1 s5 O.length (O.map (Value.int .i64)) ∧ Below w.heap.size w wr) (fun _ _ s7 _ => max n m - (intOf s7).toNat)
  case atStart => exact ⟨0, [], 0, Nat.zero_le _, rfl, rfl, SumTo.start s t, World.ownsRow_nil _ _ _ _, Below.refl _ _⟩
  case round =>
    obtain ⟨i, O, c, hi, rfl, rfl, hS, hrow, hB⟩ := hrel
    obtain ⟨a5, k5, rfl⟩ := row_form hrow
    have HSU := Lib.hid hS
    have HR := Lib.hid hrow
    have HB := Lib.hid hB
    have hOl : O.length = i := hS.1
    have hc1 : c ≤ 1 := hS.2.2.1
    by_cases hlm : i < max n m
    · have hst := hS.step HS.out HT.out
      have q1 := atL_in s i HS.out
      have q2 := atL_in t i HT.out
      obtain ⟨x, hx⟩ : ∃ x : Nat, atL s i = (x : Int) := ⟨(atL s i).toNat, by omega⟩
      obtain ⟨y, hy⟩ : ∃ y : Nat, atL t i = (y : Int) := ⟨(atL t i).toNat, by omega⟩
      rw [hx] at q1 hst
      rw [hy] at q2 hst
      obtain ⟨X1, hX1⟩ : ∃ X, c + x = X := ⟨_, rfl⟩
      obtain ⟨X, hX⟩ : ∃ X, X1 + y = X := ⟨_, rfl⟩
      have hxx : (x : Int).toNat + (y : Int).toNat + c = X := by omega
      rw [hxx] at hst
      obtain ⟨R, hR⟩ : ∃ R, X % 1000000000 = R := ⟨_, rfl⟩
      obtain ⟨C, hC⟩ : ∃ C, X / 1000000000 = C := ⟨_, rfl⟩
      rw [hR, hC] at hst
      have HST := Lib.hid hst
      have p1 : (c : Int) + (x : Int) = (X1 : Int) := by omega
      have p2 : IntKind.i64.wrap (X1 : Int) = (X1 : Int) := IntWalk.i64_in _ (by omega)
      have p3 : (X1 : Int) + (y : Int) = (X : Int) := by omega
      have p4 : IntKind.i64.wrap (X : Int) = (X : Int) := IntWalk.i64_in _ (by omega)
      have p5 : (X : Int) % 1000000000 = (R : Int) := by omega
      have p6 : (X : Int).tmod 1000000000 = (R : Int) := by rw [Int.tmod_eq_emod_of_nonneg (by omega)]; exact p5
      have p7 : (X : Int) / 1000000000 = (C : Int) := by omega
      have p8 : (X : Int).tdiv 1000000000 = (C : Int) := by rw [Int.tdiv_eq_ediv_of_nonneg (by omega)]; exact p7
      have p9 : IntKind.i64.wrap (R : Int) = (R : Int) := IntWalk.i64_in _ (by omega)
      have p10 : IntKind.i64.wrap (C : Int) = (C : Int) := IntWalk.i64_in _ (by omega)
      have r0 : (0 : Int) ≤ (i : Int) := by omega
      have r1 : (i : Int) < max (n : Int) (m : Int) := by omega
      have hx0 : n ≤ i → x = 0 := fun h => by have := atL_out s i (by rw [HN.out]; exact h); omega
      have hy0 : m ≤ i → y = 0 := fun h => by have := atL_out t i (by rw [HM.out]; exact h); omega
      have HOL := Lib.hid hOl
      have HLM := Lib.hid hlm
      have hi40 : i < 40 := by omega
      have HI40 := Lib.hid hi40
      have hRow0 : ∀ o, (wr.alloc o).ownsRow w.heap.size 3 1 (.slice a5 O.length k5) O.length (O.map (Value.int .i64)) := fun o => hrow.alloc o
      have HRA := Lib.hid hRow0
      clear hst hR hC hS hrow hxx hOl hlm hRow0 hi40
      by_cases hin : i < n
      · obtain ⟨g1, rfl, hg1, hk1, hc1'⟩ := HA1.out (by omega)
        have e1 := (hB.cell (p := ⟨g1, i, none⟩) hg1).trans (hc1' i hin)
        rw [hx] at e1
        have r2 : (i : Int) < (n : Int) := by omega
        by_cases him : i < m
        · obtain ⟨g2, rfl, hg2, hk2, hc2'⟩ := HA2.out (by omega)
          have e2 := (hB.cell (p := ⟨g2, i, none⟩) hg2).trans (hc2' i him)
          rw [hy] at e2
          have r3 : (i : Int) < (m : Int) := by omega
          clear hB hx hy hX1 hX hx0 hy0 hc1' hc2' hin him
          go_wp2_with (at_builtin; refine wpList_append_own_at _ rfl _ _ _ rfl w.heap.size 3 ii _ 1 8 Tryz.underlying37s hi0 hz0 hz1 hz2 rfl (by omega) _ O.length (O.map (Value.int .i64)) rfl (HRA.out _) ⟨wr.heap.size, 0, none⟩ 1 1 [.int .i64 (R : Int)] rfl rfl (World.news_of_block (cs := #[.int .i64 (R : Int)]) (t := 3) (fr := (0, 0)) (heap_alloc_new _ _)) (by simp [Value.oneCell']) (by have := HOL.out; have := HI40.out; unfold maxLen; omega) (by have := HOL.out; have := HI40.out; omega) (by have := HB.out.size; simp; omega) ?_; intro v' w3 hown hgrow hn1 hn2; have HO := Lib.hid hown; have HG := Lib.hid hgrow; clear hown hgrow hn1 hn2)
          go_roundw
          case rel => exact ⟨i + 1, _, C, by have := HLM.out; omega, by go_num, by go_num, HST.out, by have h := HO.out; rw [List.length_append, List.map_append]; exact h, (HB.out.alloc HB.out.size _).grown HG.out (HB.out.alloc HB.out.size _).size (fun q hq => (HR.out.lt q hq).1)⟩
          case measure => have := HLM.out; simp [intOf]; omega
        · have r3 : ¬ ((i : Int) < (m : Int)) := by omega
          have := hy0 (by omega)
          subst this
          have hXX : X1 = X := by omega
          subst hXX
          clear hB hx hy hX1 hX hx0 hy0 hc1' hin him
          go_wp2_with (at_builtin; refine wpList_append_own_at _ rfl _ _ _ rfl w.heap.size 3 ii _ 1 8 Tryz.underlying37s hi0 hz0 hz1 hz2 rfl (by omega) _ O.length (O.map (Value.int .i64)) rfl (HRA.out _) ⟨wr.heap.size, 0, none⟩ 1 1 [.int .i64 (R : Int)] rfl rfl (World.news_of_block (cs := #[.int .i64 (R : Int)]) (t := 3) (fr := (0, 0)) (heap_alloc_new _ _)) (by simp [Value.oneCell']) (by have := HOL.out; have := HI40.out; unfold maxLen; omega) (by have := HOL.out; have := HI40.out; omega) (by have := HB.out.size; simp; omega) ?_; intro v' w3 hown hgrow hn1 hn2; have HO := Lib.hid hown; have HG := Lib.hid hgrow; clear hown hgrow hn1 hn2)
          go_roundw
          case rel => exact ⟨i + 1, _, C, by have := HLM.out; omega, by go_num, by go_num, HST.out, by have h := HO.out; rw [List.length_append, List.map_append]; exact h, (HB.out.alloc HB.out.size _).grown HG.out (HB.out.alloc HB.out.size _).size (fun q hq => (HR.out.lt q hq).1)⟩
          case measure => have := HLM.out; simp [intOf]; omega
      · have r2 : ¬ ((i : Int) < (n : Int)) := by omega
        have := hx0 (by omega)
        subst this
        have hXX : c = X1 := by omega
        subst hXX
        have him : i < m := by have := HLM.out; omega
        obtain ⟨g2, rfl, hg2, hk2, hc2'⟩ := HA2.out (by omega)
        have e2 := (hB.cell (p := ⟨g2, i, none⟩) hg2).trans (hc2' i him)
        rw [hy] at e2
        have r3 : (i : Int) < (m : Int) := by omega
        clear hB hx hy hX1 hX hx0 hy0 hc2' hin him
        go_wp2_with (at_builtin; refine wpList_append_own_at _ rfl _ _ _ rfl w.heap.size 3 ii _ 1 8 Tryz.underlying37s hi0 hz0 hz1 hz2 rfl (by omega) _ O.length (O.map (Value.int .i64)) rfl (HRA.out _) ⟨wr.heap.size, 0, none⟩ 1 1 [.int .i64 (R : Int)] rfl rfl (World.news_of_block (cs := #[.int .i64 (R : Int)]) (t := 3) (fr := (0, 0)) (heap_alloc_new _ _)) (by simp [Value.oneCell']) (by have := HOL.out; have := HI40.out; unfold maxLen; omega) (by have := HOL.out; have := HI40.out; omega) (by have := HB.out.size; simp; omega) ?_; intro v' w3 hown hgrow hn1 hn2; have HO := Lib.hid hown; have HG := Lib.hid hgrow; clear hown hgrow hn1 hn2)
        go_roundw
        case rel => exact ⟨i + 1, _, C, by have := HLM.out; omega, by go_num, by go_num, HST.out, by have h := HO.out; rw [List.length_append, List.map_append]; exact h, (HB.out.alloc HB.out.size _).grown HG.out (HB.out.alloc HB.out.size _).size (fun q hq => (HR.out.lt q hq).1)⟩
        case measure => have := HLM.out; simp [intOf]; omega
    · have r1 : ¬ ((i : Int) < max (n : Int) (m : Int)) := by omega
      have hd := hS.done (by rw [HN.out]; omega) (by rw [HM.out]; omega)
      have HD := Lib.hid hd
      have HOL := Lib.hid hOl
      have hi40 : i ≤ 40 := by omega
      have HI40 := Lib.hid hi40
      have HRA : Hid (∀ o, (wr.alloc o).ownsRow w.heap.size 3 1 (.slice a5 O.length k5) O.length (O.map (Value.int .i64))) := Lib.hid (fun o => hrow.alloc o)
      have C36 : Hid (∀ (W : World) (v : Value), W.ownsRow w.heap.size 3 1 v (O.length + 1) (O.map (Value.int .i64) ++ [.int .i64 (c : Int)]) → Calls Tryz.prog 236 #[v] W fun e w' => ∃ v', e = .returned v' ∧ IntsUp W.heap.size w' v' (trimL (O ++ [(c : Int)])) ∧ Below W.heap.size W w') := Lib.hid (fun W v hv => c236 v (O ++ [(c : Int)]) W (by
        have h9 := Go.Joins.ownsRow_le hv (Nat.zero_le _)
        show World.ownsRow _ _ _ _ _ _ _
        rw [List.length_append, List.map_append]
        exact h9) (by rw [List.length_append]; simp; omega))
      clear hS hrow hB hlm hd hOl hi40
      go_wp2_with (first | (at_builtin; refine wpList_append_own_at _ rfl _ _ _ rfl w.heap.size 3 ii _ 1 8 Tryz.underlying37s hi0 hz0 hz1 hz2 rfl (by omega) _ O.length (O.map (Value.int .i64)) rfl (HRA.out _) ⟨wr.heap.size, 0, none⟩ 1 1 [.int .i64 (c : Int)] rfl rfl (World.news_of_block (cs := #[.int .i64 (c : Int)]) (t := 3) (fr := (0, 0)) (heap_alloc_new _ _)) (by simp [Value.oneCell']) (by have := HOL.out; have := HI40.out; unfold maxLen; omega) (by have := HOL.out; have := HI40.out; omega) (by have := HB.out.size; simp; omega) ?_; intro v' w3 hown hgrow hn1 hn2; have HO := Lib.hid hown; have HG := Lib.hid hgrow; clear hown hgrow hn1 hn2) | (go_at_call 236; ((with_reducible refine (C36.out _ _ HO.out).mono ?_); rintro e w4 ⟨v4, rfl, hi4, hb4⟩; have HI4 := Lib.hid hi4; have HB4 := Lib.hid hb4; clear hi4 hb4)))
      go_ret
      have hb3 := (HB.out.alloc HB.out.size (.cells #[.int .i64 (c : Int)] 3)).grown HG.out (HB.out.alloc HB.out.size _).size (fun q hq => (HR.out.lt q hq).1)
      exact ⟨_, _, rfl, HI4.out.le hb3.size, HD.out.1, by rw [List.length_append]; have := HOL.out; have := HI40.out; simp; omega, HD.out.2, hb3.trans (HB4.out.mono hb3.size)⟩
end Go.Proofs.YtagcfgoofiibfaaGreatDoor
set_option linter.unusedVariables false
set_option exponentiation.threshold 400
namespace Go.Proofs.YtagcfgoofiibfaaGreatDoor
open Go Go.RowKit

theorem k_big : 1000 < big := by decide
theorem limbs_ok {n : Nat} (h : n < big) : InB (limbs n) ∧ NoZ (limbs n) ∧ (limbs n).length ≤ 40 := ⟨limbs_inB n, limbs_noZ n (Nat.lt_trans h big_lt), limbs_len40 n h⟩
theorem limbs_one {b : Nat} (h0 : 0 < b) (h : b < 1000) : limbs b = [(b : Int)] := by
  have : limbs (numL [(b : Int)]) = [(b : Int)] := limbs_of _ (by intro d hd; simp at hd; omega) (by unfold NoZ; simp; omega) (by simp)
  have e : numL [(b : Int)] = b := by simp [numL]
  rw [e] at this
  exact this
/-- two numbers in boxes, and a third one to be made -/
structure Bx3 (w : World) (d1 d2 r : Value) (W : World) : Prop where
  b1 : W.heap[w.heap.size]? = some (.cells #[.bool false, d1] 39 (0, 0))
  b2 : W.heap[w.heap.size + 1]? = some (.cells #[.bool false, d2] 39 (0, 0))
  b3 : W.heap[w.heap.size + 1 + 1]? = some (.cells #[.bool false, r] 39 (0, 0))
  b : Below w.heap.size w W
theorem Bx3.start (w : World) (d1 d2 r : Value) : Bx3 w d1 d2 r (((w.alloc (.cells #[.bool false, d1] 39)).alloc (.cells #[.bool false, d2] 39)).alloc (.cells #[.bool false, r] 39)) := by
  have h2 := heap_alloc_new (w.alloc (.cells #[.bool false, d1] 39)) (.cells #[.bool false, d2] 39)
  have h3 := heap_alloc_new ((w.alloc (.cells #[.bool false, d1] 39)).alloc (.cells #[.bool false, d2] 39)) (.cells #[.bool false, r] 39)
  have e2 : (w.alloc (.cells #[.bool false, d1] 39)).heap.size = w.heap.size + 1 := by simp
  have e3 : ((w.alloc (.cells #[.bool false, d1] 39)).alloc (.cells #[.bool false, d2] 39)).heap.size = w.heap.size + 1 + 1 := by simp
  rw [e2] at h2
  rw [e3] at h3
  exact ⟨blk_alloc (blk_alloc (heap_alloc_new w _) _) _, blk_alloc h2 _, h3, (((Below.refl _ _).alloc (Nat.le_refl _) _).alloc (by simp) _).alloc (by simp; omega) _⟩
theorem Bx3.below {w : World} {d1 d2 r : Value} {W W' : World} (h : Bx3 w d1 d2 r W) (hb : Below W.heap.size W W') : Bx3 w d1 d2 r W' :=
  ⟨(hb.block _ (lt_of_blk h.b1)).trans h.b1, (hb.block _ (lt_of_blk h.b2)).trans h.b2, (hb.block _ (lt_of_blk h.b3)).trans h.b3, h.b.trans (hb.mono h.b.size)⟩
theorem Bx3.drew {w : World} {d1 d2 r : Value} {W : World} (h : Bx3 w d1 d2 r W) : Bx3 w d1 d2 r W.drew := h.below (Dr.below (Dr.here W 1) _)
theorem Bx3.set {w : World} {d1 d2 r : Value} {W : World} (h : Bx3 w d1 d2 r W) (u : Value) : Bx3 w d1 d2 u ((W.setCell ⟨w.heap.size + 1 + 1, 0, none⟩ (.bool false)).setCell ⟨w.heap.size + 1 + 1, 1, none⟩ u) := by
  have e : ∀ k, k ≠ w.heap.size + 1 + 1 → ((W.setCell ⟨w.heap.size + 1 + 1, 0, none⟩ (.bool false)).setCell ⟨w.heap.size + 1 + 1, 1, none⟩ u).heap[k]? = W.heap[k]? := fun k hk => by
    rw [Below.heap_setCell _ _ _ _ (by simpa using hk), Below.heap_setCell _ _ _ _ (by simpa using hk)]
  have h3 := heap_setCell_same _ _ 1 _ _ u (heap_setCell_same _ _ 0 _ _ (.bool false) h.b3)
  refine ⟨(e _ (by omega)).trans h.b1, (e _ (by omega)).trans h.b2, h3, (h.b.setCell (p := ⟨w.heap.size + 1 + 1, 0, none⟩) (by show w.heap.size ≤ w.heap.size + 1 + 1; omega) _).setCell (p := ⟨w.heap.size + 1 + 1, 1, none⟩) (by show w.heap.size ≤ w.heap.size + 1 + 1; omega) _⟩
theorem Bx3.cells {w : World} {d1 d2 r : Value} {W : World} (h : Bx3 w d1 d2 r W) : W.cell? ⟨w.heap.size, 0, none⟩ = some (.bool false) ∧ W.cell? ⟨w.heap.size, 1, none⟩ = some d1 ∧ W.cell? ⟨w.heap.size + 1, 0, none⟩ = some (.bool false) ∧ W.cell? ⟨w.heap.size + 1, 1, none⟩ = some d2 :=
  ⟨by rw [cell_of_row _ _ _ _ _ _ h.b1]; rfl, by rw [cell_of_row _ _ _ _ _ _ h.b1]; rfl, by rw [cell_of_row _ _ _ _ _ _ h.b2]; rfl, by rw [cell_of_row _ _ _ _ _ _ h.b2]; rfl⟩
theorem Bx3.res {w : World} {d1 d2 r : Value} {W : World} (h : Bx3 w d1 d2 r W) : W.cell? ⟨w.heap.size + 1 + 1, 0, none⟩ = some (.bool false) ∧ W.cell? ⟨w.heap.size + 1 + 1, 1, none⟩ = some r ∧ ∀ j, W.frozen? ⟨w.heap.size + 1 + 1, j, none⟩ = false :=
  ⟨by rw [cell_of_row _ _ _ _ _ _ h.b3]; rfl, by rw [cell_of_row _ _ _ _ _ _ h.b3]; rfl, fun j => frozen_of_row _ _ _ _ _ h.b3⟩
/-- the number, 0 where it is too large -/
def cutN (N : Nat) : Nat := if N < big then N else 0
theorem cutN_lt (N : Nat) : cutN N < big := by
  unfold cutN
  split
  · assumption
  · exact Nat.lt_trans (by decide) k_big
/-- what made hands back -/
def MadeTo (N : Nat) (w : World) (e : Ending) (w' : World) : Prop :=
  (∃ a n cp er, e = .returned (.tuple #[.agg #[.bool false, .slice a n cp], .int .i64 er]) ∧ er = (if N < big then 0 else 2) ∧ IntsUp w.heap.size w' (.slice a n cp) (limbs (cutN N))) ∧ Below w.heap.size w w'
theorem made_to {v : Value} {O : List Int} {N : Nat} {w : World} (h : IntsAt w v O) (hb : InB O) (hl : O.length ≤ 42) (hN : numL O = N) : Calls Tryz.prog 205 #[.bool false, v] w (MadeTo N w) := by
  have ht := trimL_limbs O hb (by omega)
  rw [hN] at ht
  by_cases hs : N < big
  · refine (c205 v O w h (by omega) (by rw [ht]; exact limbs_len40 N hs)).mono ?_
    rintro e w' ⟨dv, rfl, hi, hbb⟩
    rw [ht] at hi
    obtain ⟨a, cp, rfl⟩ := row_form hi
    exact ⟨⟨a, _, cp, 0, rfl, by rw [if_pos hs], by unfold cutN; rw [if_pos hs]; exact hi⟩, hbb⟩
  · have h45 : N < 1000000000 ^ 45 := by
      rw [← hN]
      exact Nat.lt_of_lt_of_le (numL_lt O hb) (Nat.pow_le_pow_right (by decide) (by omega))
    refine (c205no v O w h (by omega) (by rw [ht]; exact limbs_big N h45 (by omega))).mono ?_
    rintro e w' ⟨rfl, hbb⟩
    exact ⟨⟨none, 0, 0, 2, rfl, by rw [if_neg hs], by unfold cutN; rw [if_neg hs]; exact World.ownsRow_nil _ _ _ _⟩, hbb⟩

set_option maxRecDepth 100000 in
set_option maxHeartbeats 6400000 in
/-- Mul, by a small number -/
theorem c176 (d1 d2 : Value) (n b : Nat) (w : World) (hn : n < big) (hb0 : 0 < b) (hb : b < 1000) (h1 : IntsAt w d1 (limbs n)) (h2 : IntsAt w d2 (limbs b)) :
    Calls Tryz.prog 176 #[.agg #[.bool false, d1], .agg #[.bool false, d2]] w (MadeTo (n * b) w) := by
  have hbb : b < big := Nat.lt_trans hb k_big
  have C204 : Hid (∀ X, Below w.heap.size w X → Calls Tryz.prog 204 #[.agg #[.bool false, d1], .agg #[.bool false, d2]] X fun e w' => e = .returned (.bool true) ∧ Below X.heap.size X w') := Lib.hid (fun X hX => c204 d1 d2 _ _ X (h1.below hX) (h2.below hX) (limbs_ok hn) (limbs_ok hbb))
  rw [limbs_one hb0 hb] at h2
  have C206 : Hid (∀ X, Below w.heap.size w X → Calls Tryz.prog 206 #[d1, d2] X fun e w' => ∃ v' O, e = .returned v' ∧ IntsUp X.heap.size w' v' (trimL O) ∧ InB O ∧ O.length ≤ 42 ∧ numL O = n * b ∧ Below X.heap.size X w') := Lib.hid (fun X hX => (c206 d1 d2 (limbs n) b X (h1.below hX) (h2.below hX) (limbs_ok hn).1 hb (limbs_ok hn).2.2).mono fun e w' ⟨v', O, q1, q2, q3, q4, q5, q6⟩ => ⟨v', O, q1, q2, q3, q4, by rw [q5, limbs_num n (Nat.lt_trans hn big_lt)], q6⟩)
  obtain ⟨N, hN⟩ : ∃ N, n * b = N := ⟨_, rfl⟩
  rw [hN] at C206 ⊢
  obtain ⟨a1, k1, rfl⟩ := row_form h1
  obtain ⟨a2, k2, rfl⟩ := row_form h2
  obtain ⟨n1, hn1⟩ : ∃ n1, (limbs n).length = n1 := ⟨_, rfl⟩
  rw [hn1] at C204 C206 ⊢
  have hl1 : ([(b : Int)] : List Int).length = 1 := rfl
  rw [hl1] at C204 C206 ⊢
  have KS : Hid (∀ W r, Bx3 w (.slice a1 n1 k1) (.slice a2 1 k2) r W → (W.cell? ⟨w.heap.size, 0, none⟩ = some (.bool false) ∧ W.cell? ⟨w.heap.size, 1, none⟩ = some (.slice a1 n1 k1) ∧ W.cell? ⟨w.heap.size + 1, 0, none⟩ = some (.bool false) ∧ W.cell? ⟨w.heap.size + 1, 1, none⟩ = some (.slice a2 1 k2))) := Lib.hid (fun W r h => h.cells)
  have HX0 := Lib.hid (Bx3.start w (.slice a1 n1 k1) (.slice a2 1 k2) (.slice none 0 0))
  clear h1 h2 hn hb0 hb hbb hN hn1 hl1
  go_enter Tryz.func176, Tryz.ntmps176
  go_wp2_with (go_at_call 204; ((with_reducible refine (C204.out _ HX0.out.b).mono ?_); rintro e w3 ⟨rfl, hq⟩; have HX := Lib.hid (HX0.out.below hq); clear hq))
  go_region_held3 (fun W : World => W.cell? ⟨w.heap.size, 0, none⟩ = some (.bool false) ∧ W.cell? ⟨w.heap.size, 1, none⟩ = some (.slice a1 n1 k1) ∧ W.cell? ⟨w.heap.size + 1, 0, none⟩ = some (.bool false) ∧ W.cell? ⟨w.heap.size + 1, 1, none⟩ = some (.slice a2 1 k2)) (first | exact KS.out _ _ HX.out | exact KS.out _ _ HX.out.drew | exact KS.out _ _ (HX.out.set _))
    (first
      | (go_at_call 206; ((with_reducible refine (C206.out _ HX.out.drew.b).mono ?_); rintro e w4 ⟨v4, O, rfl, hi, hib, hil, hin, hbb⟩; have HX : Hid (Bx3 w (.slice a1 n1 k1) (.slice a2 1 k2) (.slice none 0 0) w4) := Lib.hid (HX.out.drew.below hbb); have C205 : Hid (Calls Tryz.prog 205 #[.bool false, v4] w4 (MadeTo N w4)) := Lib.hid (made_to hi.ints (trimL_inB O hib) (Nat.le_trans (trimL_len O) hil) (by rw [trimL_num]; exact hin)); obtain ⟨a4, k4, rfl⟩ := row_form hi; clear hi hib hil hin hbb))
      | (go_at_call 205; ((with_reducible refine C205.out.mono ?_); rintro e w5 ⟨⟨a5, n5, k5, er, rfl, her, hi5⟩, hbb⟩; have HX4 := HX; have HX : Hid (Bx3 w (.slice a1 n1 k1) (.slice a2 1 k2) (.slice none 0 0) w5) := Lib.hid (HX.out.below hbb); obtain ⟨kc0, kc1, kf⟩ := HX.out.res; have f0 := kf 0; have f1 := kf 1; have HER := Lib.hid her; have HI5 := Lib.hid hi5; clear her hi5 hbb)))
  all_goals
    go_wp2
    obtain ⟨z0, z1, _⟩ := (HX.out.set (.slice a5 n5 k5)).res
    refine bodyPost_ret (v := .tuple #[.agg #[.bool false, .slice a5 n5 k5], .int .i64 er]) (by simp [results, Tryz.results176, go_sem, z0, z1]) rfl ?_
    exact ⟨⟨_, _, _, _, rfl, HER.out, (((HI5.out).set (lt_of_blk HX4.out.b3) 0 _).set (lt_of_blk HX4.out.b3) 1 _).le HX4.out.b.size⟩, (HX.out.set _).b⟩
set_option maxRecDepth 100000 in
set_option maxHeartbeats 6400000 in
/-- Add -/
theorem c177 (d1 d2 : Value) (n b : Nat) (w : World) (hn : n < big) (hb : b < big) (h1 : IntsAt w d1 (limbs n)) (h2 : IntsAt w d2 (limbs b)) :
    Calls Tryz.prog 177 #[.agg #[.bool false, d1], .agg #[.bool false, d2]] w (MadeTo (n + b) w) := by
  have C204 : Hid (∀ X, Below w.heap.size w X → Calls Tryz.prog 204 #[.agg #[.bool false, d1], .agg #[.bool false, d2]] X fun e w' => e = .returned (.bool true) ∧ Below X.heap.size X w') := Lib.hid (fun X hX => c204 d1 d2 _ _ X (h1.below hX) (h2.below hX) (limbs_ok hn) (limbs_ok hb))
  have C207 : Hid (∀ X, Below w.heap.size w X → Calls Tryz.prog 207 #[d1, d2] X fun e w' => ∃ v' O, e = .returned v' ∧ IntsUp X.heap.size w' v' (trimL O) ∧ InB O ∧ O.length ≤ 42 ∧ numL O = n + b ∧ Below X.heap.size X w') := Lib.hid (fun X hX => (c207 d1 d2 (limbs n) (limbs b) X (h1.below hX) (h2.below hX) (limbs_ok hn).1 (limbs_ok hb).1 (limbs_ok hn).2.2 (limbs_ok hb).2.2).mono fun e w' ⟨v', O, q1, q2, q3, q4, q5, q6⟩ => ⟨v', O, q1, q2, q3, q4, by rw [q5, limbs_num n (Nat.lt_trans hn big_lt), limbs_num b (Nat.lt_trans hb big_lt)], q6⟩)
  obtain ⟨N, hN⟩ : ∃ N, n + b = N := ⟨_, rfl⟩
  rw [hN] at C207 ⊢
  obtain ⟨a1, k1, rfl⟩ := row_form h1
  obtain ⟨a2, k2, rfl⟩ := row_form h2
  obtain ⟨n1, hn1⟩ : ∃ n1, (limbs n).length = n1 := ⟨_, rfl⟩
  rw [hn1] at C204 C207 ⊢
  obtain ⟨n2, hn2⟩ : ∃ n2, (limbs b).length = n2 := ⟨_, rfl⟩
  rw [hn2] at C204 C207 ⊢
  have KS : Hid (∀ W r, Bx3 w (.slice a1 n1 k1) (.slice a2 n2 k2) r W → (W.cell? ⟨w.heap.size, 0, none⟩ = some (.bool false) ∧ W.cell? ⟨w.heap.size, 1, none⟩ = some (.slice a1 n1 k1) ∧ W.cell? ⟨w.heap.size + 1, 0, none⟩ = some (.bool false) ∧ W.cell? ⟨w.heap.size + 1, 1, none⟩ = some (.slice a2 n2 k2))) := Lib.hid (fun W r h => h.cells)
  have HX0 := Lib.hid (Bx3.start w (.slice a1 n1 k1) (.slice a2 n2 k2) (.slice none 0 0))
  clear h1 h2 hn hb hN hn1 hn2
  go_enter Tryz.func177, Tryz.ntmps177
  go_wp2_with (go_at_call 204; ((with_reducible refine (C204.out _ HX0.out.b).mono ?_); rintro e w3 ⟨rfl, hq⟩; have HX := Lib.hid (HX0.out.below hq); have q := HX.out.cells; obtain ⟨q0, q1, q2, q3⟩ := q; clear hq))
  go_region_held3 (fun W : World => W.cell? ⟨w.heap.size, 0, none⟩ = some (.bool false) ∧ W.cell? ⟨w.heap.size, 1, none⟩ = some (.slice a1 n1 k1) ∧ W.cell? ⟨w.heap.size + 1, 0, none⟩ = some (.bool false) ∧ W.cell? ⟨w.heap.size + 1, 1, none⟩ = some (.slice a2 n2 k2)) (first | exact KS.out _ _ HX.out | exact KS.out _ _ HX.out.drew | exact KS.out _ _ (HX.out.set _))
    (first
      | (go_at_call 207; ((with_reducible refine (C207.out _ HX.out.drew.b).mono ?_); rintro e w4 ⟨v4, O, rfl, hi, hib, hil, hin, hbb⟩; have HX : Hid (Bx3 w (.slice a1 n1 k1) (.slice a2 n2 k2) (.slice none 0 0) w4) := Lib.hid (HX.out.drew.below hbb); have C205 : Hid (Calls Tryz.prog 205 #[.bool false, v4] w4 (MadeTo N w4)) := Lib.hid (made_to hi.ints (trimL_inB O hib) (Nat.le_trans (trimL_len O) hil) (by rw [trimL_num]; exact hin)); obtain ⟨a4, k4, rfl⟩ := row_form hi; clear hi hib hil hin hbb))
      | (go_at_call 205; ((with_reducible refine C205.out.mono ?_); rintro e w5 ⟨⟨a5, n5, k5, er, rfl, her, hi5⟩, hbb⟩; have HX4 := HX; have HX : Hid (Bx3 w (.slice a1 n1 k1) (.slice a2 n2 k2) (.slice none 0 0) w5) := Lib.hid (HX.out.below hbb); obtain ⟨kc0, kc1, kf⟩ := HX.out.res; have f0 := kf 0; have f1 := kf 1; have HER := Lib.hid her; have HI5 := Lib.hid hi5; clear her hi5 hbb)))
  all_goals
    go_wp2
    obtain ⟨z0, z1, _⟩ := (HX.out.set (.slice a5 n5 k5)).res
    refine bodyPost_ret (v := .tuple #[.agg #[.bool false, .slice a5 n5 k5], .int .i64 er]) (by simp [results, Tryz.results177, go_sem, z0, z1]) rfl ?_
    exact ⟨⟨_, _, _, _, rfl, HER.out, (((HI5.out).set (lt_of_blk HX4.out.b3) 0 _).set (lt_of_blk HX4.out.b3) 1 _).le HX4.out.b.size⟩, (HX.out.set _).b⟩
end Go.Proofs.YtagcfgoofiibfaaGreatDoor
set_option linter.unusedVariables false
set_option exponentiation.threshold 400
namespace Go.Proofs.YtagcfgoofiibfaaGreatDoor
open Go Go.RowKit Go.ChangeMaps

theorem IntsUp.later {B : Nat} {w w' : World} {v : Value} {l : List Int} (h : IntsUp B w v l) (hb : Below w.heap.size w w') : IntsUp B w' v l := by
  refine ⟨h.1, ?_⟩
  rcases h.2 with h0 | ⟨b, cap, cur, hv, hg0, hg, h4⟩
  · exact .inl h0
  · exact .inr ⟨b, cap, cur, hv, hg0, (hb.block _ (lt_of_blk hg)).trans hg, h4⟩
/-- the number read so far -/
structure Vl (w : World) (dv : Value) (n : Nat) (W : World) : Prop where
  b4 : W.heap[w.heap.size]? = some (.cells #[.bool false, .slice none 0 0] 39 (0, 0))
  b6 : W.heap[w.heap.size + 1]? = some (.cells #[.bool false, dv] 39 (0, 0))
  iv : IntsUp w.heap.size W dv (limbs n)
  b : Below w.heap.size w W
theorem Vl.below {w : World} {dv : Value} {n : Nat} {W W' : World} (h : Vl w dv n W) (hb : Below W.heap.size W W') : Vl w dv n W' :=
  ⟨(hb.block _ (lt_of_blk h.b4)).trans h.b4, (hb.block _ (lt_of_blk h.b6)).trans h.b6, h.iv.later hb, h.b.trans (hb.mono h.b.size)⟩
theorem Vl.alloc {w : World} {dv : Value} {n : Nat} {W : World} (h : Vl w dv n W) (o : Obj) : Vl w dv n (W.alloc o) := h.below ((Below.refl _ _).alloc (Nat.le_refl _) _)
theorem Vl.drew {w : World} {dv : Value} {n : Nat} {W : World} (h : Vl w dv n W) : Vl w dv n W.drew := h.below (Dr.below (Dr.here W 1) _)
theorem Vl.lt {w : World} {dv : Value} {n : Nat} {W : World} (h : Vl w dv n W) : w.heap.size + 2 ≤ W.heap.size := by have := lt_of_blk h.b6; omega
theorem Vl.cells {w : World} {dv : Value} {n : Nat} {W : World} (h : Vl w dv n W) : W.cell? ⟨w.heap.size + 1, 0, none⟩ = some (.bool false) ∧ W.cell? ⟨w.heap.size + 1, 1, none⟩ = some dv :=
  ⟨by rw [cell_of_row _ _ _ _ _ _ h.b6]; rfl, by rw [cell_of_row _ _ _ _ _ _ h.b6]; rfl⟩
theorem Vl.set {w : World} {dv : Value} {n : Nat} {W : World} (h : Vl w dv n W) {P : Nat} {cs : Array Value} (hp : W.heap[P]? = some (.cells cs 39 (0, 0))) (hP : w.heap.size + 2 ≤ P) (j : Nat) (u : Value) : Vl w dv n (W.setCell ⟨P, j, none⟩ u) :=
  ⟨by rw [heap_setCell_other _ _ _ _ (by show w.heap.size ≠ P; omega)]; exact h.b4, by rw [heap_setCell_other _ _ _ _ (by show w.heap.size + 1 ≠ P; omega)]; exact h.b6, h.iv.setT hp (by decide) j u, h.b.setCell (p := ⟨P, j, none⟩) (by show w.heap.size ≤ P; omega) u⟩
/-- .. and a next one in a box -/
structure Vr (w : World) (dv : Value) (n : Nat) (P : Nat) (m : Value) (M : Nat) (W : World) : Prop where
  v : Vl w dv n W
  p : W.heap[P]? = some (.cells #[.bool false, m] 39 (0, 0))
  lo : w.heap.size + 2 ≤ P
  r : IntsUp w.heap.size W m (limbs M)
theorem Vr.below {w : World} {dv : Value} {n P : Nat} {m : Value} {M : Nat} {W W' : World} (h : Vr w dv n P m M W) (hb : Below W.heap.size W W') : Vr w dv n P m M W' :=
  ⟨h.v.below hb, (hb.block _ (lt_of_blk h.p)).trans h.p, h.lo, h.r.later hb⟩
theorem Vr.alloc {w : World} {dv : Value} {n P : Nat} {m : Value} {M : Nat} {W : World} (h : Vr w dv n P m M W) (o : Obj) : Vr w dv n P m M (W.alloc o) := h.below ((Below.refl _ _).alloc (Nat.le_refl _) _)
theorem Vr.drew {w : World} {dv : Value} {n P : Nat} {m : Value} {M : Nat} {W : World} (h : Vr w dv n P m M W) : Vr w dv n P m M W.drew := h.below (Dr.below (Dr.here W 1) _)
theorem Vr.mkSet {w : World} {dv : Value} {n P : Nat} {m u0 u1 : Value} {M : Nat} {W : World} (h : Vl w dv n W) (hP : W.heap[P]? = some (.cells #[u0, u1] 39 (0, 0))) (hlo : w.heap.size + 2 ≤ P) (hr : IntsUp w.heap.size W m (limbs M)) : Vr w dv n P m M ((W.setCell ⟨P, 0, none⟩ (.bool false)).setCell ⟨P, 1, none⟩ m) :=
  ⟨(h.set hP hlo _ _).set (heap_setCell_same _ _ 0 _ _ _ hP) hlo _ _, heap_setCell_same _ _ 1 _ _ _ (heap_setCell_same _ _ 0 _ _ _ hP), hlo, (hr.setT hP (by decide) 0 _).setT (heap_setCell_same _ _ 0 _ _ _ hP) (by decide) 1 _⟩
theorem Vr.mkAlloc {w : World} {dv : Value} {n : Nat} {m : Value} {M : Nat} {W : World} (h : Vl w dv n W) (hr : IntsUp w.heap.size W m (limbs M)) : Vr w dv n W.heap.size m M (W.alloc (Obj.cells #[.bool false, m] 39)) :=
  ⟨h.alloc _, blk_new _ _ rfl _, h.lt, World.ownsRow.alloc hr _⟩
theorem Vr.cells {w : World} {dv : Value} {n P : Nat} {m : Value} {M : Nat} {W : World} (h : Vr w dv n P m M W) : W.cell? ⟨P, 0, none⟩ = some (.bool false) ∧ W.cell? ⟨P, 1, none⟩ = some m :=
  ⟨by rw [cell_of_row _ _ _ _ _ _ h.p]; rfl, by rw [cell_of_row _ _ _ _ _ _ h.p]; rfl⟩
theorem Vr.next {w : World} {dv : Value} {n P : Nat} {m : Value} {M : Nat} {W : World} (h : Vr w dv n P m M W) : Vl w m M ((W.setCell ⟨w.heap.size + 1, 0, none⟩ (.bool false)).setCell ⟨w.heap.size + 1, 1, none⟩ m) :=
  ⟨by rw [heap_setCell_other _ _ _ _ (by show w.heap.size ≠ w.heap.size + 1; omega), heap_setCell_other _ _ _ _ (by show w.heap.size ≠ w.heap.size + 1; omega)]; exact h.v.b4,
   heap_setCell_same _ _ 1 _ _ _ (heap_setCell_same _ _ 0 _ _ _ h.v.b6), (h.r.setT h.v.b6 (by decide) 0 _).setT (heap_setCell_same _ _ 0 _ _ _ h.v.b6) (by decide) 1 _,
   (h.v.b.setCell (p := ⟨w.heap.size + 1, 0, none⟩) (by show w.heap.size ≤ w.heap.size + 1; omega) _).setCell (p := ⟨w.heap.size + 1, 1, none⟩) (by show w.heap.size ≤ w.heap.size + 1; omega) _⟩
/-- what valued hands back -/
def ValdTo (V : Option (List Int)) (w : World) (e : Ending) (w' : World) : Prop :=
  (match V with
    | some d => ∃ a cp, e = .returned (.tuple #[.agg #[.bool false, .slice a d.length cp], .bool true]) ∧ IntsUp w.heap.size w' (.slice a d.length cp) d
    | none => e = .returned (.tuple #[.agg #[.bool false, .slice none 0 0], .bool false])) ∧ Below w.heap.size w w'
theorem big_pos : 0 < big := Nat.lt_trans (by decide) k_big

set_option maxRecDepth 100000 in
set_option maxHeartbeats 6400000 in
/-- valued -/
theorem c123 (s : ByteArray) (b : Nat) (w : World) (hs : s.size ≤ 1073741824) (hb2 : 2 ≤ b) (hb16 : b ≤ 16) : Calls Tryz.prog 123 #[.string s, .int .i64 (b : Int)] w (ValdTo (valF s (b : Int)) w) := by
  obtain ⟨V, hV⟩ : ∃ V, valF s (b : Int) = V := ⟨_, rfl⟩
  obtain ⟨U, hU⟩ : ∃ U, valN (b : Int) s.data.toList 0 = U := ⟨_, rfl⟩
  have hVU : V = U.bind fun n => if n < big then some (limbs n) else none := by rw [← hV, ← hU]; rfl
  have HVU := Lib.hid hVU
  have HU := Lib.hid hU
  have HSZ := Lib.hid hs
  have HB2 := Lib.hid (And.intro hb2 hb16)
  have C78b := Lib.hid (fun W => c78 b W (by omega))
  rw [hV]
  clear hV hU hVU hs
  have hn1 : ((w.alloc (.cells #[.bool false, .slice none 0 0] 39)).alloc (.cells #[.bool false, .slice none 0 0] 39)).heap[w.heap.size + 1]? = some (.cells #[.bool false, .slice none 0 0] 39 (0, 0)) := by
    have h := heap_alloc_new (w.alloc (.cells #[.bool false, .slice none 0 0] 39)) (.cells #[.bool false, .slice none 0 0] 39)
    simpa using h
  have HN1 := Lib.hid hn1
  clear hn1
  go_enter Tryz.func123, Tryz.ntmps123
  go_wp2
  go_loopw [7] (fun s7 wr => ∃ (i n : Nat) (dv : Value), i ≤ s.size ∧ n < big ∧ s7 = .int .i64 (i : Int) ∧ valN (b : Int) (s.data.toList.drop i) n = U ∧ Vl w dv n wr) (fun s7 _ => s.size - (intOf s7).toNat)
  case atStart =>
    refine ⟨0, 0, .slice none 0 0, Nat.zero_le _, big_pos, rfl, HU.out, ⟨blk_alloc (heap_alloc_new w _) _, HN1.out, ?_, ((Below.refl _ _).alloc (Nat.le_refl _) _).alloc (by simp) _⟩⟩
    exact World.ownsRow_nil _ _ _ _
  case round =>
    obtain ⟨i, n, dv, hi, hn, rfl, hv, hW⟩ := hrel
    obtain ⟨a6, k6, rfl⟩ := row_form hW.iv
    obtain ⟨m6, hm6⟩ : ∃ m6, (limbs n).length = m6 := ⟨_, rfl⟩
    rw [hm6] at hW
    have HM6 := Lib.hid hm6
    have HW := Lib.hid hW
    have HV := Lib.hid hv
    have hSZ := HSZ.out
    clear hv
    obtain ⟨z60, z61⟩ := hW.cells
    have z4 := hW.b4
    have f4 : ∀ j, wr.frozen? ⟨w.heap.size, j, none⟩ = false := fun j => frozen_of_row _ _ _ _ _ z4
    have z40 : wr.cell? ⟨w.heap.size, 0, none⟩ = some (.bool false) := by rw [cell_of_row _ _ _ _ _ _ z4]; rfl
    have z41 : wr.cell? ⟨w.heap.size, 1, none⟩ = some (.slice none 0 0) := by rw [cell_of_row _ _ _ _ _ _ z4]; rfl
    have f40 := f4 0
    have f41 := f4 1
    have HZ4 := Lib.hid z4
    have HNB := Lib.hid hn
    clear z4 f4 hW hm6 hn
    by_cases hlt : i < s.size
    case neg =>
      have r1 : ¬ ((i : Int) < (s.size : Int)) := by omega
      have hie : i = s.size := by omega
      have hd : s.data.toList.drop i = [] := List.drop_eq_nil_of_le (by rw [Array.length_toList]; show s.size ≤ i; omega)
      have hv := HV.out
      rw [hd] at hv
      have hUn : U = some n := hv.symm
      have hVn : V = some (limbs n) := by rw [HVU.out, hUn]; show (if n < big then _ else _) = _; rw [if_pos HNB.out]
      have HVN := Lib.hid hVn
      clear hlt hie hd hv hUn hVn
      go_wp2
      refine bodyPost_ret (v := .tuple #[.agg #[.bool false, .slice a6 m6 k6], .bool true]) (by simp [results, Tryz.results123, go_sem, z40, z41]) rfl ?_
      rw [HVN.out]
      refine ⟨⟨a6, k6, by rw [HM6.out], ?_⟩, (HW.out.b.setCell (p := ⟨w.heap.size, 0, none⟩) (Nat.le_refl _) _).setCell (p := ⟨w.heap.size, 1, none⟩) (Nat.le_refl _) _⟩
      rw [HM6.out]
      exact (HW.out.iv.setT HZ4.out (by decide) 0 _).setT (heap_setCell_same _ _ 0 _ _ _ HZ4.out) (by decide) 1 _
    have hv := HV.out
    rw [drop_bt s i hlt] at hv
    have hjz : (i : Int) < (s.size : Int) := by omega
    have h0 : (0 : Int) ≤ (i : Int) := by omega
    have hb := bt_get s i hlt
    have hy0 := bt_lo s i
    have hy9 := bt_hi s i
    obtain ⟨y, hy⟩ : ∃ y, bt s i = y := ⟨_, rfl⟩
    have hgd : ((s.data.toList.getD i 0).toNat : Int) = y := hy
    rw [hy] at hb hy0 hy9
    simp only [valN] at hv
    rw [hgd] at hv
    have C175 := Lib.hid (fun W => c175 y hy0 hy9 W)
    have hw : wor y = if wrth y < 0 then 99 else wrth y := rfl
    have HLT := Lib.hid hlt
    have hw16 := wrth_16 y
    obtain ⟨hb2, hb16⟩ := HB2.out
    by_cases hbad : wrth y < 0 ∨ (b : Int) ≤ wrth y
    · rw [if_pos hbad] at hv
      have hVn : V = none := by rw [HVU.out, ← hv]; rfl
      have hge : (b : Int) ≤ wor y := by rw [hw]; split <;> omega
      obtain ⟨u, hu⟩ : ∃ u, wor y = u := ⟨_, rfl⟩
      rw [hu] at C175 hge
      have HVN := Lib.hid hVn
      clear hbad hv hVn hw hu hw16 hy hgd
      go_wp2_with (go_at_call 175; ((with_reducible refine (C175.out _).mono ?_); rintro e w' ⟨rfl, rfl⟩))
      refine bodyPost_ret (v := .tuple #[.agg #[.bool false, .slice none 0 0], .bool false]) (by simp [results, Tryz.results123, go_sem, z40, z41]) rfl ?_
      rw [HVN.out]
      exact ⟨rfl, (HW.out.b.setCell (p := ⟨w.heap.size, 0, none⟩) (Nat.le_refl _) _).setCell (p := ⟨w.heap.size, 1, none⟩) (Nat.le_refl _) _⟩
    rw [if_neg hbad] at hv
    obtain ⟨d, hd⟩ : ∃ d : Nat, wrth y = (d : Int) := ⟨(wrth y).toNat, by omega⟩
    have hwd : wor y = (d : Int) := by rw [hw, if_neg (by omega), hd]
    rw [hwd] at C175
    rw [hd] at hv hbad hw16
    have hdt : ((d : Int)).toNat = d := by omega
    have hbt : ((b : Int)).toNat = b := by omega
    rw [hdt, hbt] at hv
    have hlt9 : ¬ ((b : Int) ≤ (d : Int)) := by omega
    obtain ⟨N, hN⟩ : ∃ N, n * b = N := ⟨_, rfl⟩
    rw [hN] at hv
    have C176 : Hid (∀ (W : World) (d1 d2 : Value), IntsAt W d1 (limbs n) → IntsAt W d2 (limbs b) → Calls Tryz.prog 176 #[.agg #[.bool false, d1], .agg #[.bool false, d2]] W (MadeTo N W)) := Lib.hid (fun W d1 d2 q1 q2 => by rw [← hN]; exact c176 d1 d2 n b W HNB.out (by omega) (by omega) q1 q2)
    have C78d := Lib.hid (fun W => c78 d W (by omega))
    have hdb : d < big := Nat.lt_trans (by omega) k_big
    have C177 : Hid (∀ (W : World) (d1 d2 : Value), IntsAt W d1 (limbs (cutN N)) → IntsAt W d2 (limbs d) → Calls Tryz.prog 177 #[.agg #[.bool false, d1], .agg #[.bool false, d2]] W (MadeTo (cutN N + d) W)) := Lib.hid (fun W d1 d2 q1 q2 => c177 d1 d2 (cutN N) d W (cutN_lt N) hdb q1 q2)
    obtain ⟨er1, he1⟩ : ∃ er1 : Int, er1 = if N < big then 0 else 2 := ⟨_, rfl⟩
    obtain ⟨er2, he2⟩ : ∃ er2 : Int, er2 = if cutN N + d < big then 0 else 2 := ⟨_, rfl⟩
    have HE1 := Lib.hid he1
    have HE2 := Lib.hid he2
    have HV2 := Lib.hid hv
    have KS : Hid (∀ W, Vl w (.slice a6 m6 k6) n W → (W.cell? ⟨w.heap.size + 1, 0, none⟩ = some (.bool false) ∧ W.cell? ⟨w.heap.size + 1, 1, none⟩ = some (.slice a6 m6 k6))) := Lib.hid (fun W h => h.cells)
    clear hbad hv hw hw16 hy hgd hd hwd hdt hbt hN hdb he1 he2 z40 z41 f40 f41 z60 z61 hi
    go_wp2_with (first | (go_at_call 175; ((with_reducible refine (C175.out _).mono ?_); rintro e w' ⟨rfl, rfl⟩)) | fail)
    go_cut [9, 10] (fun s9 s10 wx => ∃ (P : Nat) (a3 : Option Addr) (n3 cp3 : Nat), s9 = .pointer (some ⟨P, 0, none⟩) ∧ s10 = .int .i64 er1 ∧ Vr w (.slice a6 m6 k6) n P (.slice a3 n3 cp3) (cutN N) wx)
    case first =>
      have hlo0 : w.heap.size + 2 ≤ wr.heap.size := HW.out.lt
      go_region_held3 (fun W : World => W.cell? ⟨w.heap.size + 1, 0, none⟩ = some (.bool false) ∧ W.cell? ⟨w.heap.size + 1, 1, none⟩ = some (.slice a6 m6 k6)) (first | exact KS.out _ HW.out | exact KS.out _ HW.out.drew | exact KS.out _ (HW.out.alloc _) | exact KS.out _ (HW.out.drew.alloc _) | exact KS.out _ (Vr.mkSet HW.out KB.out (by omega) H3.out).v | exact KS.out _ (Vr.mkAlloc HW.out H3.out).v)
        (first
          | (go_at_call 78; ((with_reducible refine (C78b.out _).mono ?_); rintro e w1 ⟨d2, rfl, h2, hbb⟩; have HW : Hid (Vl w (.slice a6 m6 k6) n w1) := Lib.hid (by first | exact HW.out.drew.below hbb | exact (HW.out.drew.alloc _).below hbb); obtain ⟨a2, cp2, rfl⟩ := row_form h2; have H2 := Lib.hid h2; (first | (have KB1 : Hid (w1.heap[wr.heap.size]? = some (.cells #[.bool false, .slice none 0 0] 39 (0, 0))) := Lib.hid ((hbb.block wr.heap.size (by simp)).trans (blk_new wr.drew _ rfl _))) | skip); have hlo1 : w.heap.size + 2 ≤ w1.heap.size := HW.out.lt; clear h2 hbb))
          | (go_at_call 176; ((first | (with_reducible refine (C176.out _ (.slice a6 m6 k6) (.slice a2 (limbs b).length cp2) HW.out.iv.ints H2.out.ints).mono ?_) | (with_reducible refine (C176.out _ (.slice a6 m6 k6) (.slice a2 (limbs b).length cp2) (HW.out.alloc _).iv.ints (H2.out.ints.alloc _)).mono ?_)); rintro e w2 ⟨⟨a3, n3, cp3, er, rfl, her, h3⟩, hb2⟩; obtain rfl : er = er1 := her.trans HE1.out.symm; have H3 : Hid (IntsUp w.heap.size w2 (.slice a3 n3 cp3) (limbs (cutN N))) := Lib.hid (by first | exact h3.le HW.out.b.size | exact h3.le (HW.out.alloc _).b.size); have HW : Hid (Vl w (.slice a6 m6 k6) n w2) := Lib.hid (by first | exact HW.out.below hb2 | exact (HW.out.alloc _).below hb2); (first | (have kb : w2.heap[w1.heap.size]? = some (.cells #[.bool false, .slice none 0 0] 39 (0, 0)) := (hb2.block w1.heap.size (by simp)).trans (blk_new w1 _ rfl _); have kc0 : w2.cell? ⟨w1.heap.size, 0, none⟩ = some (.bool false) := (by rw [cell_of_row _ _ _ _ _ _ kb]; rfl); have kc1 : w2.cell? ⟨w1.heap.size, 1, none⟩ = some (.slice none 0 0) := (by rw [cell_of_row _ _ _ _ _ _ kb]; rfl); have kf : ∀ j, w2.frozen? ⟨w1.heap.size, j, none⟩ = false := (fun j => frozen_of_row _ _ _ _ _ kb); have KB := Lib.hid kb; clear kb) | (have kb : w2.heap[wr.heap.size]? = some (.cells #[.bool false, .slice none 0 0] 39 (0, 0)) := (hb2.block wr.heap.size (lt_of_blk KB1.out)).trans KB1.out; have kc0 : w2.cell? ⟨wr.heap.size, 0, none⟩ = some (.bool false) := (by rw [cell_of_row _ _ _ _ _ _ kb]; rfl); have kc1 : w2.cell? ⟨wr.heap.size, 1, none⟩ = some (.slice none 0 0) := (by rw [cell_of_row _ _ _ _ _ _ kb]; rfl); have kf : ∀ j, w2.frozen? ⟨wr.heap.size, j, none⟩ = false := (fun j => frozen_of_row _ _ _ _ _ kb); have KB := Lib.hid kb; clear kb) | skip); clear h3 hb2 her)))
      all_goals
        go_wp2
        go_meet
        first
          | exact ⟨_, _, _, _, rfl, rfl, Vr.mkSet HW.out KB.out (by omega) H3.out⟩
          | exact ⟨_, _, _, _, rfl, rfl, Vr.mkAlloc HW.out H3.out⟩
    case rest =>
      obtain ⟨P, a3, n3, cp3, rfl, rfl, hF⟩ := hcut
      clear HW HZ4 C176 C78b
      have HF := Lib.hid hF
      have KP : Hid (∀ W, Vr w (.slice a6 m6 k6) n P (.slice a3 n3 cp3) (cutN N) W → (W.cell? ⟨P, 0, none⟩ = some (.bool false) ∧ W.cell? ⟨P, 1, none⟩ = some (.slice a3 n3 cp3))) := Lib.hid (fun W h => h.cells)
      clear hF
      go_wp2_with fail
      go_cut [11, 12] (fun s11 s12 wx => ∃ (Q : Nat) (a4 : Option Addr) (n4 cp4 : Nat), s11 = .pointer (some ⟨Q, 0, none⟩) ∧ s12 = .int .i64 er2 ∧ Vr w (.slice a6 m6 k6) n Q (.slice a4 n4 cp4) (cutN (cutN N + d)) wx)
      case first =>
        have hlo0 : w.heap.size + 2 ≤ wc.heap.size := HF.out.v.lt
        go_region_held3 (fun W : World => W.cell? ⟨P, 0, none⟩ = some (.bool false) ∧ W.cell? ⟨P, 1, none⟩ = some (.slice a3 n3 cp3)) (first | exact KP.out _ HF.out | exact KP.out _ HF.out.drew | exact KP.out _ (HF.out.alloc _) | exact KP.out _ (HF.out.drew.alloc _) | (have hp := HF.out.p; have hpl := lt_of_blk hp; exact ⟨by rw [cell_of_row _ _ _ _ _ _ (show _ = some (Obj.cells #[.bool false, .slice a3 n3 cp3] 39 (0, 0)) from by rw [heap_setCell_other _ _ _ _ HNE.out, heap_setCell_other _ _ _ _ HNE.out]; exact hp)]; rfl, by rw [cell_of_row _ _ _ _ _ _ (show _ = some (Obj.cells #[.bool false, .slice a3 n3 cp3] 39 (0, 0)) from by rw [heap_setCell_other _ _ _ _ HNE.out, heap_setCell_other _ _ _ _ HNE.out]; exact hp)]; rfl⟩))
          (first
            | (go_at_call 78; ((with_reducible refine (C78d.out _).mono ?_); rintro e w1 ⟨d2, rfl, h2, hbb⟩; have hPlt := lt_of_blk HF.out.p; have HF : Hid (Vr w (.slice a6 m6 k6) n P (.slice a3 n3 cp3) (cutN N) w1) := Lib.hid (by first | exact HF.out.drew.below hbb | exact (HF.out.drew.alloc _).below hbb); obtain ⟨a2, cp2, rfl⟩ := row_form h2; have H2 := Lib.hid h2; (first | (have KB1 : Hid (w1.heap[wc.heap.size]? = some (.cells #[.bool false, .slice none 0 0] 39 (0, 0))) := Lib.hid ((hbb.block wc.heap.size (by simp)).trans (blk_new wc.drew _ rfl _))) | skip); have hlo1 : w.heap.size + 2 ≤ w1.heap.size := HF.out.v.lt; have hPl1 := lt_of_blk HF.out.p; clear h2 hbb))
            | (go_at_call 177; ((first | (with_reducible refine (C177.out _ (.slice a3 n3 cp3) (.slice a2 (limbs d).length cp2) HF.out.r.ints H2.out.ints).mono ?_) | (with_reducible refine (C177.out _ (.slice a3 n3 cp3) (.slice a2 (limbs d).length cp2) (HF.out.alloc _).r.ints (H2.out.ints.alloc _)).mono ?_)); rintro e w2 ⟨⟨a4, n4, cp4, er, rfl, her, h3⟩, hb2⟩; obtain rfl : er = er2 := her.trans HE2.out.symm; have H3 : Hid (IntsUp w.heap.size w2 (.slice a4 n4 cp4) (limbs (cutN (cutN N + d)))) := Lib.hid (by first | exact h3.le HF.out.v.b.size | exact h3.le (HF.out.alloc _).v.b.size); have HF : Hid (Vr w (.slice a6 m6 k6) n P (.slice a3 n3 cp3) (cutN N) w2) := Lib.hid (by first | exact HF.out.below hb2 | exact (HF.out.alloc _).below hb2); (first | (have kb : w2.heap[w1.heap.size]? = some (.cells #[.bool false, .slice none 0 0] 39 (0, 0)) := (hb2.block w1.heap.size (by simp)).trans (blk_new w1 _ rfl _); have kc0 : w2.cell? ⟨w1.heap.size, 0, none⟩ = some (.bool false) := (by rw [cell_of_row _ _ _ _ _ _ kb]; rfl); have kc1 : w2.cell? ⟨w1.heap.size, 1, none⟩ = some (.slice none 0 0) := (by rw [cell_of_row _ _ _ _ _ _ kb]; rfl); have kf : ∀ j, w2.frozen? ⟨w1.heap.size, j, none⟩ = false := (fun j => frozen_of_row _ _ _ _ _ kb); have KB := Lib.hid kb; have HNE : Hid (P ≠ w1.heap.size) := Lib.hid (by omega); clear kb) | (have kb : w2.heap[wc.heap.size]? = some (.cells #[.bool false, .slice none 0 0] 39 (0, 0)) := (hb2.block wc.heap.size (lt_of_blk KB1.out)).trans KB1.out; have kc0 : w2.cell? ⟨wc.heap.size, 0, none⟩ = some (.bool false) := (by rw [cell_of_row _ _ _ _ _ _ kb]; rfl); have kc1 : w2.cell? ⟨wc.heap.size, 1, none⟩ = some (.slice none 0 0) := (by rw [cell_of_row _ _ _ _ _ _ kb]; rfl); have kf : ∀ j, w2.frozen? ⟨wc.heap.size, j, none⟩ = false := (fun j => frozen_of_row _ _ _ _ _ kb); have KB := Lib.hid kb; have HNE : Hid (P ≠ wc.heap.size) := Lib.hid (by omega); clear kb) | skip); clear h3 hb2 her)))
        all_goals
          go_wp2
          go_meet
          first
            | exact ⟨_, _, _, _, rfl, rfl, Vr.mkSet HF.out.v KB.out (by omega) H3.out⟩
            | exact ⟨_, _, _, _, rfl, rfl, Vr.mkAlloc HF.out.v H3.out⟩
      case rest =>
        obtain ⟨Q, a4, n4, cp4, rfl, rfl, hF⟩ := hcut
        clear HF KP KS C177 C78d C175
        obtain ⟨q0, q1⟩ := hF.cells
        obtain ⟨p0, p1⟩ := hF.v.cells
        have z4 := hF.v.b4
        have z6 := hF.v.b6
        have z40 : wc.cell? ⟨w.heap.size, 0, none⟩ = some (.bool false) := by rw [cell_of_row _ _ _ _ _ _ z4]; rfl
        have z41 : wc.cell? ⟨w.heap.size, 1, none⟩ = some (.slice none 0 0) := by rw [cell_of_row _ _ _ _ _ _ z4]; rfl
        have f4 : ∀ j, wc.frozen? ⟨w.heap.size, j, none⟩ = false := fun j => frozen_of_row _ _ _ _ _ z4
        have f6 : ∀ j, wc.frozen? ⟨w.heap.size + 1, j, none⟩ = false := fun j => frozen_of_row _ _ _ _ _ z6
        have HF := Lib.hid hF
        clear z4 z6 hF
        by_cases hN1 : N < big
        · obtain rfl : er1 = 0 := by rw [HE1.out, if_pos hN1]
          have hcN : cutN N = N := by unfold cutN; rw [if_pos hN1]
          rw [hcN] at HE2 HF
          by_cases hN2 : N + d < big
          · obtain rfl : er2 = 0 := by rw [HE2.out, if_pos hN2]
            have hcK : cutN (N + d) = N + d := by unfold cutN; rw [if_pos hN2]
            rw [hcK] at HF
            have HK := Lib.hid hN2
            clear hcN hcK hN1 hN2 HE1 HE2
            go_wp2
            go_roundw
            case rel => exact ⟨i + 1, N + d, _, HLT.out, HK.out, by go_num, HV2.out, HF.out.next⟩
            case measure => have := HLT.out; simp [intOf]; omega
          · obtain rfl : er2 = 2 := by rw [HE2.out, if_neg hN2]
            have hVn : V = none := by
              rw [HVU.out]
              rcases hU : U with _ | r
              · rfl
              · have h1 := HV2.out
                rw [hU] at h1
                have h2 := valN_some _ _ _ _ h1
                show (if r < big then _ else _) = _
                rw [if_neg]
                have := HB2.out
                omega
            have HVN := Lib.hid hVn
            clear hcN hN1 hN2 HE1 HE2 hVn
            go_wp2
            refine bodyPost_ret (v := .tuple #[.agg #[.bool false, .slice none 0 0], .bool false]) (by simp [results, Tryz.results123, go_sem, z40, z41]) rfl ?_
            rw [HVN.out]
            exact ⟨rfl, (HF.out.v.b.setCell (p := ⟨w.heap.size, 0, none⟩) (Nat.le_refl _) _).setCell (p := ⟨w.heap.size, 1, none⟩) (Nat.le_refl _) _⟩
        · obtain rfl : er1 = 2 := by rw [HE1.out, if_neg hN1]
          have hVn : V = none := by
            rw [HVU.out]
            rcases hU : U with _ | r
            · rfl
            · have h1 := HV2.out
              rw [hU] at h1
              have h2 := valN_some _ _ _ _ h1
              show (if r < big then _ else _) = _
              rw [if_neg]
              have := HB2.out
              omega
          have HVN := Lib.hid hVn
          clear hN1 HE1 HE2 hVn
          go_wp2
          refine bodyPost_ret (v := .tuple #[.agg #[.bool false, .slice none 0 0], .bool false]) (by simp [results, Tryz.results123, go_sem, z40, z41]) rfl ?_
          rw [HVN.out]
          exact ⟨rfl, (HF.out.v.b.setCell (p := ⟨w.heap.size, 0, none⟩) (Nat.le_refl _) _).setCell (p := ⟨w.heap.size, 1, none⟩) (Nat.le_refl _) _⟩
end Go.Proofs.YtagcfgoofiibfaaGreatDoor
