/- The lexer and what it reaches: part 19 of 41: N3, N4, N5. -/
import Derived.Test.YtagcfgoofiibfaaGreatDoorG16
import Derived.Test.YtagcfgoofiibfaaGreatDoorG09
import Derived.Test.YtagcfgoofiibfaaGreatDoorG18
import Derived.Lib.SmallJoins
set_option linter.unusedVariables false
set_option linter.unusedSimpArgs false
namespace Go.Proofs.YtagcfgoofiibfaaGreatDoor
open Go Go.RowKit

theorem c172 (ng : Bool) (dv : Value) (w : World) : Calls Tryz.prog 172 #[.agg #[.bool ng, dv]] w fun e w' => e = .returned dv ∧ Below w.heap.size w w' := by
  go_enter Tryz.func172, Tryz.ntmps172
  go_wp2
  go_ret
  exact ⟨rfl, (Below.refl _ _).alloc (Nat.le_refl _) _⟩

theorem IntsAt.alloc {w : World} {v : Value} {l : List Int} (h : IntsAt w v l) (o : Obj) : IntsAt (w.alloc o) v l := World.ownsRow.alloc h o

/-- whole numbers behind a value, in a block at or above B -/
def IntsUp (B : Nat) (w : World) (v : Value) (l : List Int) : Prop := w.ownsRow B 3 1 v l.length (l.map (Value.int .i64))
theorem IntsUp.le {B B' : Nat} {w : World} {v : Value} {l : List Int} (h : IntsUp B w v l) (hb : B' ≤ B) : IntsUp B' w v l := Go.Joins.ownsRow_le h hb
theorem IntsUp.ints {B : Nat} {w : World} {v : Value} {l : List Int} (h : IntsUp B w v l) : IntsAt w v l := h.le (Nat.zero_le _)
theorem IntsUp.set {B : Nat} {w : World} {v : Value} {l : List Int} (h : IntsUp B w v l) {b : Nat} (hb : b < B) (i : Nat) (u : Value) : IntsUp B (w.setCell ⟨b, i, none⟩ u) v l := ownsRow_setCell_below h hb _

set_option maxHeartbeats 1600000 in
theorem c238 (v : Value) (l : List Int) (w : World) (h : IntsAt w v l) (hb : InB l) (hl : l.length ≤ 45) :
    Calls Tryz.prog 238 #[.bool false, v] w fun e w' => ∃ dv, e = .returned (.agg #[.bool false, dv]) ∧ IntsUp w.heap.size w' dv (limbs (numL l)) ∧ Below w.heap.size w w' := by
  rw [← trimL_limbs l hb hl]
  have hlen := trimL_len l
  generalize ht : trimL l = t at hlen
  have hh := Lib.hid h
  have htt := Lib.hid ht
  clear h ht
  rcases t with _ | ⟨x, t⟩
  · go_enter Tryz.func238, Tryz.ntmps238
    go_wp2_with (go_at_call 250; (with_reducible refine (c250 v l _ ((hh.out).alloc _)).mono ?_); rintro e w' ⟨v', rfl, h1, rfl⟩; rw [htt.out] at h1; obtain ⟨a, cap, rfl⟩ := row_form h1)
    refine bodyPost_ret (v := .agg #[.bool false, .slice none 0 0]) (by simp [results, Tryz.results238, go_sem]) rfl ?_
    exact ⟨_, rfl, World.ownsRow_nil _ _ _ _, (Below.refl _ _).alloc (Nat.le_refl _) _⟩
  · have hpos : ¬ (((t.length : Int) + 1) = 0) := by omega
    go_enter Tryz.func238, Tryz.ntmps238
    go_wp2_with (first | (go_at_call 250; (with_reducible refine (c250 v l _ ((hh.out).alloc _)).mono ?_); rintro e w' ⟨v', rfl, h1, rfl⟩; rw [htt.out] at h1; rcases h1.form with ⟨rfl, h0⟩ | ⟨g, cap, rfl, hc, hm, hg, hx⟩; exact absurd h0 (by simp)) | (go_at_call 251; (refine (Tryz.slices_Clone_int g 0 _ cap (x :: t) _ (Nat.le_refl _) (by simp at hlen ⊢; omega) (fun j hj => by rw [Nat.zero_add]; exact hx j hj)).mono ?_); rintro e w' ⟨v', rfl, h2, h3, hb2⟩; obtain ⟨a2, cap2, rfl⟩ := row_form h2; have hbk : w'.heap[w.heap.size]? = some (.cells #[.bool false, .slice none 0 0] 39 (0, 0)) := (by rw [hb2.block w.heap.size (by simp)]; exact blk_new w _ rfl _); have kc0 : w'.cell? ⟨w.heap.size, 0, none⟩ = some (.bool false) := (by rw [cell_of_row _ _ _ _ _ _ hbk]; rfl); have kc1 : w'.cell? ⟨w.heap.size, 1, none⟩ = some (.slice none 0 0) := (by rw [cell_of_row _ _ _ _ _ _ hbk]; rfl); have kf : ∀ j, w'.frozen? ⟨w.heap.size, j, none⟩ = false := (fun j => frozen_of_row _ _ _ _ _ hbk); have H2 := Lib.hid h2; have HB2 := Lib.hid hb2; clear h2 hb2 hbk h3))
    refine bodyPost_ret (v := .agg #[.bool false, .slice a2 (t.length + 1) cap2]) (by simp [results, Tryz.results238, go_sem, kc0, kc1]) rfl ?_
    have h3 := H2.out
    rw [List.take_of_length_le (Nat.le_refl _)] at h3
    refine ⟨_, rfl, Go.Joins.ownsRow_le (ownsRow_setCell_below (ownsRow_setCell_below h3 (by simp) _) (by simp) _) (by simp), ?_⟩
    exact ((((Below.refl _ w).alloc (Nat.le_refl _) _).trans (HB2.out.mono (by simp))).setCell (p := ⟨w.heap.size, 0, none⟩) (Nat.le_refl _) _).setCell (p := ⟨w.heap.size, 1, none⟩) (Nat.le_refl _) _

/-- the parts so far of a whole number, and what is left -/
def FromTo (n : Nat) (ds : List Int) (r : Nat) : Prop := InB ds ∧ n = numL ds + 1000000000 ^ ds.length * r
theorem FromTo.step {n : Nat} {ds : List Int} {r : Nat} (h : FromTo n ds r) : FromTo n (ds ++ [((r % 1000000000 : Nat) : Int)]) (r / 1000000000) := by
  obtain ⟨h1, h2⟩ := h
  have hm := Nat.mod_lt r (show 0 < 1000000000 by decide)
  refine ⟨h1.snoc (by omega) (by omega), ?_⟩
  have e1 : (((r % 1000000000 : Nat) : Int)).toNat = r % 1000000000 := by omega
  rw [numL_snoc, List.length_append, List.length_cons, List.length_nil, Nat.pow_succ, e1, h2]
  have e2 : 1000000000 ^ ds.length * (r % 1000000000) + 1000000000 ^ ds.length * 1000000000 * (r / 1000000000) = 1000000000 ^ ds.length * r := by
    rw [Nat.mul_assoc, ← Nat.mul_add, Nat.mod_add_div]
  omega

theorem Tryz.info3 : (Tryz.prog.info? 3).map (fun i => (i.zero, i.size, i.bytes)) = some (some (.int .i64 0), 1, 8) := by kernel_rfl
theorem Tryz.underlying186 : Tryz.prog.underlying 186 = some (.slice 3) := by kernel_rfl

set_option maxRecDepth 100000 in
set_option maxHeartbeats 3200000 in
theorem c218 (n : Nat) (w : World) (hn : n < 1000000000000000000) :
    Calls Tryz.prog 218 #[.int .i64 (n : Int)] w fun e w' => ∃ dv, e = .returned (.agg #[.bool false, dv]) ∧ IntsUp w.heap.size w' dv (limbs n) ∧ Below w.heap.size w w' := by
  obtain ⟨i0, hi0, hz0, hz1, hz2⟩ := info_parts Tryz.info3
  have h0 : decide ((n : Int) < 0) = false := by simp
  go_enter Tryz.func218, Tryz.ntmps218
  go_wp2
  go_loopw [3, 4] (fun s3 s4 wr => ∃ (ds : List Int) (r : Nat), ds.length ≤ 2 ∧ (0 < r → ds.length ≤ 1) ∧ s3 = .int .u64 (r : Int) ∧ wr.ownsRow (w.heap.size + 1) 3 1 s4 ds.length (ds.map (Value.int .i64)) ∧ FromTo n ds r ∧ wr.heap[w.heap.size]? = some (.cells #[.bool false, .slice none 0 0] 39 (0, 0)) ∧ Below w.heap.size w wr)
    (fun s3 _ _ => (intOf s3).toNat)
  case atStart =>
    exact ⟨[], n, by simp, by simp, by simp, World.ownsRow_nil _ _ _ _, ⟨by (intro x hx; cases hx), by simp [numL]⟩, blk_new w _ rfl _, (Below.refl _ _).alloc (Nat.le_refl _) _⟩
  case round =>
    obtain ⟨ds, r, hl1, hl2, rfl, hrow, hft, hbk, hB⟩ := hrel
    have hrn : r < 1000000000000000000 := by
      have h2 := hft.2
      have h3 : r * 1 ≤ 1000000000 ^ ds.length * r := by rw [Nat.mul_comm]; exact Nat.mul_le_mul_right r (Nat.pow_pos (by decide))
      omega
    have ROW := Lib.hid hrow
    have FT := Lib.hid hft
    have BK := Lib.hid hbk
    have HB := Lib.hid hB
    clear hrow hft hbk hB
    rcases Nat.eq_zero_or_pos r with rfl | hr
    · have hnum : numL ds = n := by have := FT.out.2; simp at this; exact this.symm
      go_wp2_with (go_at_call 238; (refine (c238 _ ds _ (Go.Joins.ownsRow_le ROW.out (Nat.zero_le _)) FT.out.1 (by omega)).mono ?_); rintro e w' ⟨dv, rfl, h1, h2⟩; obtain ⟨a2, cap2, rfl⟩ := row_form h1; have hbk : w'.heap[w.heap.size]? = some (.cells #[.bool false, .slice none 0 0] 39 (0, 0)) := (by rw [h2.block w.heap.size (lt_of_blk BK.out)]; exact BK.out); have kc0 : w'.cell? ⟨w.heap.size, 0, none⟩ = some (.bool false) := (by rw [cell_of_row _ _ _ _ _ _ hbk]; rfl); have kc1 : w'.cell? ⟨w.heap.size, 1, none⟩ = some (.slice none 0 0) := (by rw [cell_of_row _ _ _ _ _ _ hbk]; rfl); have kf : ∀ j, w'.frozen? ⟨w.heap.size, j, none⟩ = false := (fun j => frozen_of_row _ _ _ _ _ hbk); have H1 := Lib.hid h1; have H2 := Lib.hid h2; clear h1 h2 hbk)
      refine bodyPost_ret (v := .agg #[.bool false, .slice a2 (limbs n).length cap2]) (by simp [results, Tryz.results218, go_sem, kc0, kc1]) rfl ?_
      have e1 := ((HB.out.trans (H2.out.mono HB.out.size)).setCell (p := ⟨w.heap.size, 0, none⟩) (Nat.le_refl _) (.bool false)).setCell (p := ⟨w.heap.size, 1, none⟩) (Nat.le_refl _) (.slice a2 (limbs n).length cap2)
      have hlt := lt_of_blk BK.out
      have h1 := H1.out
      rw [hnum] at h1
      exact ⟨_, rfl, ((h1.set hlt 0 _).set hlt 1 _).le (Nat.le_of_lt hlt), e1⟩
    · have hrz : (0 : Int) < (r : Int) := by omega
      have q1 : 0 ≤ (r : Int) % 1000000000 := by omega
      have q2 : (r : Int) % 1000000000 < 1000000000 := by omega
      have q3 : wrap64 ((r : Int) % 1000000000) = (r : Int) % 1000000000 := by unfold wrap64; omega
      go_wp2_with (at_builtin; refine wpList_append_lies _ rfl _ _ _ rfl (w.heap.size + 1) 3 i0 _ 1 8 Tryz.underlying186 hi0 hz0 hz1 hz2 rfl (by omega) _ ds.length (ds.map (Value.int .i64)) rfl ((ROW.out).alloc _) ⟨wr.heap.size, 0, none⟩ 1 1 [.int .i64 ((r : Int) % 1000000000)] rfl rfl (World.news_of_block (cs := #[.int .i64 ((r : Int) % 1000000000)]) (t := 3) (fr := (0, 0)) (heap_alloc_new _ _)) (by simp [Value.oneCell']) (by omega) (by unfold maxLen; omega) (by omega) (by have := (HB.out).size; have := lt_of_blk BK.out; simp; omega) _ rfl ?_; intro gg cap1 w1 hown1 hgrow hat hlt)
      have hgrow' : (wr.alloc (.cells #[.int .i64 ((r : Int) % 1000000000)] 3)).grownBy w1 u4.ownBlock := hgrow
      have e1 : (((r % 1000000000 : Nat) : Int)) = (r : Int) % 1000000000 := by omega
      have hst := FT.out.step
      rw [e1] at hst
      go_roundw
      case rel =>
        refine ⟨ds ++ [(r : Int) % 1000000000], r / 1000000000, ?_, ?_, by simp, by simpa using hown1, hst, ?_, ?_⟩
        · have := hl2 hr; simp; omega
        · intro h3
          have h4 := hl2 hr
          have h5 := FT.out.2
          rcases hd : ds with _ | ⟨x, t⟩
          · simp
          · exfalso
            have h6 : ds.length = 1 := by rw [hd] at h4 ⊢; simp at h4 ⊢; exact h4
            rw [h6] at h5
            omega
        · rw [hgrow'.block w.heap.size (by have := lt_of_blk BK.out; simp; omega) (fun e => by have := ROW.out.lt _ e.symm; omega)]
          exact blk_alloc BK.out _
        · exact (HB.out.alloc HB.out.size _).grown hgrow' (HB.out.alloc HB.out.size _).size (fun k hk => by have := ROW.out.lt k hk; omega)
      case measure =>
        simp [intOf]
        omega
end Go.Proofs.YtagcfgoofiibfaaGreatDoor
namespace Go.Proofs.YtagcfgoofiibfaaGreatDoor
open Go Go.RowKit

theorem c187 (d : Int) (w : World) (h0 : 0 ≤ d) (h1 : d < 1000000000) : Calls Tryz.prog 187 #[.int .i64 d] w fun e w' => e = .returned (.bool false) ∧ w = w' := by
  have g0 : ¬ d < 0 := by omega
  have g1 : ¬ 1000000000 ≤ d := by omega
  go_enter Tryz.func187, Tryz.ntmps187
  go_wp2
  go_ret
  exact ⟨rfl, rfl⟩

set_option maxHeartbeats 1600000 in
theorem c212 (v : Value) (l : List Int) (w : World) (h : IntsAt w v l) (hb : InB l) (hl : l.length ≤ 1000000) :
    Calls Tryz.prog 212 #[v, .func (.func 187) #[] #[]] w fun e w' => e = .returned (.int .i64 (-1)) ∧ w = w' := by
  rcases h.form with ⟨rfl, rfl⟩ | ⟨g, cap, rfl, hc, hm, hg, hx⟩
  · go_enter Tryz.func212, Tryz.ntmps212
    go_wp2
    go_loopw [8] (fun ix wr => ix = .int .i64 0 ∧ w = wr) (fun _ _ => 0)
    case atStart => exact ⟨rfl, rfl⟩
    case round =>
      obtain ⟨rfl, rfl⟩ := hrel
      go_wp2
      go_ret
      exact ⟨rfl, rfl⟩
  · have hh := Lib.hid h
    clear h
    go_enter Tryz.func212, Tryz.ntmps212
    go_wp2
    go_loopw [8] (fun ix wr => w = wr ∧ ∃ k : Nat, k ≤ l.length ∧ ix = .int .i64 (k : Int)) (fun ix _ => l.length - (intOf ix).toNat)
    case atStart => exact ⟨rfl, 0, Nat.zero_le _, rfl⟩
    case round =>
      obtain ⟨rfl, k, hk, rfl⟩ := hrel
      by_cases hlt : k < l.length
      · have hz : (k : Int) < (l.length : Int) := by omega
        have h1 := hx k hlt
        have h2 := atL_in l k hb
        go_wp2_with (go_at_call 187; (refine (c187 (atL l k) _ h2.1 h2.2).mono ?_); rintro e w' ⟨rfl, rfl⟩)
        go_roundw
        case rel => exact ⟨trivial, k + 1, by omega, by simp⟩
        case measure => simp [intOf]; omega
      · have hz : ¬ ((k : Int) < (l.length : Int)) := by omega
        go_wp2
        go_ret
        exact ⟨rfl, rfl⟩

theorem c186 (v : Value) (l : List Int) (w : World) (h : IntsAt w v l) (hb : InB l) (hl : l.length ≤ 1000000) :
    Calls Tryz.prog 186 #[v, .func (.func 187) #[] #[]] w fun e w' => e = .returned (.bool false) ∧ w = w' := by
  obtain ⟨a, cap, hv⟩ := row_form h
  subst hv
  go_enter Tryz.func186, Tryz.ntmps186
  go_wp2_with (go_at_call 212; (refine (c212 _ l _ h hb hl).mono ?_); rintro e w' ⟨rfl, rfl⟩)
  go_ret
  exact ⟨rfl, rfl⟩

set_option maxHeartbeats 1600000 in
theorem c141 (dv : Value) (l : List Int) (w : World) (h : IntsAt w dv l) (hb : InB l) (hz : NoZ l) (hl : l.length ≤ 40) :
    Calls Tryz.prog 141 #[.agg #[.bool false, dv]] w fun e w' => e = .returned (.int .i64 0) ∧ Below w.heap.size w w' := by
  rcases h.form with ⟨rfl, rfl⟩ | ⟨g, cap, rfl, hc, hm, hg, hx⟩
  · go_enter Tryz.func141, Tryz.ntmps141
    go_wp2_with (go_at_call 186; (refine (c186 _ [] _ (IntsAt.nil _) (by intro x hx; cases hx) (by simp)).mono ?_); rintro e w' ⟨rfl, rfl⟩)
    go_ret
    exact ⟨rfl, (Below.refl _ _).alloc (Nat.le_refl _) _⟩
  · rcases List.eq_nil_or_concat l with rfl | ⟨r, x, rfl⟩
    · have hh := Lib.hid h
      clear h
      go_enter Tryz.func141, Tryz.ntmps141
      go_wp2_with (go_at_call 186; (refine (c186 _ [] _ ((hh.out).alloc _) (by intro x hx; cases hx) (by simp)).mono ?_); rintro e w' ⟨rfl, rfl⟩)
      go_ret
      exact ⟨rfl, (Below.refl _ _).alloc (Nat.le_refl _) _⟩
    · rw [List.concat_eq_append] at *
      have hx0 : x ≠ 0 := by simpa [NoZ] using hz
      have hx' := hx r.length (by simp)
      have e1 : atL (r ++ [x]) r.length = x := by simp [atL]
      rw [e1] at hx'
      have hlen : (r ++ [x]).length = r.length + 1 := by simp
      rw [hlen] at hl hc
      have qw : wrap64 (r.length : Int) = (r.length : Int) := by unfold wrap64; omega
      have hxA : ∀ o, (w.alloc o).cell? ⟨g, r.length, none⟩ = some (.int .i64 x) := fun o => by rw [World.cell?_alloc_old _ _ _ (by simp; omega)]; exact hx'
      have g1 : ¬ ((40 : Int) < (r.length : Int) + 1) := by omega
      have g2 : ¬ ((r.length : Int) + 1 = 0) := by omega
      have g3 : (0 : Int) < (r.length : Int) + 1 := by omega
      have hh := Lib.hid h
      clear h
      go_enter Tryz.func141, Tryz.ntmps141
      go_wp2_with (go_at_call 186; (refine (c186 _ (r ++ [x]) _ (by have h := (hh.out).alloc (.cells #[.bool false, .slice (some ⟨g, 0, none⟩) (r ++ [x]).length cap] 39); rw [hlen] at h; exact h) hb (by simp; omega)).mono ?_); rintro e w' ⟨rfl, rfl⟩)
      go_ret
      exact ⟨rfl, (Below.refl _ _).alloc (Nat.le_refl _) _⟩
end Go.Proofs.YtagcfgoofiibfaaGreatDoor
namespace Go.Proofs.YtagcfgoofiibfaaGreatDoor
open Go Go.RowKit

theorem IntsAt.belowB {w w' : World} {v : Value} {l : List Int} (h : IntsAt w v l) {B : Nat} (hb : Below B w w') (hB : w.heap.size ≤ B) : IntsAt w' v l := h.below (hb.mono hB)

set_option maxRecDepth 100000 in
set_option maxHeartbeats 3200000 in
theorem c271 (v1 v2 : Value) (l1 l2 : List Int) (w : World) (h1 : IntsAt w v1 l1) (h2 : IntsAt w v2 l2) (hb1 : InB l1) (hb2 : InB l2) (hl1 : l1.length ≤ 44) (hl2 : l2.length ≤ 44) :
    Calls Tryz.prog 271 #[v1, v2] w fun e w' => ∃ v out, e = .returned v ∧ IntsUp w.heap.size w' v out ∧ InB out ∧ numL out = numL l1 + numL l2 ∧ out.length ≤ 45 ∧ Below w.heap.size w w' := by
  obtain ⟨i0, hi0, hz0, hz1, hz2⟩ := info_parts Tryz.info3
  obtain ⟨a1, cp1, rfl⟩ := row_form h1
  obtain ⟨a2, cp2, rfl⟩ := row_form h2
  have H1 := Lib.hid h1
  have H2 := Lib.hid h2
  clear h1 h2
  go_enter Tryz.func271, Tryz.ntmps271
  go_wp2
  go_loopw [5, 6, 14] (fun s5 s6 s14 wr => ∃ (i c : Nat) (out : List Int), i ≤ max l1.length l2.length ∧ s14 = .int .i64 (i : Int) ∧ s6 = .int .i64 (c : Int) ∧ SumTo l1 l2 i out c ∧ IntsUp w.heap.size wr s5 out ∧ Below w.heap.size w wr)
    (fun _ _ s14 _ => max l1.length l2.length - (intOf s14).toNat)
  case atStart => exact ⟨0, 0, [], by omega, rfl, rfl, SumTo.start _ _, World.ownsRow_nil _ _ _ _, Below.refl _ _⟩
  case round =>
    obtain ⟨i, c, out, hi, rfl, rfl, hsum, hrow, hB⟩ := hrel
    have hil : out.length = i := hsum.1
    have hc1 : c ≤ 1 := hsum.2.2.1
    have hol : out.length ≤ 44 := by omega
    have SUM := Lib.hid hsum
    have ROW := Lib.hid hrow
    have HB := Lib.hid hB
    clear hsum hrow hB
    by_cases hlt : i < max l1.length l2.length
    · have hz : (i : Int) < max (l1.length : Int) (l2.length : Int) := by omega
      have p1 := atL_in l1 i hb1
      have p2 := atL_in l2 i hb2
      have q1 : wrap64 (atL l1 i + atL l2 i) = atL l1 i + atL l2 i := by unfold wrap64; omega
      have q2 : wrap64 (atL l1 i + atL l2 i + (c : Int)) = atL l1 i + atL l2 i + (c : Int) := by unfold wrap64; omega
      have q0 : 0 ≤ atL l1 i + atL l2 i + (c : Int) := by omega
      go_wp2_with (first | (go_at_call 276; first | ((with_reducible refine (c276 _ l1 i wr ((H1.out).below HB.out) (by omega)).mono ?_); rintro e w' ⟨rfl, rfl⟩) | ((with_reducible refine (c276 _ l2 i wr ((H2.out).below HB.out) (by omega)).mono ?_); rintro e w' ⟨rfl, rfl⟩)) | (at_builtin; refine wpList_append_lies _ rfl _ _ _ rfl w.heap.size 3 i0 _ 1 8 Tryz.underlying186 hi0 hz0 hz1 hz2 rfl (by omega) _ out.length (out.map (Value.int .i64)) rfl ((ROW.out).alloc _) ⟨wr.heap.size, 0, none⟩ 1 1 [.int .i64 ((atL l1 i + atL l2 i + (c : Int)) % 1000000000)] rfl rfl (World.news_of_block (cs := #[.int .i64 ((atL l1 i + atL l2 i + (c : Int)) % 1000000000)]) (t := 3) (fr := (0, 0)) (heap_alloc_new _ _)) (by simp [Value.oneCell']) (by omega) (by unfold maxLen; omega) (by omega) (by have := (HB.out).size; simp; omega) _ rfl ?_; intro gg cap1 w1 hown1 hgrow hat hlt1))
      have hst := SUM.out.step hb1 hb2
      have e1 : ((((atL l1 i).toNat + (atL l2 i).toNat + c) % 1000000000 : Nat) : Int) = (atL l1 i + atL l2 i + (c : Int)) % 1000000000 := by omega
      have e2 : ((((atL l1 i).toNat + (atL l2 i).toNat + c) / 1000000000 : Nat) : Int) = (atL l1 i + atL l2 i + (c : Int)) / 1000000000 := by omega
      rw [e1] at hst
      have hgrow' : (wr.alloc (.cells #[.int .i64 ((atL l1 i + atL l2 i + (c : Int)) % 1000000000)] 3)).grownBy w1 _ := hgrow
      go_roundw
      case rel =>
        refine ⟨i + 1, _, _, by omega, by simp, by rw [← e2], hst, ?_, (HB.out.alloc HB.out.size _).grown hgrow' (HB.out.alloc HB.out.size _).size (fun k hk => (ROW.out.lt k hk).1)⟩
        show World.ownsRow _ _ _ _ _ _ _
        rw [List.length_append, hil]
        rw [hil] at hown1
        simpa using hown1
      case measure => simp [intOf]; omega
    · have hz : ¬ ((i : Int) < max (l1.length : Int) (l2.length : Int)) := by omega
      go_wp2_with (at_builtin; refine wpList_append_lies _ rfl _ _ _ rfl w.heap.size 3 i0 _ 1 8 Tryz.underlying186 hi0 hz0 hz1 hz2 rfl (by omega) _ out.length (out.map (Value.int .i64)) rfl ((ROW.out).alloc _) ⟨wr.heap.size, 0, none⟩ 1 1 [.int .i64 ((c : Int))] rfl rfl (World.news_of_block (cs := #[.int .i64 ((c : Int))]) (t := 3) (fr := (0, 0)) (heap_alloc_new _ _)) (by simp [Value.oneCell']) (by omega) (by unfold maxLen; omega) (by omega) (by have := (HB.out).size; simp; omega) _ rfl ?_; intro gg cap1 w1 hown1 hgrow hat hlt1)
      have hd := SUM.out.done (i := i) (by omega) (by omega)
      have hgrow' : (wr.alloc (.cells #[.int .i64 (c : Int)] 3)).grownBy w1 _ := hgrow
      refine bodyPost_ret (v := .slice (some ⟨gg, 0, none⟩) (i + 1) cap1) (by simp [results, Tryz.results271, go_sem]) rfl ?_
      refine ⟨_, rfl, out ++ [(c : Int)], ?_, hd.1, hd.2, by simp; omega, (HB.out.alloc HB.out.size _).grown hgrow' (HB.out.alloc HB.out.size _).size (fun k hk => (ROW.out.lt k hk).1)⟩
      show World.ownsRow _ _ _ _ _ _ _
      rw [List.length_append, hil]
      rw [hil] at hown1
      simpa using hown1
end Go.Proofs.YtagcfgoofiibfaaGreatDoor
