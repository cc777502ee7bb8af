/- The lexer and what it reaches: part 18 of 41: F0, E2, E3. -/
import Derived.Test.YtagcfgoofiibfaaGreatDoorG17
import Derived.Test.YtagcfgoofiibfaaGreatDoorG13
import Derived.OwnWalkIn
import Derived.TacticsInMore
import Derived.LoopNIn
import Derived.LoopIn
set_option linter.unusedVariables false
set_option linter.unusedSimpArgs false
namespace Go.Proofs.YtagcfgoofiibfaaGreatDoor
open Go Go.RowKit
attribute [local go_sem] Oper.semAt_some

theorem grown_set (w : World) (b i : Nat) (v : Value) : w.grownBy (w.setCell ⟨b, i, none⟩ v) (some b) := ⟨rfl, rfl, rfl, by simp, fun k _ hk => heap_setCell_other _ _ _ _ (fun e => hk (by rw [e]))⟩

theorem set_cell_other (w : World) {b b' : Nat} (h : b' ≠ b) (i : Nat) (v : Value) {j : Nat} {u : Value} (hc : w.cell? ⟨b', j, none⟩ = some u) : (w.setCell ⟨b, i, none⟩ v).cell? ⟨b', j, none⟩ = some u :=
  (Keep.grown (Y := fun r => r = b) (grown_set w b i v) (fun r e => by cases e; exact .inl rfl)).cell (p := ⟨b', j, none⟩) h hc

set_option maxRecDepth 100000 in
set_option maxHeartbeats 3200000 in
theorem c95 (m : Nat) (Bs : Nat) (s : ByteArray) (hsz : s.size ≤ 1073741824) (Y : Nat → Prop) (hYb : ¬ Y Bs) (w : World) (hYw : ∀ r, Y r → r < w.heap.size)
    (hs : w.cell? ⟨Bs, 0, none⟩ = some (.string s)) :
    SeqV Tryz.prog m 95 #[.pointer (some ⟨Bs, 0, none⟩)] (fun k : Nat => #[.int .i64 (k : Int), .agg #[.int .i64 (pos s k).1, .int .i64 (pos s k).2]]) (fun _ => False) Y
      (fun xs => xs = List.range (s.size + 1)) (fun pre => ∃ k, k ≤ s.size + 1 ∧ pre = List.range k) (fun k => k ≤ s.size) (s.size + 1) w := by
  intro l J Jx W hW hl1 hl2 hJ hJx hY h0
  have hb1 : Bs < w.heap.size := World.block_lt_of_cell? w _ hs
  have hs' : W.cell? ⟨Bs, 0, none⟩ = some (.string s) := (hW.cell (p := ⟨Bs, 0, none⟩) hb1).trans hs
  have hsW := hW.size
  have hsA : ∀ o, (W.alloc o).cell? ⟨Bs, 0, none⟩ = some (.string s) := fun o => by rw [World.cell?_alloc_old _ _ _ (by simp; omega)]; exact hs'
  have HY := Lib.hid hY
  have HJ := Lib.hid hJ
  have HJ0 := Lib.hid h0
  clear hY hJ h0 hs hJx hW
  refine callsIn_of_wp Tryz.func95 rfl trivial ?_ rfl
  simp only [Tryz.ntmps95, List.size_toArray, List.length_cons, List.length_nil, Nat.reduceAdd, Nat.reduceSub, Array.replicate_succ, Array.replicate_zero, List.push_toArray, List.append_toArray, List.nil_append, List.cons_append]
  gi_wp2
  gi_loopw [8] (fun ix wr => ∃ k : Nat, k ≤ s.size ∧ ix = .int .i64 (k : Int) ∧ J (List.range k) wr ∧ wr.cell? ⟨Bs, 0, none⟩ = some (.string s) ∧ wr.heap[W.heap.size]? = some (.cells #[.int .i64 (pos s k).1, .int .i64 (pos s k).2] 74 (0, 0)))
    (fun ix _ => s.size - (intOf ix).toNat)
  case atStart =>
    exact ⟨0, Nat.zero_le _, rfl, HJ.out _ _ _ none HJ0.out (World.grownBy_alloc W _ none) (fun r e => by cases e), hsA _, heap_alloc_new W _⟩
  case round =>
    obtain ⟨k, hk, rfl, hJd, hsr, hbr⟩ := hrel
    have HJd := Lib.hid hJd
    clear hJd HJ0 hsA
    have hB := Lib.hid hbr
    have hc0 : wr.cell? ⟨W.heap.size, 0, none⟩ = some (.int .i64 (pos s k).1) := by rw [cell_of_row _ _ _ _ _ _ hbr]; rfl
    have hc1 : wr.cell? ⟨W.heap.size, 1, none⟩ = some (.int .i64 (pos s k).2) := by rw [cell_of_row _ _ _ _ _ _ hbr]; rfl
    have hf0 : ∀ j, wr.frozen? ⟨W.heap.size, j, none⟩ = false := fun j => frozen_of_row _ _ _ _ _ hbr
    clear hbr
    obtain ⟨fn, tmps, assign, body, hy, hR⟩ := HY.out _ k wr HJd.out (by simp; omega) hk
    by_cases hlt : k < s.size
    · have hz : (k : Int) < (s.size : Int) := by omega
      gi_wp2
      refine ⟨fun hd => (by cases hd), hR.mono ?_⟩
      rintro e W3 (⟨rfl, hJ3, hk3⟩ | ⟨rfl, hJx3⟩)
      · have nB : ¬ (W.heap.size = l ∨ Y W.heap.size) := fun h => by
          rcases h with h | h
          · omega
          · have := hYw _ h; omega
        have ns : ¬ (Bs = l ∨ Y Bs) := fun h => by rcases h with h | h; omega; exact hYb h
        have hs3 := hk3.cell (p := ⟨Bs, 0, none⟩) ns hsr
        have hb3 : W3.heap[W.heap.size]? = some (.cells #[.int .i64 (pos s k).1, .int .i64 (pos s k).2] 74 (0, 0)) := (hk3.blk _ (lt_of_blk hB.out) nB).trans hB.out
        have hc30 : W3.cell? ⟨W.heap.size, 0, none⟩ = some (.int .i64 (pos s k).1) := by rw [cell_of_row _ _ _ _ _ _ hb3]; rfl
        have hc31 : W3.cell? ⟨W.heap.size, 1, none⟩ = some (.int .i64 (pos s k).2) := by rw [cell_of_row _ _ _ _ _ _ hb3]; rfl
        have hf3 : ∀ j, W3.frozen? ⟨W.heap.size, j, none⟩ = false := fun j => frozen_of_row _ _ _ _ _ hb3
        have HB3 := Lib.hid hb3
        have HJ3 := Lib.hid hJ3
        have hbd := pos_bd s k
        have hbt : ((s[k]'hlt).toNat : Int) = bt s k := bt_get s k hlt
        have hl3 := lt_of_blk HB3.out
        clear hb3 hJ3 hk3 hR hy hc0 hc1 hf0 hsr
        gi_wp2
        refine wpIn_wide.2 ?_
        go_region_with (first | (go_at_call 96; (refine (c96 (pos s k).1 (pos s k).2 _ (by omega) (by omega) (by omega) (by omega) _).mono ?_); rintro e w' ⟨rfl, hbb⟩; have hb4 : w'.heap[W.heap.size]? = some (.cells #[.int .i64 (pos s k).1, .int .i64 (pos s k).2] 74 (0, 0)) := (hbb.block _ (by simpa using hl3)).trans HB3.out; have hc40 : w'.cell? ⟨W.heap.size, 0, none⟩ = some (.int .i64 (pos s k).1) := (by rw [cell_of_row _ _ _ _ _ _ hb4]; rfl); have hc41 : w'.cell? ⟨W.heap.size, 1, none⟩ = some (.int .i64 (pos s k).2) := (by rw [cell_of_row _ _ _ _ _ _ hb4]; rfl); have hf4 : ∀ j, w'.frozen? ⟨W.heap.size, j, none⟩ = false := (fun j => frozen_of_row _ _ _ _ _ hb4); have HB4 := Lib.hid hb4; have HBB := Lib.hid hbb; clear hb4 hbb))
        all_goals
          gi_wp2
          go_roundw
          case rel =>
            have e1 := heap_setCell_same w' W.heap.size 0 _ _ (.int .i64 (nxt (pos s k).fst (pos s k).snd (bt s k)).fst) HB4.out
            have e2 := heap_setCell_same _ W.heap.size 1 _ _ (.int .i64 (nxt (pos s k).fst (pos s k).snd (bt s k)).snd) e1
            have j0 : J (List.range (k + 1)) W3 := by rw [List.range_succ]; exact HJ3.out
            have hq := Below.grownBy HBB.out
            have j1 : J (List.range (k + 1)) w' := HJ.out _ W3 w' none j0 ⟨hq.os, hq.tape, hq.output, hq.size, hq.block⟩ (fun r e => by cases e)
            have j2 := HJ.out _ _ _ _ j1 (grown_set w' W.heap.size 0 (.int .i64 (nxt (pos s k).fst (pos s k).snd (bt s k)).fst)) (fun r e => by cases e; exact .inr (Nat.le_refl _))
            have j3 := HJ.out _ _ _ _ j2 (grown_set _ W.heap.size 1 (.int .i64 (nxt (pos s k).fst (pos s k).snd (bt s k)).snd)) (fun r e => by cases e; exact .inr (Nat.le_refl _))
            have hs4 : w'.cell? ⟨Bs, 0, none⟩ = some (.string s) := (HBB.out.cell (p := ⟨Bs, 0, none⟩) (by show Bs < W3.heap.size; omega)).trans hs3
            have hne : Bs ≠ W.heap.size := by omega
            refine ⟨k + 1, by omega, by simp, j3, ?_, e2⟩
            exact set_cell_other _ hne _ _ (set_cell_other _ hne _ _ hs4)
          case measure => simp [intOf]; omega
      · gi_wp2
        refine bodyPost_ret (results_none rfl _ _ _) rfl ?_
        exact ⟨⟨_, rfl⟩, .inr ⟨_, ⟨k + 1, by omega, (List.range_succ).symm⟩, hJx3⟩⟩
    · obtain rfl : k = s.size := by omega
      have hz : decide ((s.size : Int) < (s.size : Int)) = false := by simp
      gi_wp2
      refine ⟨fun hd => (by cases hd), hR.mono ?_⟩
      rintro e W3 (⟨rfl, hJ3, hk3⟩ | ⟨rfl, hJx3⟩)
      · gi_wp2
        go_end0
        exact ⟨⟨_, rfl⟩, .inl ⟨_, List.range_succ.symm, hJ3⟩⟩
      · gi_wp2
        go_end0
        exact ⟨⟨_, rfl⟩, .inr ⟨_, ⟨s.size + 1, Nat.le_refl _, (List.range_succ).symm⟩, hJx3⟩⟩
end Go.Proofs.YtagcfgoofiibfaaGreatDoor
namespace Go.Proofs.YtagcfgoofiibfaaGreatDoor
open Go Go.RowKit
attribute [local go_sem] Oper.semAt_some

theorem cell_putObj {W : World} {l : Nat} {r : Loop} (o : Obj) (hl : W.heap[l]? = some (.loop r)) {b j : Nat} {v : Value} (hc : W.cell? ⟨b, j, none⟩ = some v) : (W.putObj l o).cell? ⟨b, j, none⟩ = some v := by
  have hne : b ≠ l := by
    rintro rfl
    unfold World.cell? at hc
    rw [hl] at hc; cases hc
  exact (Keep.putObj (Y := fun k => k = l) o rfl).cell (p := ⟨b, j, none⟩) hne hc
theorem frozen_putObj {W : World} {l : Nat} {r : Loop} (o : Obj) (hl : W.heap[l]? = some (.loop r)) {b j : Nat} {v : Value} (hc : W.cell? ⟨b, j, none⟩ = some v) : (W.putObj l o).frozen? ⟨b, j, none⟩ = W.frozen? ⟨b, j, none⟩ := by
  have hne : b ≠ l := by
    rintro rfl
    unfold World.cell? at hc
    rw [hl] at hc; cases hc
  have h2 : (W.putObj l o).heap[b]? = W.heap[b]? := World.putObj_heap_other (by omega)
  simp only [World.frozen?, h2]
theorem blk_alloc {W : World} {k : Nat} {x : Obj} (h : W.heap[k]? = some x) (o : Obj) : (W.alloc o).heap[k]? = some x := by rw [Below.heap_alloc _ _ _ (lt_of_blk h)]; exact h
theorem blk_new (W : World) (k : Nat) (h : W.heap.size = k) (o : Obj) : (W.alloc o).heap[k]? = some o := by subst h; exact heap_alloc_new W o
/-- a block that lay, under a turn of later ones -/
theorem grown_blk {W W' : World} {row : Option Nat} {n : Nat} (hg : W.grownBy W' row) (hr : ∀ r, row = some r → False ∨ n ≤ r) {k : Nat} (hk : k < n) {o : Obj} (h : W.heap[k]? = some o) : W'.heap[k]? = some o := by
  rw [hg.block k (lt_of_blk h) (fun e => by rcases hr k e.symm with h | h; exact h; omega)]; exact h

theorem blk_putObj {W : World} {l : Nat} {r : Loop} (o : Obj) (hl : W.heap[l]? = some (.loop r)) {b : Nat} {cs : Array Value} {t : TypeId} {fr : Nat × Nat} (hc : W.heap[b]? = some (.cells cs t fr)) : (W.putObj l o).heap[b]? = some (.cells cs t fr) := by
  have hne : b ≠ l := by
    rintro rfl
    rw [hl] at hc; cases hc
  rw [World.putObj_heap_other (by omega)]; exact hc
theorem below_putObj {w W : World} {l : Nat} (o : Obj) (h : Below w.heap.size w W) (hl : w.heap.size ≤ l) : Below w.heap.size w (W.putObj l o) := h.grown (grownBy_putObj' W l o) h.size (fun k e => by cases e; exact hl)

theorem blk_set_same {W : World} {b : Nat} {u : Value} {t : TypeId} (h : W.heap[b]? = some (.cells #[u] t (0, 0))) (v : Value) : (W.setCell ⟨b, 0, none⟩ v).heap[b]? = some (.cells #[v] t (0, 0)) := heap_setCell_same W b 0 _ _ v h
theorem blk_set_other {W : World} {k b i : Nat} {o : Obj} (h : W.heap[k]? = some o) (v : Value) (hne : k ≠ b) : (W.setCell ⟨b, i, none⟩ v).heap[k]? = some o := by rw [heap_setCell_other _ _ _ _ hne]; exact h
theorem below_drew {B : Nat} {w X : World} (h : Below B w X) : Below B w X.drew := ⟨h.os, h.tape, h.output, h.size, h.block⟩
theorem blk_put_other {W : World} {k D : Nat} {o : Obj} (h : W.heap[k]? = some o) (v : Obj) (hne : k ≠ D) : (W.putObj D v).heap[k]? = some o := by rw [World.putObj_heap_other (by omega)]; exact h

/-- Locate's answer -/
def locTo (s : ByteArray) (at_ : Int) (w : World) (e : Ending) (w' : World) : Prop :=
  (if 0 ≤ at_ ∧ at_ ≤ s.size then e = .returned (.tuple #[.int .i64 (pos s at_.toNat).1, .int .i64 (pos s at_.toNat).2, .int .i64 0])
   else e = .returned (.tuple #[.int .i64 0, .int .i64 0, .int .i64 1])) ∧ Below w.heap.size w w'

def LocI (at_ : Int) (w : World) (pre : List Nat) (W : World) : Prop := (∀ j ∈ pre, ((j : Nat) : Int) ≠ at_) ∧ W.heap[w.heap.size]? = some (.cells #[.int .i64 at_] 3 (0, 0)) ∧ W.heap[w.heap.size + 1]? = some (.cells #[.int .i64 0] 3 (0, 0)) ∧
  W.heap[w.heap.size + 1 + 1]? = some (.cells #[.int .i64 0] 3 (0, 0)) ∧ W.heap[w.heap.size + 1 + 1 + 1]? = some (.cells #[.int .i64 0] 24 (0, 0)) ∧ Below w.heap.size w W
def LocX (s : ByteArray) (at_ : Int) (w : World) (c : Code) (pre : List Nat) (W : World) : Prop := c = .ret ∧ ∃ x : Nat, pre.getLast? = some x ∧ (x : Int) = at_ ∧ W.heap[w.heap.size + 1]? = some (.cells #[.int .i64 (pos s x).1] 3 (0, 0)) ∧
  W.heap[w.heap.size + 1 + 1]? = some (.cells #[.int .i64 (pos s x).2] 3 (0, 0)) ∧ W.heap[w.heap.size + 1 + 1 + 1]? = some (.cells #[.int .i64 0] 24 (0, 0)) ∧ Below w.heap.size w W
def LocA (s : ByteArray) (at_ : Int) (w : World) (_ : Nat) (pre : List Nat) (x : Nat) (a : Act) (W : World) : Prop := LocI at_ w pre W ∧ ∃ Bx, w.heap.size + 5 ≤ Bx ∧ W.heap[Bx]? = some (.cells #[.int .i64 (pos s x).1, .int .i64 (pos s x).2] 74 (0, 0)) ∧
  a = { tmps := #[Value.string s, .int .i64 at_, undef, .pointer (some ⟨w.heap.size, 0, none⟩), .pointer (some ⟨w.heap.size + 1, 0, none⟩), .pointer (some ⟨w.heap.size + 1 + 1, 0, none⟩), .pointer (some ⟨w.heap.size + 1 + 1 + 1, 0, none⟩), .int .i64 (x : Int), .pointer (some ⟨Bx, 0, none⟩), .string s, .func (.func 95) #[] #[.pointer (some ⟨w.heap.size + 1 + 1 + 1 + 1, 0, none⟩)], .int .i64 (x : Int), .agg #[.int .i64 (pos s x).1, .int .i64 (pos s x).2], undef, undef, undef, undef, undef, undef, undef], defers := [] }

set_option maxRecDepth 100000 in
set_option maxHeartbeats 3200000 in
theorem c18 (s : ByteArray) (at_ : Int) (w : World) (hsz : s.size ≤ 1073741824) : Calls Tryz.prog 18 #[.string s, .int .i64 at_] w (locTo s at_ w) := by
  have hf59 : Fence.wide.fn 59 := trivial
  refine (callsIn_wide (n := 5)).1 ?_
  refine callsIn_of_wp_marks Tryz.func18 rfl trivial ?_ rfl
  simp only [Tryz.ntmps18, List.size_toArray, List.length_cons, List.length_nil, Nat.reduceAdd, Nat.reduceSub, Array.replicate_succ, Array.replicate_zero, List.push_toArray, List.append_toArray, List.nil_append, List.cons_append]
  gi_wp2_with (gi_at_call 59; refine (callsIn_wide.2 (c59 _ _)).mono ?_; rintro e w' ⟨rfl, rfl⟩)
  generalize hW : World.alloc _ _ = W0
  have hz : W0.heap.size = w.heap.size + 5 := by rw [← hW]; simp
  have hbl : Below w.heap.size w W0 := by
    rw [← hW]; exact ((((((Below.refl _ _).alloc (by simp) _).alloc (by simp) _).alloc (by simp; omega) _).alloc (by simp; omega) _).alloc (by simp; omega) _)
  have b0 : W0.heap[w.heap.size]? = some (.cells #[.int .i64 at_] 3 (0, 0)) := by rw [← hW]; exact blk_alloc (blk_alloc (blk_alloc (blk_alloc (blk_new _ _ rfl _) _) _) _) _
  have b1 : W0.heap[w.heap.size + 1]? = some (.cells #[.int .i64 0] 3 (0, 0)) := by rw [← hW]; exact blk_alloc (blk_alloc (blk_alloc (blk_new _ _ (by simp) _) _) _) _
  have b2 : W0.heap[w.heap.size + 1 + 1]? = some (.cells #[.int .i64 0] 3 (0, 0)) := by rw [← hW]; exact blk_alloc (blk_alloc (blk_new _ _ (by simp) _) _) _
  have b3 : W0.heap[w.heap.size + 1 + 1 + 1]? = some (.cells #[.int .i64 0] 24 (0, 0)) := by rw [← hW]; exact blk_alloc (blk_new _ _ (by simp) _) _
  have b4 : W0.heap[w.heap.size + 1 + 1 + 1 + 1]? = some (.cells #[.string s] 9 (0, 0)) := by rw [← hW]; exact blk_new _ _ (by simp) _
  clear hW
  refine rf_law (by omega) (gf := 95) (lb := #[.pointer (some ⟨w.heap.size + 1 + 1 + 1 + 1, 0, none⟩)]) (by rfl) (enters_of Tryz.func95 (by kernel_rfl) rfl)
    (c95 _ _ s hsz (fun r => r = w.heap.size + 1 ∨ r = w.heap.size + 1 + 1 ∨ r = w.heap.size + 1 + 1 + 1) (by omega) W0 (by rintro r (rfl | rfl | rfl) <;> omega) (by rw [cell_of_row _ _ _ _ _ _ b4]; rfl)) (fun _ => rfl)
    (fun r h => h.elim) (by rintro r (rfl | rfl | rfl) <;> omega)
    (LocI at_ w) (LocX s at_ w) ?hI ?hIx ⟨by simp, b0, b1, b2, b3, hbl⟩ (LocA s at_ w) ?hA ?assign ?body ?done ?stop
  case hI =>
    rintro pre A A' row ⟨h1, c0, c1, c2, c3, hB⟩ hg hr
    exact ⟨h1, grown_blk hg hr (by omega) c0, grown_blk hg hr (by omega) c1, grown_blk hg hr (by omega) c2, grown_blk hg hr (by omega) c3, hB.grown hg hB.size (fun k e => by rcases hr k e with h | h; exact h.elim; omega)⟩
  case hIx =>
    rintro c pre A A' row ⟨h1, x, h2, h3, c1, c2, c3, hB⟩ hg hr
    exact ⟨h1, x, h2, h3, grown_blk hg hr (by omega) c1, grown_blk hg hr (by omega) c2, grown_blk hg hr (by omega) c3, hB.grown hg hB.size (fun k e => by rcases hr k e with h | h; exact h.elim; omega)⟩
  case hA =>
    rintro l pre x a' A r o' hl hlr ⟨⟨h1, c0, c1, c2, c3, hB⟩, Bx, hbx0, hbx, ha⟩
    exact ⟨⟨h1, blk_putObj o' hlr c0, blk_putObj o' hlr c1, blk_putObj o' hlr c2, blk_putObj o' hlr c3, below_putObj o' hB (by omega)⟩, Bx, hbx0, blk_putObj o' hlr hbx, ha⟩
  case assign =>
    rintro l pre x W r hl hlr ⟨h1, c0, c1, c2, c3, hB⟩ hlen _
    have hWl := lt_of_blk hlr
    gi_wp2
    exact ⟨Keep.grown (World.grownBy_alloc W _ none) (fun r e => by cases e), ⟨h1, blk_alloc c0 _, blk_alloc c1 _, blk_alloc c2 _, blk_alloc c3 _, hB.alloc hB.size _⟩, _, by omega, blk_new _ _ rfl _, rfl⟩
  case body =>
    rintro l pre x a' W r hl hlr ⟨⟨h1, c0, c1, c2, c3, hB⟩, Bx, hbx0, hbx, rfl⟩ hlen _
    have k0 : W.cell? ⟨w.heap.size, 0, none⟩ = some (.int .i64 at_) := by rw [cell_of_row _ _ _ _ _ _ c0]; rfl
    have k1 : W.cell? ⟨w.heap.size + 1, 0, none⟩ = some (.int .i64 0) := by rw [cell_of_row _ _ _ _ _ _ c1]; rfl
    have k2 : W.cell? ⟨w.heap.size + 1 + 1, 0, none⟩ = some (.int .i64 0) := by rw [cell_of_row _ _ _ _ _ _ c2]; rfl
    have k3 : W.cell? ⟨w.heap.size + 1 + 1 + 1, 0, none⟩ = some (.int .i64 0) := by rw [cell_of_row _ _ _ _ _ _ c3]; rfl
    have f1 : W.frozen? ⟨w.heap.size + 1, 0, none⟩ = false := frozen_of_row _ _ _ _ _ c1
    have f2 : W.frozen? ⟨w.heap.size + 1 + 1, 0, none⟩ = false := frozen_of_row _ _ _ _ _ c2
    have f3 : W.frozen? ⟨w.heap.size + 1 + 1 + 1, 0, none⟩ = false := frozen_of_row _ _ _ _ _ c3
    have kx : W.cell? ⟨Bx, 0, none⟩ = some (.int .i64 (pos s x).1) := by rw [cell_of_row _ _ _ _ _ _ hbx]; rfl
    have kx1 : W.cell? ⟨Bx, 1, none⟩ = some (.int .i64 (pos s x).2) := by rw [cell_of_row _ _ _ _ _ _ hbx]; rfl
    have C0 := Lib.hid c0
    have C1 := Lib.hid c1
    have C2 := Lib.hid c2
    have C3 := Lib.hid c3
    have CX := Lib.hid hbx
    have HB := Lib.hid hB
    have H1 := Lib.hid h1
    clear c0 c1 c2 c3 hbx hB h1 b0 b1 b2 b3 b4 hbl hlr
    by_cases he : (x : Int) = at_
    · subst he
      gi_wp2
      have hS : W.drew.cell? ⟨Bx, 0, none⟩ = some (.int .i64 (pos s x).1) ∧ W.drew.cell? ⟨Bx, 1, none⟩ = some (.int .i64 (pos s x).2) := ⟨kx, kx1⟩
      refine region_round_held (S := fun A => A.cell? ⟨Bx, 0, none⟩ = some (.int .i64 (pos s x).1) ∧ A.cell? ⟨Bx, 1, none⟩ = some (.int .i64 (pos s x).2)) (by kernel_rfl) (by kernel_rfl) (fun _ _ h => h) ?_
      refine wpAnyH_take (i := 0) (v := _) rfl (by kernel_rfl) (by kernel_rfl) (by kernel_rfl) (fun _ _ _ h => h) (Or.inl ⟨by rfl, by (intro w hSw; obtain ⟨hS1, hS2⟩ := hSw; go_simp; try with_reducible rfl)⟩) hS ?_
      simp only [Act.put, List.setIfInBounds_toArray, List.set_cons_zero, List.set_cons_succ]
      refine wpAnyH_take (i := 1) (v := _) rfl (by kernel_rfl) (by kernel_rfl) (by kernel_rfl) (fun _ _ _ h => h) (Or.inl ⟨by rfl, by (intro w hSw; obtain ⟨hS1, hS2⟩ := hSw; go_simp; try with_reducible rfl)⟩) hS ?_
      simp only [Act.put, List.setIfInBounds_toArray, List.set_cons_zero, List.set_cons_succ]
      refine wpAnyH_take (i := 2) (v := _) rfl (by kernel_rfl) (by kernel_rfl) (by kernel_rfl) (fun _ _ _ h => h) (Or.inl ⟨by rfl, by (intro w hSw; obtain ⟨hS1, hS2⟩ := hSw; go_simp; try with_reducible rfl)⟩) hS ?_
      simp only [Act.put, List.setIfInBounds_toArray, List.set_cons_zero, List.set_cons_succ]
      refine wpAnyH_take (i := 3) (v := _) rfl (by kernel_rfl) (by kernel_rfl) (by kernel_rfl) (fun _ _ _ h => h) (Or.inl ⟨by rfl, by (intro w hSw; obtain ⟨hS1, hS2⟩ := hSw; go_simp; try with_reducible rfl)⟩) hS ?_
      simp only [Act.put, List.setIfInBounds_toArray, List.set_cons_zero, List.set_cons_succ]
      refine wpAnyH_ready (rs := [4]) (by kernel_rfl) (by simp) (AllReadyH.cons rfl (fun K hK => ?_) AllReadyH.nil)
      go_simp
      refine hK.out _ _ (by obtain ⟨hS1, hS2⟩ := hS; exact ⟨set_cell_other _ (by omega) _ _ hS1, set_cell_other _ (by omega) _ _ hS2⟩) (fun hS => ?_)
      clear hK K
      refine wpAnyH_ready (rs := [5]) (by kernel_rfl) (by simp) (AllReadyH.cons rfl (fun K hK => ?_) AllReadyH.nil)
      go_simp
      refine hK.out _ _ (by obtain ⟨hS1, hS2⟩ := hS; exact ⟨set_cell_other _ (by omega) _ _ hS1, set_cell_other _ (by omega) _ _ hS2⟩) (fun hS => ?_)
      clear hK K
      refine wpAnyH_ready (rs := [6]) (by kernel_rfl) (by simp) (AllReadyH.cons rfl (fun K hK => ?_) AllReadyH.nil)
      go_simp
      refine hK.out _ _ (by obtain ⟨hS1, hS2⟩ := hS; exact ⟨set_cell_other _ (by omega) _ _ hS1, set_cell_other _ (by omega) _ _ hS2⟩) (fun hS => ?_)
      clear hK K
      refine wpAnyH_done (by kernel_rfl) ?_ _
      gi_wp2
      have d1 := blk_set_same (W := W) C1.out (.int .i64 (pos s x).1)
      have d2 := blk_set_same (blk_set_other (W := W) C2.out (b := w.heap.size + 1) (i := 0) (.int .i64 (pos s x).1) (by omega)) (.int .i64 (pos s x).2)
      have d3 := blk_set_same (blk_set_other (blk_set_other (W := W) C3.out (b := w.heap.size + 1) (i := 0) (.int .i64 (pos s x).1) (by omega)) (b := w.heap.size + 1 + 1) (i := 0) (.int .i64 (pos s x).2) (by omega)) (.int .i64 0)
      refine ⟨⟨by simp, fun k hk hy => ?_⟩, rfl, x, by simp, rfl, ?_, ?_, d3, ?_⟩
      · show ((((W.setCell _ _).setCell _ _).setCell _ _) : World).heap[k]? = _
        rw [heap_setCell_other _ _ _ _ (by rintro rfl; exact hy (.inr (.inr rfl))), heap_setCell_other _ _ _ _ (by rintro rfl; exact hy (.inr (.inl rfl))), heap_setCell_other _ _ _ _ (by rintro rfl; exact hy (.inl rfl))]
      · exact blk_set_other (blk_set_other d1 _ (by omega)) _ (by omega)
      · exact blk_set_other d2 _ (by omega)
      · exact below_drew (((HB.out.setCell (p := ⟨w.heap.size + 1, 0, none⟩) (by simp) _).setCell (p := ⟨w.heap.size + 1 + 1, 0, none⟩) (by simp; omega) _).setCell (p := ⟨w.heap.size + 1 + 1 + 1, 0, none⟩) (by simp; omega) _)
    · have he' : ((x : Int) == at_) = false := by simpa using he
      gi_wp2
      exact ⟨Keep.refl _ _, fun j hj => (List.mem_append.1 hj).elim (H1.out j) (fun e => by simp at e; subst e; exact he), C0.out, C1.out, C2.out, C3.out, HB.out⟩
  case done =>
    rintro D xs W hD rfl ⟨h1, c0, c1, c2, c3, hB⟩ hK
    have k1 : W.cell? ⟨w.heap.size + 1, 0, none⟩ = some (.int .i64 0) := by rw [cell_of_row _ _ _ _ _ _ c1]; rfl
    have k2 : W.cell? ⟨w.heap.size + 1 + 1, 0, none⟩ = some (.int .i64 0) := by rw [cell_of_row _ _ _ _ _ _ c2]; rfl
    have k3 : W.cell? ⟨w.heap.size + 1 + 1 + 1, 0, none⟩ = some (.int .i64 0) := by rw [cell_of_row _ _ _ _ _ _ c3]; rfl
    have f1 : W.frozen? ⟨w.heap.size + 1, 0, none⟩ = false := frozen_of_row _ _ _ _ _ c1
    have f2 : W.frozen? ⟨w.heap.size + 1 + 1, 0, none⟩ = false := frozen_of_row _ _ _ _ _ c2
    have f3 : W.frozen? ⟨w.heap.size + 1 + 1 + 1, 0, none⟩ = false := frozen_of_row _ _ _ _ _ c3
    have C1 := Lib.hid c1
    have C2 := Lib.hid c2
    have C3 := Lib.hid c3
    have HB := Lib.hid hB
    have HK := Lib.hid hK
    clear c0 c1 c2 c3 hB hK b0 b1 b2 b3 b4 hbl
    gi_wp2
    have e1 := blk_set_other (blk_set_other (blk_set_same C1.out (.int .i64 0)) (b := w.heap.size + 1 + 1) (i := 0) (.int .i64 0) (by omega)) (b := w.heap.size + 1 + 1 + 1) (i := 0) (.int .i64 1) (by omega)
    have e2 := blk_set_other (blk_set_same (blk_set_other C2.out (b := w.heap.size + 1) (i := 0) (.int .i64 0) (by omega)) (.int .i64 0)) (b := w.heap.size + 1 + 1 + 1) (i := 0) (.int .i64 1) (by omega)
    have e3 := blk_set_same (blk_set_other (blk_set_other C3.out (b := w.heap.size + 1) (i := 0) (.int .i64 0) (by omega)) (b := w.heap.size + 1 + 1) (i := 0) (.int .i64 0) (by omega)) (.int .i64 1)
    have eK := blk_set_other (blk_set_other (blk_set_other HK.out (b := w.heap.size + 1) (i := 0) (.int .i64 0) (by omega)) (b := w.heap.size + 1 + 1) (i := 0) (.int .i64 0) (by omega)) (b := w.heap.size + 1 + 1 + 1) (i := 0) (.int .i64 1) (by omega)
    have eB := (((HB.out.setCell (p := ⟨w.heap.size + 1, 0, none⟩) (by simp) (.int .i64 0)).setCell (p := ⟨w.heap.size + 1 + 1, 0, none⟩) (by simp; omega) (.int .i64 0)).setCell (p := ⟨w.heap.size + 1 + 1 + 1, 0, none⟩) (by simp; omega) (.int .i64 1))
    refine ⟨by simp, .inl ⟨_, _, rfl, run_takeDeferred eK, ?_⟩⟩
    have r1 : World.cell? _ ⟨w.heap.size + 1, 0, none⟩ = _ := cell_of_row _ _ _ _ _ _ (blk_put_other e1 (.deferred none) (D := D) (by omega))
    have r2 : World.cell? _ ⟨w.heap.size + 1 + 1, 0, none⟩ = _ := cell_of_row _ _ _ _ _ _ (blk_put_other e2 (.deferred none) (D := D) (by omega))
    have r3 : World.cell? _ ⟨w.heap.size + 1 + 1 + 1, 0, none⟩ = _ := cell_of_row _ _ _ _ _ _ (blk_put_other e3 (.deferred none) (D := D) (by omega))
    refine ⟨.tuple #[.int .i64 0, .int .i64 0, .int .i64 1], ?_, ?_, eB.grown (grownBy_putObj' _ D _) eB.size (fun k e => by cases e; omega)⟩
    · simp [results, Tryz.f18, go_sem, r1, r2, r3]
    · rw [if_neg]
      rintro ⟨q1, q2⟩
      exact h1 at_.toNat (List.mem_range.2 (by omega)) (by omega)
  case stop =>
    rintro D c pre W hD ⟨k, hk, rfl⟩ ⟨rfl, x, hx, rfl, c1, c2, c3, hB⟩ hK
    have hxk : x ≤ s.size := by
      rcases k with _ | k
      · simp at hx
      · rw [List.range_succ, List.getLast?_append] at hx; simp at hx; omega
    gi_wp2
    refine ⟨by simp, .inl ⟨_, _, rfl, run_takeDeferred hK, ?_⟩⟩
    have r1 : World.cell? _ ⟨w.heap.size + 1, 0, none⟩ = _ := cell_of_row _ _ _ _ _ _ (blk_put_other c1 (.deferred none) (D := D) (by omega))
    have r2 : World.cell? _ ⟨w.heap.size + 1 + 1, 0, none⟩ = _ := cell_of_row _ _ _ _ _ _ (blk_put_other c2 (.deferred none) (D := D) (by omega))
    have r3 : World.cell? _ ⟨w.heap.size + 1 + 1 + 1, 0, none⟩ = _ := cell_of_row _ _ _ _ _ _ (blk_put_other c3 (.deferred none) (D := D) (by omega))
    refine ⟨.tuple #[.int .i64 (pos s x).1, .int .i64 (pos s x).2, .int .i64 0], ?_, ?_, hB.grown (grownBy_putObj' _ D _) hB.size (fun k e => by cases e; omega)⟩
    · simp [results, Tryz.f18, go_sem, r1, r2, r3]
    · rw [if_pos ⟨by omega, by omega⟩]; simp
end Go.Proofs.YtagcfgoofiibfaaGreatDoor
namespace Go.Proofs.YtagcfgoofiibfaaGreatDoor
open Go Go.RowKit
attribute [local go_sem] Oper.semAt_some

/-- Byte's answer -/
def bytTo (s : ByteArray) (ln cl : Int) (w : World) (e : Ending) (w' : World) : Prop :=
  (match byteF s ln cl with
   | some i => e = .returned (.tuple #[.int .i64 (i : Int), .int .i64 0])
   | none => e = .returned (.tuple #[.int .i64 0, .int .i64 3])) ∧ Below w.heap.size w w'

def BytI (s : ByteArray) (ln cl : Int) (w : World) (pre : List Nat) (W : World) : Prop := (∀ j ∈ pre, pos s j ≠ (ln, cl)) ∧ W.heap[w.heap.size]? = some (.cells #[.int .i64 ln] 3 (0, 0)) ∧ W.heap[w.heap.size + 1]? = some (.cells #[.int .i64 cl] 3 (0, 0)) ∧
  W.heap[w.heap.size + 1 + 1]? = some (.cells #[.int .i64 0] 3 (0, 0)) ∧ W.heap[w.heap.size + 1 + 1 + 1]? = some (.cells #[.int .i64 0] 24 (0, 0)) ∧ Below w.heap.size w W
def BytX (s : ByteArray) (ln cl : Int) (w : World) (c : Code) (pre : List Nat) (W : World) : Prop := c = .ret ∧ ∃ x : Nat, pre.getLast? = some x ∧ pos s x = (ln, cl) ∧ W.heap[w.heap.size + 1 + 1]? = some (.cells #[.int .i64 (x : Int)] 3 (0, 0)) ∧
  W.heap[w.heap.size + 1 + 1 + 1]? = some (.cells #[.int .i64 0] 24 (0, 0)) ∧ Below w.heap.size w W
def BytA (s : ByteArray) (ln cl : Int) (w : World) (_ : Nat) (pre : List Nat) (x : Nat) (a : Act) (W : World) : Prop := BytI s ln cl w pre W ∧ ∃ Bx, w.heap.size + 5 ≤ Bx ∧ W.heap[Bx]? = some (.cells #[.int .i64 (pos s x).1, .int .i64 (pos s x).2] 74 (0, 0)) ∧
  a = { tmps := #[Value.string s, .int .i64 ln, .int .i64 cl, undef, .pointer (some ⟨w.heap.size, 0, none⟩), .pointer (some ⟨w.heap.size + 1, 0, none⟩), .pointer (some ⟨w.heap.size + 1 + 1, 0, none⟩), .pointer (some ⟨w.heap.size + 1 + 1 + 1, 0, none⟩), .int .i64 (x : Int), .pointer (some ⟨Bx, 0, none⟩), .string s, .func (.func 95) #[] #[.pointer (some ⟨w.heap.size + 1 + 1 + 1 + 1, 0, none⟩)], .int .i64 (x : Int), .agg #[.int .i64 (pos s x).1, .int .i64 (pos s x).2], undef, undef, undef, undef, undef, undef], defers := [] }

set_option maxRecDepth 100000 in
set_option maxHeartbeats 3200000 in
theorem c20 (s : ByteArray) (ln cl : Int) (w : World) (hsz : s.size ≤ 1073741824) : Calls Tryz.prog 20 #[.string s, .int .i64 ln, .int .i64 cl] w (bytTo s ln cl w) := by
  have hf59 : Fence.wide.fn 59 := trivial
  refine (callsIn_wide (n := 5)).1 ?_
  refine callsIn_of_wp_marks Tryz.func20 rfl trivial ?_ rfl
  simp only [Tryz.ntmps20, List.size_toArray, List.length_cons, List.length_nil, Nat.reduceAdd, Nat.reduceSub, Array.replicate_succ, Array.replicate_zero, List.push_toArray, List.append_toArray, List.nil_append, List.cons_append]
  gi_wp2_with (gi_at_call 59; refine (callsIn_wide.2 (c59 _ _)).mono ?_; rintro e w' ⟨rfl, rfl⟩)
  generalize hW : World.alloc _ _ = W0
  have hz : W0.heap.size = w.heap.size + 5 := by rw [← hW]; simp
  have hbl : Below w.heap.size w W0 := by
    rw [← hW]; exact ((((((Below.refl _ _).alloc (by simp) _).alloc (by simp) _).alloc (by simp; omega) _).alloc (by simp; omega) _).alloc (by simp; omega) _)
  have b0 : W0.heap[w.heap.size]? = some (.cells #[.int .i64 ln] 3 (0, 0)) := by rw [← hW]; exact blk_alloc (blk_alloc (blk_alloc (blk_alloc (blk_new _ _ rfl _) _) _) _) _
  have b1 : W0.heap[w.heap.size + 1]? = some (.cells #[.int .i64 cl] 3 (0, 0)) := by rw [← hW]; exact blk_alloc (blk_alloc (blk_alloc (blk_new _ _ (by simp) _) _) _) _
  have b2 : W0.heap[w.heap.size + 1 + 1]? = some (.cells #[.int .i64 0] 3 (0, 0)) := by rw [← hW]; exact blk_alloc (blk_alloc (blk_new _ _ (by simp) _) _) _
  have b3 : W0.heap[w.heap.size + 1 + 1 + 1]? = some (.cells #[.int .i64 0] 24 (0, 0)) := by rw [← hW]; exact blk_alloc (blk_new _ _ (by simp) _) _
  have b4 : W0.heap[w.heap.size + 1 + 1 + 1 + 1]? = some (.cells #[.string s] 9 (0, 0)) := by rw [← hW]; exact blk_new _ _ (by simp) _
  clear hW
  refine rf_law (by omega) (gf := 95) (lb := #[.pointer (some ⟨w.heap.size + 1 + 1 + 1 + 1, 0, none⟩)]) (by rfl) (enters_of Tryz.func95 (by kernel_rfl) rfl)
    (c95 _ _ s hsz (fun r => r = w.heap.size + 1 + 1 ∨ r = w.heap.size + 1 + 1 + 1) (by omega) W0 (by rintro r (rfl | rfl) <;> omega) (by rw [cell_of_row _ _ _ _ _ _ b4]; rfl)) (fun _ => rfl)
    (fun r h => h.elim) (by rintro r (rfl | rfl) <;> omega)
    (BytI s ln cl w) (BytX s ln cl w) ?hI ?hIx ⟨by simp, b0, b1, b2, b3, hbl⟩ (BytA s ln cl w) ?hA ?assign ?body ?done ?stop
  case hI =>
    rintro pre A A' row ⟨h1, c0, c1, c2, c3, hB⟩ hg hr
    exact ⟨h1, grown_blk hg hr (by omega) c0, grown_blk hg hr (by omega) c1, grown_blk hg hr (by omega) c2, grown_blk hg hr (by omega) c3, hB.grown hg hB.size (fun k e => by rcases hr k e with h | h; exact h.elim; omega)⟩
  case hIx =>
    rintro c pre A A' row ⟨h1, x, h2, h3, c2, c3, hB⟩ hg hr
    exact ⟨h1, x, h2, h3, grown_blk hg hr (by omega) c2, grown_blk hg hr (by omega) c3, hB.grown hg hB.size (fun k e => by rcases hr k e with h | h; exact h.elim; omega)⟩
  case hA =>
    rintro l pre x a' A r o' hl hlr ⟨⟨h1, c0, c1, c2, c3, hB⟩, Bx, hbx0, hbx, ha⟩
    exact ⟨⟨h1, blk_putObj o' hlr c0, blk_putObj o' hlr c1, blk_putObj o' hlr c2, blk_putObj o' hlr c3, below_putObj o' hB (by omega)⟩, Bx, hbx0, blk_putObj o' hlr hbx, ha⟩
  case assign =>
    rintro l pre x W r hl hlr ⟨h1, c0, c1, c2, c3, hB⟩ hlen _
    have hWl := lt_of_blk hlr
    gi_wp2
    exact ⟨Keep.grown (World.grownBy_alloc W _ none) (fun r e => by cases e), ⟨h1, blk_alloc c0 _, blk_alloc c1 _, blk_alloc c2 _, blk_alloc c3 _, hB.alloc hB.size _⟩, _, by omega, blk_new _ _ rfl _, rfl⟩
  case body =>
    rintro l pre x a' W r hl hlr ⟨⟨h1, c0, c1, c2, c3, hB⟩, Bx, hbx0, hbx, rfl⟩ hlen _
    have k0 : W.cell? ⟨w.heap.size, 0, none⟩ = some (.int .i64 ln) := by rw [cell_of_row _ _ _ _ _ _ c0]; rfl
    have k1 : W.cell? ⟨w.heap.size + 1, 0, none⟩ = some (.int .i64 cl) := by rw [cell_of_row _ _ _ _ _ _ c1]; rfl
    have k2 : W.cell? ⟨w.heap.size + 1 + 1, 0, none⟩ = some (.int .i64 0) := by rw [cell_of_row _ _ _ _ _ _ c2]; rfl
    have k3 : W.cell? ⟨w.heap.size + 1 + 1 + 1, 0, none⟩ = some (.int .i64 0) := by rw [cell_of_row _ _ _ _ _ _ c3]; rfl
    have f2 : W.frozen? ⟨w.heap.size + 1 + 1, 0, none⟩ = false := frozen_of_row _ _ _ _ _ c2
    have f3 : W.frozen? ⟨w.heap.size + 1 + 1 + 1, 0, none⟩ = false := frozen_of_row _ _ _ _ _ c3
    have kx : W.cell? ⟨Bx, 0, none⟩ = some (.int .i64 (pos s x).1) := by rw [cell_of_row _ _ _ _ _ _ hbx]; rfl
    have kx1 : W.cell? ⟨Bx, 1, none⟩ = some (.int .i64 (pos s x).2) := by rw [cell_of_row _ _ _ _ _ _ hbx]; rfl
    have C0 := Lib.hid c0
    have C1 := Lib.hid c1
    have C2 := Lib.hid c2
    have C3 := Lib.hid c3
    have CX := Lib.hid hbx
    have HB := Lib.hid hB
    have H1 := Lib.hid h1
    clear c0 c1 c2 c3 hbx hB h1 b0 b1 b2 b3 b4 hbl hlr
    by_cases he1 : (pos s x).1 = ln
    · by_cases he2 : (pos s x).2 = cl
      · have hp : pos s x = (ln, cl) := by rw [← he1, ← he2]
        have e1 : ((pos s x).1 == ln) = true := by simpa using he1
        have e2 : ((pos s x).2 == cl) = true := by simpa using he2
        gi_wp2
        have d2 := blk_set_other (blk_set_same (W := W) C2.out (.int .i64 (x : Int))) (b := w.heap.size + 1 + 1 + 1) (i := 0) (.int .i64 0) (by omega)
        have d3 := blk_set_same (blk_set_other (W := W) C3.out (b := w.heap.size + 1 + 1) (i := 0) (.int .i64 (x : Int)) (by omega)) (.int .i64 0)
        refine ⟨⟨by simp, fun k hk hy => ?_⟩, rfl, x, by simp, hp, d2, d3, ?_⟩
        · rw [heap_setCell_other _ _ _ _ (by rintro rfl; exact hy (.inr rfl)), heap_setCell_other _ _ _ _ (by rintro rfl; exact hy (.inl rfl))]
        · exact (HB.out.setCell (p := ⟨w.heap.size + 1 + 1, 0, none⟩) (by simp; omega) _).setCell (p := ⟨w.heap.size + 1 + 1 + 1, 0, none⟩) (by simp; omega) _
      · have e2 : ((pos s x).2 == cl) = false := by simpa using he2
        gi_wp2
        exact ⟨Keep.refl _ _, fun j hj => (List.mem_append.1 hj).elim (H1.out j) (fun e => by simp at e; subst e; intro h; rw [h] at he2; exact he2 rfl), C0.out, C1.out, C2.out, C3.out, HB.out⟩
    · have e1 : ((pos s x).1 == ln) = false := by simpa using he1
      gi_wp2
      exact ⟨Keep.refl _ _, fun j hj => (List.mem_append.1 hj).elim (H1.out j) (fun e => by simp at e; subst e; intro h; rw [h] at he1; exact he1 rfl), C0.out, C1.out, C2.out, C3.out, HB.out⟩
  case done =>
    rintro D xs W hD rfl ⟨h1, c0, c1, c2, c3, hB⟩ hK
    have k2 : W.cell? ⟨w.heap.size + 1 + 1, 0, none⟩ = some (.int .i64 0) := by rw [cell_of_row _ _ _ _ _ _ c2]; rfl
    have k3 : W.cell? ⟨w.heap.size + 1 + 1 + 1, 0, none⟩ = some (.int .i64 0) := by rw [cell_of_row _ _ _ _ _ _ c3]; rfl
    have f2 : W.frozen? ⟨w.heap.size + 1 + 1, 0, none⟩ = false := frozen_of_row _ _ _ _ _ c2
    have f3 : W.frozen? ⟨w.heap.size + 1 + 1 + 1, 0, none⟩ = false := frozen_of_row _ _ _ _ _ c3
    have C2 := Lib.hid c2
    have C3 := Lib.hid c3
    have HB := Lib.hid hB
    have HK := Lib.hid hK
    clear c0 c1 c2 c3 hB hK b0 b1 b2 b3 b4 hbl
    gi_wp2
    have e2 := blk_set_other (blk_set_same C2.out (.int .i64 0)) (b := w.heap.size + 1 + 1 + 1) (i := 0) (.int .i64 3) (by omega)
    have e3 := blk_set_same (blk_set_other C3.out (b := w.heap.size + 1 + 1) (i := 0) (.int .i64 0) (by omega)) (.int .i64 3)
    have eK := blk_set_other (blk_set_other HK.out (b := w.heap.size + 1 + 1) (i := 0) (.int .i64 0) (by omega)) (b := w.heap.size + 1 + 1 + 1) (i := 0) (.int .i64 3) (by omega)
    have eB := ((HB.out.setCell (p := ⟨w.heap.size + 1 + 1, 0, none⟩) (by simp; omega) (.int .i64 0)).setCell (p := ⟨w.heap.size + 1 + 1 + 1, 0, none⟩) (by simp; omega) (.int .i64 3))
    refine ⟨by simp, .inl ⟨_, _, rfl, run_takeDeferred eK, ?_⟩⟩
    have r2 : World.cell? _ ⟨w.heap.size + 1 + 1, 0, none⟩ = _ := cell_of_row _ _ _ _ _ _ (blk_put_other e2 (.deferred none) (D := D) (by omega))
    have r3 : World.cell? _ ⟨w.heap.size + 1 + 1 + 1, 0, none⟩ = _ := cell_of_row _ _ _ _ _ _ (blk_put_other e3 (.deferred none) (D := D) (by omega))
    refine ⟨.tuple #[.int .i64 0, .int .i64 3], ?_, ?_, eB.grown (grownBy_putObj' _ D _) eB.size (fun k e => by cases e; omega)⟩
    · simp [results, Tryz.f20, go_sem, r2, r3]
    · rw [byteF_none s ln cl (fun i hi => h1 i (List.mem_range.2 (by omega)))]
  case stop =>
    rintro D c pre W hD ⟨k, hk, rfl⟩ ⟨rfl, x, hx, hp, c2, c3, hB⟩ hK
    have hxk : x ≤ s.size := by
      rcases k with _ | k
      · simp at hx
      · rw [List.range_succ, List.getLast?_append] at hx; simp at hx; omega
    gi_wp2
    refine ⟨by simp, .inl ⟨_, _, rfl, run_takeDeferred hK, ?_⟩⟩
    have r2 : World.cell? _ ⟨w.heap.size + 1 + 1, 0, none⟩ = _ := cell_of_row _ _ _ _ _ _ (blk_put_other c2 (.deferred none) (D := D) (by omega))
    have r3 : World.cell? _ ⟨w.heap.size + 1 + 1 + 1, 0, none⟩ = _ := cell_of_row _ _ _ _ _ _ (blk_put_other c3 (.deferred none) (D := D) (by omega))
    refine ⟨.tuple #[.int .i64 (x : Int), .int .i64 0], ?_, ?_, hB.grown (grownBy_putObj' _ D _) hB.size (fun k e => by cases e; omega)⟩
    · simp [results, Tryz.f20, go_sem, r2, r3]
    · rw [byteF_some s ln cl x hxk hp]
end Go.Proofs.YtagcfgoofiibfaaGreatDoor
