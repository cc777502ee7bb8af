/- The law LexPlacedN: its walk and its statement: R2, ND0, LS0, ND1, ND2, NG0, NG1, NG2. -/
import Derived.Test.YtagcfgoofiibfaaGreatDoorG30
import Derived.Test.YtagcfgoofiibfaaGreatDoorLexPlacedP
import Derived.Test.YtagcfgoofiibfaaGreatDoorG37
import Derived.Test.YtagcfgoofiibfaaGreatDoorG31
import Derived.Test.YtagcfgoofiibfaaGreatDoorG38
import Derived.Lib.AppendIntMem
import Derived.Test.YtagcfgoofiibfaaGreatDoorG32
import Derived.Test.YtagcfgoofiibfaaGreatDoorG40
import Derived.Laws.RangeString
import Derived.Lib.OthersKept
import Derived.Deep.LoopGhost
set_option linter.unusedVariables false
set_option linter.unusedSimpArgs false
namespace Go.Proofs.YtagcfgoofiibfaaGreatDoor
open Go Go.RowKit

/-- .. in order: an iterator that may turn the blocks of X and its own, over bodies that turn those of Y and new ones -/
def SeqO {α : Type} (P : Program) (n : Nat) (g : Nat) (lb : Array Value) (encs : α → Array Value) (Y : Nat → Prop) (S Sp : List α → Prop) (G : List α → α → Prop) (N : Nat) (w : World) : Prop :=
  ∀ (l : Nat) (J Jx : List α → World → Prop) (W : World), Below w.heap.size w W → w.heap.size ≤ l → l < W.heap.size → Abide (fun _ => False) J → Abide (fun _ => False) Jx →
    (∀ pre x W1, J pre W1 → pre.length < N → G pre x → YieldAt Fence.wide (n - 1) P l (encs x) W1 fun e W' =>
      (e = .returned (.bool true) ∧ J (pre ++ [x]) W' ∧ Keep (fun k => k = l ∨ Y k) W1 W') ∨ (e = .returned (.bool false) ∧ Jx (pre ++ [x]) W')) →
    J [] W →
    CallsIn Fence.wide n P g (#[.func (.yield l) #[] #[]] ++ lb) W fun e W' => (∃ v, e = .returned v) ∧ ((∃ xs, S xs ∧ J xs W') ∨ (∃ pre, Sp pre ∧ Jx pre W'))


theorem rf_law3 {α : Type} {P : Program} {n : Nat} {g : Operand} {ps : Array Tmp} {assign body : Code} {Q : Exit → Act → World → Prop} {a : Act} {w : World} (h1 : 1 ≤ n) {gf : Nat} {lb : Array Value}
    (hg : a.eval g = .func (.func gf) #[] lb) (eg : ∀ args w, (callFunc gf args).run P w = .ok (.enter gf args) w) {encs : α → Array Value} {Y : Nat → Prop} {S Sp : List α → Prop} {G : List α → α → Prop} {N : Nat}
    (hseq : SeqO P (n - 1) gf lb encs Y S Sp G N w) (hps : ∀ x, (encs x).size = ps.size) (hY : ∀ r, Y r → r ≠ w.heap.size ∧ r ≠ w.heap.size + 1)
    (I : List α → World → Prop) (Ix : Code → List α → World → Prop) (hI : Abide (fun r => r = w.heap.size + 1) I) (hIx : ∀ c, Abide (fun r => r = w.heap.size + 1) (Ix c)) (h0 : I [] w)
    (A : Nat → List α → α → Act → World → Prop) (hA : ∀ l pre x a' W (r : Loop) o', w.heap.size ≤ l → W.heap[l]? = some (.loop r) → A l pre x a' W → A l pre x a' (W.putObj l o'))
    (hassign : ∀ l pre x W (r : Loop), l = w.heap.size + 1 → W.heap[l]? = some (.loop r) → I pre W → pre.length < N → G pre x →
      assign.wpIn (Fence.wide.inRound l) (n - 1 - 1) P (Exit.then (fun a' W' => Keep Y W W' ∧ A l pre x a' W') (fun _ _ _ => False)) { tmps := (ps.zip (encs x)).foldl (fun t (p, v) => t.setIfInBounds p v) a.tmps, defers := [] } W)
    (hbody : ∀ l pre x a' W (r : Loop), l = w.heap.size + 1 → W.heap[l]? = some (.loop r) → W.heap[w.heap.size]? = some (.deferred (some [])) → A l pre x a' W → pre.length < N → G pre x → body.wpIn (Fence.wide.inRound l) (n - 1 - 1) P (postV Y I Ix (pre ++ [x]) W) a' W)
    (hdone : ∀ (D : Nat) (xs : List α) (W : World), w.heap.size ≤ D → S xs → I xs W → W.heap[D]? = some (.deferred (some [])) → Q .normal { a with defers := { target := .collected D, args := #[] } :: a.defers } W)
    (hstop : ∀ (D : Nat) (c : Code) (pre : List α) (W : World), w.heap.size ≤ D → Sp pre → Ix c pre W → W.heap[D]? = some (.deferred (some [])) → c.wpIn Fence.wide n P Q { a with defers := { target := .collected D, args := #[] } :: a.defers } W) :
    (Code.rangeFunc g ps assign body).wpIn Fence.wide n P Q a w := by
  refine wpIn_rangeFunc fun fn hfn => ?_
  obtain ⟨rec, hrec⟩ : ∃ rec : LoopState → Option Code → Loop, rec = fun st pe => { state := st, pending := pe, fn, tmps := a.tmps, params := ps, assign, body, defers := w.heap.size } := ⟨_, rfl⟩
  obtain ⟨l, hlq⟩ : ∃ l, l = w.heap.size + 1 := ⟨_, rfl⟩
  obtain ⟨W1, hW1⟩ : ∃ W1, (w.alloc (.deferred (some []))).alloc (.loop (rec .ready none)) = W1 := ⟨_, rfl⟩
  have hL1 : W1.heap[l]? = some (.loop (rec .ready none)) := by
    rw [← hW1, hlq]; have := World.alloc_heap_new (w.alloc (.deferred (some []))) (.loop (rec .ready none)); rwa [World.size_alloc] at this
  have hK1 : W1.heap[w.heap.size]? = some (.deferred (some [])) := by
    rw [← hW1]; exact (Below.heap_alloc _ _ _ (by simp)).trans (World.alloc_heap_new w _)
  have hs1 : W1.heap.size = w.heap.size + 2 := by rw [← hW1]; simp
  have hI1 : I [] W1 := by
    rw [← hW1]
    exact hI _ _ _ none (hI _ _ _ none h0 (World.grownBy_alloc w _ none) (fun r e => by cases e)) (World.grownBy_alloc _ _ none) (fun r e => by cases e)
  have hb1 : Below w.heap.size w W1 := by
    rw [← hW1]; exact ((Below.refl _ w).alloc (Nat.le_refl _) _).alloc (by simp) _
  refine ⟨l, [{ target := .collected w.heap.size, args := #[] }], W1, { target := .fn (.func gf) lb, args := #[.func (.yield l) #[] #[]] }, W1, gf, #[.func (.yield l) #[] #[]] ++ lb, W1, ?_, ?_, ?_, ?_, fun _ => h1, ?_⟩
  · rw [← hW1, hrec, hlq]; exact run_enterLoop_outer _ _ _ _ _
  · simp only [resolve, hg]
    simp [go_sem]
  · intro f' _; trivial
  · simp [invoke, go_sem, eg]
  · have keepB : ∀ {W W' : World} {row : Option Nat} {k : Nat} {o : Obj}, W.grownBy W' row → (∀ r, row = some r → False) → (k = l ∨ k = w.heap.size) → W.heap[k]? = some o → W'.heap[k]? = some o := by
      intro W W' row k o hg' hr hk ho
      rw [hg'.block k (lt_of_blk ho) ?_]; exact ho
      intro e
      exact hr k e.symm
    have putI : ∀ {W : World} {s : List α} {o : Obj}, I s W → I s (W.putObj l o) := fun h => hI _ _ _ (some l) h (grownBy_putObj' _ l _) fun r e => by cases e; exact hlq
    have putIx : ∀ {c : Code} {W : World} {s : List α} {o : Obj}, Ix c s W → Ix c s (W.putObj l o) := fun h => hIx _ _ _ _ (some l) h (grownBy_putObj' _ l _) fun r e => by cases e; exact hlq
    have nY : ∀ {k : Nat}, (k = w.heap.size ∨ k = w.heap.size + 1) → ¬ Y k := fun hk h => by have := hY _ h; omega
    refine (hseq l
      (fun pre W => I pre W ∧ W.heap[l]? = some (.loop (rec .ready none)) ∧ W.heap[w.heap.size]? = some (.deferred (some [])))
      (fun pre W => ∃ c, Ix c pre W ∧ W.heap[l]? = some (.loop (rec .done (some c))) ∧ W.heap[w.heap.size]? = some (.deferred (some [])))
      W1 hb1 (by omega) (by omega)
      (fun s A B row hs hg' hr => ⟨hI s A B row hs.1 hg' (fun r e => (hr r e).elim), keepB hg' hr (.inl rfl) hs.2.1, keepB hg' hr (.inr rfl) hs.2.2⟩)
      (fun s A B row hs hg' hr => by
        obtain ⟨c, hc, hl, hk⟩ := hs
        exact ⟨c, hIx c s A B row hc hg' (fun r e => (hr r e).elim), keepB hg' hr (.inl rfl) hl, keepB hg' hr (.inr rfl) hk⟩)
      ?_ ⟨hI1, hL1, hK1⟩).mono ?_
    · rintro pre x W ⟨hi, hl, hk⟩ hlen hgx
      have hlt : l < W.heap.size := lt_of_blk hl
      have hy := run_yield (P := P) (args := encs x) hl (by rw [hrec]; exact hps x)
      rw [hrec] at hy
      refine ⟨fn, _, assign, body, hy, roundIn_of_wpIn hfn (wpIn_mono (hassign l pre x W _ hlq hl hi hlen hgx) ?_)⟩
      rintro e a1 Wa hp
      cases e with
      | normal =>
        obtain ⟨hka, hAa⟩ := hp
        have hla : Wa.heap[l]? = some (.loop (rec .ready none)) := (hka.blk l hlt (nY (.inr hlq))).trans hl
        have hda : Wa.heap[w.heap.size]? = some (.deferred (some [])) := (hka.blk _ (lt_of_blk hk) (nY (.inl rfl))).trans hk
        refine ⟨_, run_beginRound hla (by rw [hrec]), ?_⟩
        have hl2 : (Wa.putObj l (.loop { rec .ready none with state := .busy })).heap[l]? = some (.loop { rec .ready none with state := .busy }) := World.putObj_heap_same (lt_of_blk hla)
        have hk2 : (Wa.putObj l (.loop { rec .ready none with state := .busy })).heap[w.heap.size]? = some (.deferred (some [])) := (World.putObj_heap_other (by omega)).trans hda
        have hA2 := hA l pre x a1 Wa _ (.loop { rec .ready none with state := .busy }) (by omega) hla hAa
        refine wpIn_mono (hbody l pre x a1 _ _ hlq hl2 hk2 hA2 hlen hgx) ?_
        have fin : ∀ (jump : Option Code) (W3 : World), Keep Y (Wa.putObj l (.loop { rec .ready none with state := .busy })) W3 →
            (Instr.endRound l jump).run P W3 = .ok (.bool jump.isNone) (W3.putObj l (.loop (rec (if jump.isNone then .ready else .done) jump))) ∧
            (W3.putObj l (.loop (rec (if jump.isNone then .ready else .done) jump))).heap[l]? = some (.loop (rec (if jump.isNone then .ready else .done) jump)) ∧
            (W3.putObj l (.loop (rec (if jump.isNone then .ready else .done) jump))).heap[w.heap.size]? = some (.deferred (some [])) ∧
            Keep (fun k => k = l ∨ Y k) W (W3.putObj l (.loop (rec (if jump.isNone then .ready else .done) jump))) := fun jump W3 hk3 => by
          have hl3 := (hk3.blk l (lt_of_blk hl2) (nY (.inr hlq))).trans hl2
          have hd3 := (hk3.blk _ (lt_of_blk hk2) (nY (.inl rfl))).trans hk2
          have he := run_endRound (P := P) jump hl3
          rw [hrec] at he ⊢
          refine ⟨he, World.putObj_heap_same (lt_of_blk hl3), (World.putObj_heap_other (by omega)).trans hd3, ?_⟩
          exact (((hka.weak fun k h => .inr h).trans (Keep.putObj _ (.inl rfl))).trans (hk3.weak fun k h => .inr h)).trans (Keep.putObj _ (.inl rfl))
        rintro e a3 W3 hp
        cases e with
        | normal =>
          obtain ⟨hk3, hi3⟩ := hp
          obtain ⟨hr, hl4, hk4, hkp⟩ := fin none W3 hk3
          exact ⟨_, _, hr, .inl ⟨rfl, ⟨putI hi3, hl4, hk4⟩, hkp⟩⟩
        | ret =>
          obtain ⟨hk3, hi3⟩ := hp
          obtain ⟨hr, hl4, hk4, _⟩ := fin (some .ret) W3 hk3
          exact ⟨_, _, hr, .inr ⟨rfl, .ret, putIx hi3, hl4, hk4⟩⟩
        | exit id =>
          obtain ⟨hk3, hi3⟩ := hp
          obtain ⟨hr, hl4, hk4, _⟩ := fin (some (.exit id)) W3 hk3
          exact ⟨_, _, hr, .inr ⟨rfl, .exit id, putIx hi3, hl4, hk4⟩⟩
        | goto t =>
          obtain ⟨hk3, hi3⟩ := hp
          obtain ⟨hr, hl4, hk4, _⟩ := fin (some (.goto t)) W3 hk3
          exact ⟨_, _, hr, .inr ⟨rfl, .goto t, putIx hi3, hl4, hk4⟩⟩
        | panic ch => exact hp.elim
        | outgrown => exact hp.elim
      | ret => exact hp.elim
      | exit id => exact hp.elim
      | goto t => exact hp.elim
      | panic ch => exact hp.elim
      | outgrown => exact hp.elim
    · rintro e W2 ⟨⟨v, rfl⟩, (⟨xs, hS, hi, hl, hk⟩ | ⟨pre, hSp, c, hi, hl, hk⟩)⟩
      · exact ⟨none, _, by have := run_endLoop (P := P) hl (by rw [hrec]; simp); rw [hrec] at this; exact this, hdone _ xs _ (Nat.le_refl _) hS (putI hi) ((World.putObj_heap_other (by omega)).trans hk)⟩
      · exact ⟨some c, _, by have := run_endLoop (P := P) hl (by rw [hrec]; simp); rw [hrec] at this; exact this, hstop _ c pre _ (Nat.le_refl _) hSp (putIx hi) ((World.putObj_heap_other (by omega)).trans hk)⟩

attribute [local go_sem] Oper.semAt_some
set_option maxRecDepth 100000 in
set_option maxHeartbeats 3200000 in
theorem c216o (m : Nat) (Bs : Nat) (a : Option Addr) (cp : Nat) (l : List Int) (hll : l.length ≤ 1000000) (Y : Nat → Prop) (hYb : ¬ Y Bs) (w : World)
    (hs : w.cell? ⟨Bs, 0, none⟩ = some (.slice a l.length cp)) (hx : l ≠ [] → ∃ g, a = some ⟨g, 0, none⟩ ∧ g < w.heap.size ∧ ¬ Y g ∧ ∀ j, j < l.length → w.cell? ⟨g, j, none⟩ = some (.int .i64 (atL l j))) :
    SeqO Tryz.prog m 216 #[.pointer (some ⟨Bs, 0, none⟩)] (fun k : Nat => #[.int .i64 (k : Int), .int .i64 (atL l k)]) Y
      (fun xs => xs.length = l.length) (fun _ => True) (fun pre k => k < l.length ∧ pre.length + (k + 1) = l.length) l.length w := by
  intro l0 J Jx W hW hl1 hl2 hJ hJx hY h0
  have hb1 : Bs < w.heap.size := World.block_lt_of_cell? w _ hs
  have hs' : W.cell? ⟨Bs, 0, none⟩ = some (.slice a l.length cp) := (hW.cell (p := ⟨Bs, 0, none⟩) hb1).trans hs
  have hsW := hW.size
  have HX : Hid (l ≠ [] → ∃ g, a = some ⟨g, 0, none⟩ ∧ g < w.heap.size ∧ ¬ Y g ∧ ∀ j, j < l.length → W.cell? ⟨g, j, none⟩ = some (.int .i64 (atL l j))) := Lib.hid (fun hne => by
    obtain ⟨g, e1, e2, e3, e4⟩ := hx hne
    exact ⟨g, e1, e2, e3, fun j hj => (hW.cell (p := ⟨g, j, none⟩) e2).trans (e4 j hj)⟩)
  have HY := Lib.hid hY
  have HJ0 := Lib.hid h0
  clear hY hJ h0 hs hJx hW hx
  refine callsIn_of_wp Tryz.func216 rfl trivial ?_ rfl
  simp only [Tryz.ntmps216, List.size_toArray, List.length_cons, List.length_nil, Nat.reduceAdd, Nat.reduceSub, Array.replicate_succ, Array.replicate_zero, List.push_toArray, List.append_toArray, List.nil_append, List.cons_append]
  gi_wp2
  gi_loopw [3] (fun ix wr => ∃ (k : Nat) (pre : List Nat), k ≤ l.length ∧ ix = .int .i64 ((k : Int) - 1) ∧ J pre wr ∧ pre.length + k = l.length ∧ (∀ i, k ≤ i → i < l.length → i ∈ pre) ∧ Keep (fun k => k = l0 ∨ Y k) W wr)
    (fun ix _ => (intOf ix + 1).toNat)
  case atStart =>
    exact ⟨l.length, [], Nat.le_refl _, rfl, HJ0.out, by simp, fun i a b => by omega, Keep.refl _ _⟩
  case round =>
    obtain ⟨k, pre, hk, rfl, hJd, hlen, hmem, hkp⟩ := hrel
    have HJd := Lib.hid hJd
    have HM := Lib.hid hmem
    have HK := Lib.hid hkp
    clear hJd HJ0 hmem hkp
    have nBs : ¬ (Bs = l0 ∨ Y Bs) := fun h => by rcases h with h | h; omega; exact hYb h
    have hsr : wr.cell? ⟨Bs, 0, none⟩ = some (.slice a l.length cp) := HK.out.cell (p := ⟨Bs, 0, none⟩) nBs hs'
    rcases k with _ | k
    · gi_wp2
      go_end0
      exact ⟨⟨_, rfl⟩, .inl ⟨pre, by omega, HJd.out⟩⟩
    · obtain ⟨g, rfl, hg1, hg2, hg3⟩ := HX.out (by rintro rfl; simp at hk)
      have ek : ((k + 1 : Nat) : Int) - 1 = (k : Int) := by omega
      rw [ek]
      clear ek
      have ng : ¬ (g = l0 ∨ Y g) := fun h => by rcases h with h | h; omega; exact hg2 h
      have kx : wr.cell? ⟨g, k, none⟩ = some (.int .i64 (atL l k)) := HK.out.cell (p := ⟨g, k, none⟩) ng (hg3 k (by omega))
      have b1 : (k : Int) < (l.length : Int) := by omega
      have b0 : (0 : Int) ≤ (k : Int) := by omega
      obtain ⟨fn, tmps, assign, body, hy, hR⟩ := HY.out pre k wr HJd.out (by omega) ⟨by omega, by omega⟩
      have HLEN := Lib.hid hlen
      clear hg3 hlen
      gi_wp2
      refine ⟨fun hd => (by cases hd), hR.mono ?_⟩
      rintro e W3 (⟨rfl, hJ3, hk3⟩ | ⟨rfl, hJx3⟩)
      · have HJ3 := Lib.hid hJ3
        have HK3 := Lib.hid hk3
        clear hJ3 hk3 hR hy hsr kx
        gi_wp2
        go_roundw
        case rel =>
          refine ⟨k, pre ++ [k], by omega, rfl, HJ3.out, by have := HLEN.out; simp; omega, fun i a b => ?_, HK.out.trans HK3.out⟩
          rcases Nat.lt_or_ge k i with q | q
          · exact List.mem_append_left _ (HM.out i q b)
          · rw [show i = k by omega]; simp
        case measure => simp [intOf]
      · gi_wp2
        refine bodyPost_ret (results_none rfl _ _ _) rfl ?_
        exact ⟨⟨_, rfl⟩, .inr ⟨_, trivial, hJx3⟩⟩

end Go.Proofs.YtagcfgoofiibfaaGreatDoor
namespace Go.Proofs.YtagcfgoofiibfaaGreatDoor
open Go Go.RowKit
attribute [local go_sem] Oper.semAt_some

/-- the table of powers of ten -/
def TP (w : World) : Prop := Lib.TabIs Tryz.prog w "internal/strconv.uint64pow10" .u64 Lib.pow10Tab
theorem TP.below {w w' : World} (h : TP w) (hb : Below w.heap.size w w') : TP w' := Go.Joins.tab_stays (g := 5) (by kernel_rfl) h hb (Nat.le_refl _)
theorem c191 (d : Int) (w : World) (h0 : 0 ≤ d) (h1 : d < 1000000000) (hP : TP w) : Calls Tryz.prog 191 #[.int .i64 d] w fun e w' => e = .returned (.string ⟨(Lib.itoa d).toArray⟩) ∧ Below w.heap.size w w' := by
  refine (Tryz.strconv_Itoa d (by omega) (by omega) w hP).mono ?_
  rintro e w' ⟨rfl, k, os, rfl⟩
  exact ⟨rfl, Lib.below_grow _ _ (Nat.le_refl _) _ _⟩

/-- a number's text under way: the Builder at b, the iterator's slice at Bs, the loop at lq -/
structure NB (w0 : World) (b Bs lq : Nat) (sv : Value) (t : List UInt8) (W : World) : Prop where
  bld : ∃ p v, (p = .pointer none ∨ p = .pointer (some ⟨b, 0, none⟩)) ∧ W.heap[b]? = some (.cells #[p, v] 83 (0, 0)) ∧ W.ownsRowF b 5 1 v (Lib.byteCells t).length (Lib.byteCells t) ∧ v.ownBlock ≠ some b ∧ v.ownBlock ≠ some lq
  bel : Below b w0 W
  sl : W.heap[Bs]? = some (.cells #[sv] 186 (0, 0))
theorem NB.is {w0 : World} {b Bs lq : Nat} {sv : Value} {t : List UInt8} {W : World} (h : NB w0 b Bs lq sv t W) : Lib.IsBuilderF 83 5 b b (Lib.byteCells t) W := by
  obtain ⟨p, v, hp, h1, h2, h3, _⟩ := h.bld
  rcases hp with rfl | rfl
  · exact .inl ⟨Nat.le_refl _, v, h1, h2, h3⟩
  · exact .inr ⟨Nat.le_refl _, v, h1, h2, h3⟩
theorem NB.lt {w0 : World} {b Bs lq : Nat} {sv : Value} {t : List UInt8} {W : World} (h : NB w0 b Bs lq sv t W) : b < W.heap.size := by
  obtain ⟨p, v, _, h1, _⟩ := h.bld
  exact lt_of_blk h1
theorem own_kind5 {w : World} {B : Nat} {v : Value} {n : Nat} {xs : List Value} (h : w.ownsRowF B 5 1 v n xs) {k : Nat} (hk : v.ownBlock = some k) : ∃ c fz, w.heap[k]? = some (.cells c 5 fz) := Lib.ownsRowF_kind h k hk
theorem NB.of {w0 : World} {b Bs lq : Nat} {sv : Value} {t : List UInt8} {W : World} {r : Loop} (h : Lib.IsBuilderF 83 5 b b (Lib.byteCells t) W) (hl : W.heap[lq]? = some (.loop r)) (hb : Below b w0 W) (hs : W.heap[Bs]? = some (.cells #[sv] 186 (0, 0))) : NB w0 b Bs lq sv t W := by
  have key : ∀ (v : Value), W.ownsRowF b 5 1 v (Lib.byteCells t).length (Lib.byteCells t) → v.ownBlock ≠ some lq := fun v hv e => by
    obtain ⟨c, fz, hc⟩ := own_kind5 hv e
    rw [hl] at hc; cases hc
  refine ⟨?_, hb, hs⟩
  rcases h with ⟨_, v, h1, h2, h3⟩ | ⟨_, v, h1, h2, h3⟩
  · exact ⟨_, v, .inl rfl, h1, h2, h3, key v h2⟩
  · exact ⟨_, v, .inr rfl, h1, h2, h3, key v h2⟩
theorem NB.grown {w0 : World} {b Bs lq : Nat} {sv : Value} {t : List UInt8} {W W' : World} {row : Option Nat} (h : NB w0 b Bs lq sv t W) (h1 : b < lq) (h2 : Bs < lq) (hg : W.grownBy W' row) (hr : ∀ r, row = some r → r = lq) : NB w0 b Bs lq sv t W' := by
  obtain ⟨p, v, hp, g1, g2, g3, g4⟩ := h.bld
  refine ⟨⟨p, v, hp, ?_, g2.kept hg ?_, g3, g4⟩, h.bel.grown hg (Nat.le_of_lt h.lt) (fun k e => by rw [hr k e]; omega), ?_⟩
  · rw [hg.block b (lt_of_blk g1) (fun e => by have := hr b e.symm; omega)]; exact g1
  · rcases hv : v.ownBlock with _ | k
    · exact .inl rfl
    · right; intro e; exact g4 (by rw [hv, hr k e.symm])
  · rw [hg.block Bs (lt_of_blk h.sl) (fun e => by have := hr Bs e.symm; omega)]; exact h.sl
theorem below_putObj' {b : Nat} {w W : World} {l : Nat} (o : Obj) (h : Below b w W) (hb : b < W.heap.size) (hl : b ≤ l) : Below b w (W.putObj l o) := h.grown (grownBy_putObj' W l o) (Nat.le_of_lt hb) (fun k e => by cases e; exact hl)
theorem NB.put {w0 : World} {b Bs lq : Nat} {sv : Value} {t : List UInt8} {W : World} {l : Nat} {r : Loop} (h : NB w0 b Bs lq sv t W) (hl : W.heap[l]? = some (.loop r)) (hbl : b ≤ l) (o : Obj) : NB w0 b Bs lq sv t (W.putObj l o) := by
  obtain ⟨p, v, hp, g1, g2, g3, g4⟩ := h.bld
  have hg := grownBy_putObj' W l o
  refine ⟨⟨p, v, hp, blk_putObj o hl g1, g2.kept hg ?_, g3, g4⟩, below_putObj' o h.bel h.lt hbl, blk_putObj o hl h.sl⟩
  rcases hv : v.ownBlock with _ | k
  · exact .inl rfl
  · right; intro e
    injection e with e
    subst e
    obtain ⟨c, fz, hc⟩ := own_kind5 g2 hv
    rw [hl] at hc; cases hc

theorem others_below {b : Option Nat} {W W' : World} (h : Below W.heap.size W W') : Lib.OthersKept 5 b W W' := fun k o hk _ _ => by rw [h.block k (lt_of_blk hk)]; exact hk
/-- behind a round: the Builder has more; what else lay is as it was -/
theorem nb_round {w0 : World} {b Bs : Nat} {sv : Value} {t t' : List UInt8} {W W' : World} {r : Loop} (h : NB w0 b Bs (Bs + 2) sv t W) (hb1 : b < Bs) (hl : W.heap[Bs + 2]? = some (.loop r)) (hD : W.heap[Bs + 1]? = some (.deferred (some []))) (hB : Below b W W') (ho : Lib.OthersKept 5 (some b) W W')
    (h' : Lib.IsBuilderF 83 5 b b (Lib.byteCells t') W') : Keep (fun r => b ≤ r ∧ r ≠ Bs ∧ r ≠ Bs + 1 ∧ r ≠ Bs + 2) W W' ∧ NB w0 b Bs (Bs + 2) sv t' W' := by
  have k1 := ho _ _ h.sl (fun e => by injection e with e; omega) (fun c fz e => by injection e with _ e; exact absurd e (by decide))
  have k2 := ho _ _ hD (fun e => by injection e with e; omega) (fun c fz e => by cases e)
  have k3 := ho _ _ hl (fun e => by injection e with e; omega) (fun c fz e => by cases e)
  refine ⟨⟨hB.size, fun k hk hy => ?_⟩, NB.of h' k3 (h.bel.trans hB) k1⟩
  rcases Nat.lt_or_ge k b with q | q
  · exact hB.block k q
  · have hc : k = Bs ∨ k = Bs + 1 ∨ k = Bs + 2 := by omega
    rcases hc with rfl | rfl | rfl
    · rw [k1, h.sl]
    · rw [k2, hD]
    · rw [k3, hl]

theorem nb_is5 {w0 : World} {b Bs lq : Nat} {sv : Value} {t : List UInt8} {W W5 : World} {r : Loop} (h : NB w0 b Bs lq sv t W) (hb : Below W.heap.size W W5) (hl : W.heap[lq]? = some (.loop r)) : Lib.IsBuilderF 83 5 b b (Lib.byteCells t) W5 := by
  have h5 : NB w0 b Bs lq sv t W5 := NB.of (by
    obtain ⟨p, v, hp, g1, g2, g3, g4⟩ := h.bld
    have k1 := (hb.block b (lt_of_blk g1)).trans g1
    have k2 : W5.ownsRowF b 5 1 v (Lib.byteCells t).length (Lib.byteCells t) := g2.kept hb.grownBy (by
      rcases v.ownBlock with _ | k
      · exact .inl rfl
      · right; intro e; cases e)
    rcases hp with rfl | rfl
    · exact .inl ⟨Nat.le_refl _, v, k1, k2, g3⟩
    · exact .inr ⟨Nat.le_refl _, v, k1, k2, g3⟩) ((hb.block _ (lt_of_blk hl)).trans hl) (h.bel.trans (hb.mono (Nat.le_of_lt h.lt))) ((hb.block _ (lt_of_blk h.sl)).trans h.sl)
  exact h5.is
def NbA (l : List Int) (w w0 : World) (b Bs lq : Nat) (a1 : Option Addr) (cp1 : Nat) (_ : Nat) (pre : List Nat) (x : Nat) (a : Act) (W : World) : Prop := NB w0 b Bs lq (.slice a1 l.length cp1) (textL l (x + 1)) W ∧ x < l.length ∧ pre.length + (x + 1) = l.length ∧
  a = { tmps := #[.agg #[.bool false, .slice a1 l.length cp1], .pointer (some ⟨w.heap.size, 0, none⟩), .string ⟨#[]⟩, .pointer (some ⟨w.heap.size + 1, 0, none⟩), .int .i64 (x : Int), .int .i64 (atL l x), undef, .pointer (some ⟨w.heap.size, 0, none⟩), .bool false, undef, .pointer (some ⟨w.heap.size, 1, none⟩), .slice a1 l.length cp1, .int .i64 (l.length : Int), .bool false, undef, .agg #[.bool false, .slice a1 l.length cp1], .slice a1 l.length cp1, .func (.func 216) #[] #[.pointer (some ⟨Bs, 0, none⟩)], .int .i64 (x : Int), .int .i64 (atL l x), undef, undef, undef, undef, undef, undef, undef, undef, undef, undef, undef, undef, undef, undef, undef, undef, undef], defers := [] }

set_option maxRecDepth 100000 in
set_option maxHeartbeats 3200000 in
theorem c146 (dv : Value) (l : List Int) (w : World) (h : IntsAt w dv l) (hb : InB l) (hz : NoZ l) (hl : l.length ≤ 40) (hP : TP w) :
    Calls Tryz.prog 146 #[.agg #[.bool false, dv]] w fun e w' => e = .returned (.string ⟨(Lib.decDigits (numL l)).toArray⟩) ∧ Below w.heap.size w w' := by
  obtain ⟨a1, cp1, rfl⟩ := row_form h
  have H := Lib.hid h
  have HB := Lib.hid hb
  have HZ := Lib.hid hz
  have HP := Lib.hid hP
  have HL := Lib.hid hl
  clear h hb hz hP hl
  have hf172 : Fence.wide.fn 172 := trivial
  have hf190 : Fence.wide.fn 190 := trivial
  by_cases hne : l.length = 0
  · have hz2 : ((l.length : Int) == 0) = true := by rw [hne]; rfl
    obtain rfl := List.eq_nil_of_length_eq_zero hne
    have hf65 : Fence.wide.fn 65 := trivial
    clear hne
    refine (callsIn_wide (n := 5)).1 ?_
    refine callsIn_of_wp_marks Tryz.func146 rfl trivial ?_ rfl
    simp only [Tryz.ntmps146, List.size_toArray, List.length_cons, List.length_nil, Nat.reduceAdd, Nat.reduceSub, Array.replicate_succ, Array.replicate_zero, List.push_toArray, List.append_toArray, List.nil_append, List.cons_append]
    gi_wp2_with (gi_at_call 65; refine (callsIn_wide.2 (c65 (w.heap.size + 1) (w.heap.size + 1) [] 48 _ (.inl ⟨Nat.le_refl _, _, blk_new _ _ (by simp) _, ⟨rfl, .inl ⟨rfl, rfl⟩⟩, by intro h; cases h⟩) (by simp) (by simp))).mono ?_; rintro e w1 ⟨rfl, g1, g2, g3⟩; have k0 := (g2.cell (p := ⟨w.heap.size, 0, none⟩) (by show w.heap.size < w.heap.size + 1; omega)).trans (show _ = some (.bool false) by rw [cell_of_row _ _ _ _ _ _ (blk_alloc (blk_new _ _ rfl _) _)]; rfl); have k1 := (g2.cell (p := ⟨w.heap.size, 1, none⟩) (by show w.heap.size < w.heap.size + 1; omega)).trans (show _ = some (.slice a1 0 cp1) by rw [cell_of_row _ _ _ _ _ _ (blk_alloc (blk_new _ _ rfl _) _)]; rfl); have G1 := Lib.hid g1; have G2 := Lib.hid g2; clear g1 g2 g3)
    gi_wp2_with (gi_at_call 172; refine (callsIn_wide.2 (c172 _ _ _)).mono ?_; rintro e w2 ⟨rfl, hb2⟩; have HB2 := Lib.hid hb2; clear hb2)
    gi_wp2_with (gi_at_call 190; refine (callsIn_wide.2 (c190 _ _ _ _)).mono ?_; rintro e w' ⟨rfl, rfl⟩)
    generalize hW : World.alloc w2 _ = W0
    obtain ⟨Bs, hBs⟩ : ∃ Bs, w2.heap.size = Bs := ⟨_, rfl⟩
    rw [hBs]
    have hz0 : W0.heap.size = Bs + 1 := by rw [← hW]; simp; omega
    have hsz2 := HB2.out.size
    have hsz1 := G2.out.size
    simp only [World.size_alloc] at hsz1
    have HZW := Lib.hid (show w.heap.size + 2 ≤ W0.heap.size by omega)
    obtain ⟨w0, hw0⟩ : ∃ w0, w.alloc (.cells #[.bool false, .slice a1 0 cp1] 39 (0, 0)) = w0 := ⟨_, rfl⟩
    have hz : w0.heap.size = w.heap.size + 1 := by rw [← hw0]; simp
    have hbel1 : Below (w.heap.size + 1) w0 w1 := by
      rw [← hw0]
      exact ((Below.refl _ _).alloc (by simp) _).trans G2.out
    have hbel : Below (w.heap.size + 1) w0 W0 := by
      rw [← hW]
      exact (hbel1.trans (HB2.out.mono (by omega))).alloc (by omega) _
    have hww : Below w.heap.size w w0 := by rw [← hw0]; exact (Below.refl _ _).alloc (Nat.le_refl _) _
    have b2 : W0.heap[Bs]? = some (.cells #[.slice a1 0 cp1] 186 (0, 0)) := by rw [← hW]; exact blk_new _ _ hBs _
    have hnb : NB w0 (w.heap.size + 1) Bs (Bs + 2) (.slice a1 0 cp1) [48] W0 := by
      obtain ⟨_, v, g1, g2, g3⟩ := G1.out
      have hown : ∀ k, v.ownBlock = some k → k < w1.heap.size := fun k hk => by
        obtain ⟨c, fz, hc⟩ := own_kind5 g2 hk
        exact lt_of_blk hc
      have hb12 : Below w1.heap.size w1 W0 := by rw [← hW]; exact HB2.out.alloc (by omega) _
      refine ⟨⟨_, v, .inr rfl, (hb12.block _ (lt_of_blk g1)).trans g1, g2.kept hb12.grownBy ?_, g3, fun e => by have := hown _ e; omega⟩, hbel, b2⟩
      rcases v.ownBlock with _ | k
      · exact .inl rfl
      · right; intro e; cases e
    have HWW := Lib.hid hww
    clear hW hw0 hww k0 k1 hbel1 hsz1
    refine rf_law3 (by omega) (gf := 216) (lb := #[.pointer (some ⟨Bs, 0, none⟩)]) (by rfl) (enters_of Tryz.func216 (by kernel_rfl) rfl)
      (c216o _ Bs a1 cp1 [] (by simp) (fun r => w.heap.size + 1 ≤ r ∧ r ≠ Bs ∧ r ≠ Bs + 1 ∧ r ≠ Bs + 2) (by omega) W0 (by rw [cell_of_row _ _ _ _ _ _ b2]; rfl) (fun h => absurd rfl h)) (fun _ => rfl)
      (by intro r hr; omega)
      (fun pre W => NB w0 (w.heap.size + 1) Bs (Bs + 2) (.slice a1 0 cp1) [48] W) (fun _ _ _ => False) ?hI (fun _ _ _ _ _ h => h.elim) hnb (fun _ _ _ _ _ => False) (fun _ _ _ _ _ _ _ _ _ h => h.elim) ?assign (fun _ _ _ _ _ _ _ _ _ h => h.elim) ?done (fun _ _ _ _ _ _ h => h.elim)
    case hI =>
      rintro pre A A' row h2 hg hr
      have := HZW.out
      exact h2.grown (by omega) (by omega) hg (fun r e => by have := hr r e; omega)
    case assign =>
      rintro l' pre x W r hl hlr h2 hlen
      simp at hlen
    case done =>
      rintro D xs W hD hxs h2 hK
      obtain ⟨S, hS⟩ : ∃ S : ByteArray, (⟨(Lib.decDigits (numL [])).toArray⟩ : ByteArray) = S := ⟨_, rfl⟩
      have hJ : JW w0 (w.heap.size + 1) [48] [] (.slice none 0 0) W := ⟨h2.is, World.ownsRow_nil _ _ _ _, h2.bel⟩
      have C64 := Lib.hid (c64 W hJ S (by rw [← hS]; have e : Lib.decDigits (numL []) = [48] := dec_one (by decide); rw [e]))
      have HBL := Lib.hid h2.bel
      have HK := Lib.hid hK
      have HDL := Lib.hid hD
      have hf64 : Fence.wide.fn 64 := trivial
      have HS := Lib.hid hS
      clear h2 hJ hS hK hD hxs b2 hbel hsz2 hnb
      gi_wp2_with (gi_at_call 64; refine (callsIn_wide.2 C64.out).mono ?_; rintro e w8 ⟨rfl, g1, g2, g3⟩; have G2 := Lib.hid g2; have G3 := Lib.hid g3; clear g1 g2 g3)
      have hK8 := G3.out _ _ HK.out (fun e => by injection e with e; have := HDL.out; have := HZW.out; omega) (fun c fz e => by cases e)
      refine ⟨by simp, .inl ⟨_, _, rfl, run_takeDeferred hK8, ?_⟩⟩
      have hbb := HWW.out.trans ((HBL.out.trans G2.out).mono (by omega))
      refine ⟨.string S, ?_, ⟨by rw [← HS.out], hbb.grown (grownBy_putObj' _ D _) hbb.size (fun k e => by cases e; have := HDL.out; have := HZW.out; omega)⟩⟩
      simp [results, Tryz.f146, go_sem]
  · have hz2 : ((l.length : Int) == 0) = false := beq_eq_false_iff_ne.2 (by omega)
    have HNE := Lib.hid hne
    clear hne
    refine (callsIn_wide (n := 5)).1 ?_
    refine callsIn_of_wp_marks Tryz.func146 rfl trivial ?_ rfl
    simp only [Tryz.ntmps146, List.size_toArray, List.length_cons, List.length_nil, Nat.reduceAdd, Nat.reduceSub, Array.replicate_succ, Array.replicate_zero, List.push_toArray, List.append_toArray, List.nil_append, List.cons_append]
    gi_wp2_with (gi_at_call 172; refine (callsIn_wide.2 (c172 _ _ _)).mono ?_; rintro e w2 ⟨rfl, hb2⟩; have HB2 := Lib.hid hb2; clear hb2)
    gi_wp2_with (gi_at_call 190; refine (callsIn_wide.2 (c190 _ _ _ _)).mono ?_; rintro e w' ⟨rfl, rfl⟩)
    generalize hW : World.alloc w2 _ = W0
    obtain ⟨Bs, hBs⟩ : ∃ Bs, w2.heap.size = Bs := ⟨_, rfl⟩
    rw [hBs]
    have hz0 : W0.heap.size = Bs + 1 := by rw [← hW]; simp; omega
    have hsz2 := HB2.out.size
    simp only [World.size_alloc] at hsz2
    have HZW := Lib.hid (show w.heap.size + 2 ≤ W0.heap.size by omega)
    have b1 : W0.heap[w.heap.size + 1]? = some (.cells #[.pointer none, .slice none 0 0] 83 (0, 0)) := by
      rw [← hW]
      refine blk_alloc ?_ _
      rw [HB2.out.block (w.heap.size + 1) (by simp)]
      exact blk_new _ _ (by simp) _
    have b2 : W0.heap[Bs]? = some (.cells #[.slice a1 l.length cp1] 186 (0, 0)) := by rw [← hW]; exact blk_new _ _ hBs _
    obtain ⟨w0, hw0⟩ : ∃ w0, w.alloc (.cells #[.bool false, .slice a1 l.length cp1] 39 (0, 0)) = w0 := ⟨_, rfl⟩
    have hz : w0.heap.size = w.heap.size + 1 := by rw [← hw0]; simp
    have hbel : Below (w.heap.size + 1) w0 W0 := by
      rw [← hW, ← hw0]
      exact ((((Below.refl _ _).alloc (by simp) _).trans (HB2.out.mono (by simp))).alloc (by omega) _)
    have hww : Below w.heap.size w w0 := by rw [← hw0]; exact (Below.refl _ _).alloc (Nat.le_refl _) _
    have hc1 : w0.cell? ⟨w.heap.size, 1, none⟩ = some (.slice a1 l.length cp1) := by rw [← hw0, cell_of_row _ _ _ _ _ _ (blk_new _ _ rfl _)]; rfl
    have hx1 : l ≠ [] → ∃ g, a1 = some ⟨g, 0, none⟩ ∧ g < W0.heap.size ∧ ¬ (w.heap.size + 1 ≤ g ∧ g ≠ Bs ∧ g ≠ Bs + 1 ∧ g ≠ Bs + 2) ∧ ∀ j, j < l.length → W0.cell? ⟨g, j, none⟩ = some (.int .i64 (atL l j)) := fun hne => by
      rcases H.out.form with ⟨_, h0⟩ | ⟨g, q, e, _, _, hg, x⟩
      · exact absurd h0 hne
      · injection e with e1 e2 e3
        exact ⟨g, e1, by omega, by omega, fun j hj => (hbel.cell (p := ⟨g, j, none⟩) (by show g < _; omega)).trans ((hww.cell (p := ⟨g, j, none⟩) hg).trans (x j hj))⟩
    have HTP : Hid (TP w0) := Lib.hid (HP.out.below hww)
    have HC1 := Lib.hid hc1
    have HWW := Lib.hid hww
    clear hW hw0 hc1 hww HP
    refine rf_law3 (by omega) (gf := 216) (lb := #[.pointer (some ⟨Bs, 0, none⟩)]) (by rfl) (enters_of Tryz.func216 (by kernel_rfl) rfl)
      (c216o _ Bs a1 cp1 l (by have := HL.out; omega) (fun r => w.heap.size + 1 ≤ r ∧ r ≠ Bs ∧ r ≠ Bs + 1 ∧ r ≠ Bs + 2) (by omega) W0 (by rw [cell_of_row _ _ _ _ _ _ b2]; rfl) hx1) (fun _ => rfl)
      (by intro r hr; omega)
      (fun pre W => ∃ i, pre.length + i = l.length ∧ NB w0 (w.heap.size + 1) Bs (Bs + 2) (.slice a1 l.length cp1) (textL l i) W) (fun _ _ _ => False) ?hI (fun _ _ _ _ _ h => h.elim) ⟨l.length, by simp, ?h0⟩ (NbA l w w0 (w.heap.size + 1) Bs (Bs + 2) a1 cp1) ?hA ?assign ?body ?done (fun _ _ _ _ _ _ h => h.elim)
    case hI =>
      rintro pre A A' row ⟨i, h1, h2⟩ hg hr
      exact ⟨i, h1, h2.grown (by omega) (by omega) hg (fun r e => by have := hr r e; omega)⟩
    case h0 =>
      have e : textL l l.length = [] := by unfold textL; rw [if_pos (Nat.le_refl _)]
      rw [e]
      exact ⟨⟨_, _, .inl rfl, b1, ⟨rfl, .inl ⟨rfl, rfl⟩⟩, by simp [Value.ownBlock], by simp [Value.ownBlock]⟩, hbel, b2⟩
    case hA =>
      rintro l' pre x a' A r o' hl hlr ⟨h1, h2, h3, ha⟩
      exact ⟨h1.put hlr (by omega) o', h2, h3, ha⟩
    case assign =>
      rintro l' pre x W r hl hlr ⟨i, h1, h2⟩ hlen ⟨hgx, hgy⟩
      have hWl := lt_of_blk hlr
      have e : i = x + 1 := by omega
      subst e
      gi_wp2
      exact ⟨Keep.refl _ _, h2, hgx, hgy, rfl⟩
    case body =>
      rintro l' pre x a' W r hl hlr hD ⟨h1, hx, h3, rfl⟩ hlen _
      rw [hz0] at hl hD
      obtain rfl : l' = Bs + 2 := by omega
      obtain ⟨d, hd⟩ : ∃ d, atL l x = d := ⟨_, rfl⟩
      have hdx : l[x]? = some d := by rw [← hd]; unfold atL; rw [List.getD_eq_getElem?_getD, List.getElem?_eq_getElem hx]; rfl
      have hdr := HB.out d (List.mem_of_getElem? hdx)
      have kb : W.cell? ⟨w.heap.size, 1, none⟩ = some (.slice a1 l.length cp1) := (h1.bel.cell (p := ⟨w.heap.size, 1, none⟩) (by show w.heap.size < w.heap.size + 1; omega)).trans HC1.out
      have htw : TP W := HTP.out.below (by rw [hz]; exact h1.bel)
      obtain ⟨T, hT⟩ : ∃ T : ByteArray, (⟨(Lib.itoa d).toArray⟩ : ByteArray) = T := ⟨_, rfl⟩
      have hTl : T.data.toList = Lib.itoa d := by rw [← hT]
      have hTs : T.size = (Lib.itoa d).length := by rw [← hT]; rfl
      have hT9 : T.size ≤ 9 := by rw [hTs, itoa_nat d hdr.1]; exact dec_len9 (by omega)
      have C191 : Hid (∀ X, Below W.heap.size W X → Calls Tryz.prog 191 #[.int .i64 d] X fun e w' => e = .returned (.string T) ∧ Below X.heap.size X w') := Lib.hid (fun X hX => by
        have h := c191 d X hdr.1 hdr.2 (htw.below hX)
        rw [hT] at h; exact h)
      have hf191 : Fence.wide.fn 191 := trivial
      have hf34 : Fence.wide.fn 34 := trivial
      have hf67 : Fence.wide.fn 67 := trivial
      have hNl : (l.length : Int) ≤ 40 := by have := HL.out; omega
      have htl := textL_len l (x + 1) HB.out HL.out
      have H1 := Lib.hid h1
      have HLR := Lib.hid hlr
      have HD := Lib.hid hD
      have HX := Lib.hid hx
      have H3 := Lib.hid h3
      have HDX := Lib.hid hdx
      have HTL := Lib.hid hTl
      have HTX := Lib.hid htl
      have hbs : w.heap.size + 1 < Bs := by omega
      have HBS := Lib.hid hbs
      rw [hd]
      by_cases hlast : x + 1 = l.length
      · have hnl : ¬ ((x : Int) < (l.length : Int) - 1) := by omega
        have HLAST := Lib.hid hlast
        clear h1 hlr hD hx h3 hdx hTl htl hbs hlast hl hd hT hTs htw hdr hx1 b1 b2 hbel hz hz0 hsz2
        gi_wp2_with (first | (gi_at_call 191; refine (callsIn_wide.2 (C191.out _ (Below.refl _ _))).mono ?_; rintro e w5 ⟨rfl, hb5⟩; have kb5 := (hb5.cell (p := ⟨w.heap.size, 1, none⟩) (World.block_lt_of_cell? _ _ kb)).trans kb; have HB5 := Lib.hid hb5; clear hb5) | (gi_at_call 67; refine (callsIn_wide.2 (c67 (w.heap.size + 1) (w.heap.size + 1) (Lib.byteCells (textL l (x + 1))) T _ (nb_is5 H1.out HB5.out HLR.out) (by rw [Lib.byteCells_length]; have := HTX.out; omega) (by have := H1.out.lt; have := HB5.out.size; omega))).mono ?_; rintro e w6 ⟨rfl, g1, g2, g3⟩; have G1 := Lib.hid g1; have G2 := Lib.hid g2; have G3 := Lib.hid g3; clear g1 g2 g3))
        have e1 : Lib.byteCells (textL l (x + 1)) ++ Lib.strCells T = Lib.byteCells (textL l x) := by
          rw [strCells_bytes, ← byteCells_app, HTL.out, ← textL_top l x d HB.out HDX.out HLAST.out]
        have g1 := G1.out
        rw [e1] at g1
        obtain ⟨hk, hn⟩ := nb_round H1.out HBS.out HLR.out HD.out ((HB5.out.mono (Nat.le_of_lt H1.out.lt)).trans G2.out) ((others_below HB5.out).trans G3.out) (.inr g1)
        exact ⟨hk, x, by have := H3.out; simp; omega, hn⟩
      · have hnl : (x : Int) < (l.length : Int) - 1 := by omega
        have hlast2 : x + 1 < l.length := by omega
        have HLAST := Lib.hid hlast2
        obtain ⟨c, hc⟩ : ∃ c, 9 - T.size = c := ⟨_, rfl⟩
        have hcz : (9 : Int) - (T.size : Int) = (c : Int) := by omega
        obtain ⟨R, hR⟩ : ∃ R : ByteArray, (⟨(Lib.repeatL [48] c).toArray⟩ : ByteArray) = R := ⟨_, rfl⟩
        have hRs : R.size = c := by rw [← hR]; show (Lib.repeatL [48] c).length = c; rw [Lib.repeatL_length]; simp
        have hRl : R.data.toList = List.replicate (9 - (Lib.itoa d).length) 48 := by
          rw [← hR, ← hTs, hc]
          show Lib.repeatL [48] c = _
          have : ∀ n, Lib.repeatL [(48 : UInt8)] n = List.replicate n 48 := fun n => by
            induction n with
            | zero => rfl
            | succ n ih => rw [List.replicate_succ, ← ih]; rfl
          exact this c
        have C34 : Hid (∀ X, Calls Tryz.prog 34 #[.string ⟨#[48]⟩, .int .i64 ((9 : Int) - (T.size : Int))] X fun e w' => e = .returned (.string R) ∧ Below X.heap.size X w') := Lib.hid (fun X => by
          exact c34 ⟨#[48]⟩ _ c R X hcz (by rw [← hR]) (by omega) (by decide))
        have hT9z : (T.size : Int) ≤ 9 := by omega
        have HRL := Lib.hid hRl
        have nz : ¬ 9223372036854775807 < R.size + T.size := by omega
        have HRS := Lib.hid (show R.size ≤ 9 ∧ T.size ≤ 9 by omega)
        clear h1 hlr hD hx h3 hdx hTl htl hbs hlast hlast2 hl hd hT hTs htw hdr hx1 b1 b2 hbel hz hz0 hsz2 hc hcz hR hRs hRl hT9
        gi_wp2_with (first | (gi_at_call 191; refine (callsIn_wide.2 (C191.out _ (Below.refl _ _))).mono ?_; rintro e w5 ⟨rfl, hb5⟩; have kb5 := (hb5.cell (p := ⟨w.heap.size, 1, none⟩) (World.block_lt_of_cell? _ _ kb)).trans kb; have HB5 := Lib.hid hb5; clear hb5) | (gi_at_call 34; refine (callsIn_wide.2 (C34.out _)).mono ?_; rintro e w7 ⟨rfl, hb7⟩; have hb5 := HB5.out.trans (hb7.mono HB5.out.size); clear HB5 hb7; have HB5 := Lib.hid hb5; clear hb5) | (gi_at_call 67; refine (callsIn_wide.2 (c67 (w.heap.size + 1) (w.heap.size + 1) (Lib.byteCells (textL l (x + 1))) (R ++ T) _ (nb_is5 H1.out HB5.out HLR.out) (by rw [Lib.byteCells_length, ByteArray.size_append]; have := HTX.out; have := HRS.out; omega) (by have := H1.out.lt; have := HB5.out.size; omega))).mono ?_; rintro e w6 ⟨rfl, g1, g2, g3⟩; have G1 := Lib.hid g1; have G2 := Lib.hid g2; have G3 := Lib.hid g3; clear g1 g2 g3))
        have e1 : Lib.byteCells (textL l (x + 1)) ++ Lib.strCells (R ++ T) = Lib.byteCells (textL l x) := by
          have e2 : (R ++ T).data.toList = R.data.toList ++ T.data.toList := by rw [ByteArray.data_append, Array.toList_append]
          rw [strCells_bytes, ← byteCells_app, e2, HTL.out, HRL.out, ← textL_step l x d HB.out HZ.out HDX.out HLAST.out]
        have g1 := G1.out
        rw [e1] at g1
        obtain ⟨hk, hn⟩ := nb_round H1.out HBS.out HLR.out HD.out ((HB5.out.mono (Nat.le_of_lt H1.out.lt)).trans G2.out) ((others_below HB5.out).trans G3.out) (.inr g1)
        exact ⟨hk, x, by have := H3.out; simp; omega, hn⟩
    case done =>
      rintro D xs W hD hxs ⟨i, h1, h2⟩ hK
      obtain rfl : i = 0 := by omega
      have hne : l ≠ [] := fun e => HNE.out (by rw [e]; rfl)
      rw [textL_all l hne] at h2
      obtain ⟨S, hS⟩ : ∃ S : ByteArray, (⟨(Lib.decDigits (numL l)).toArray⟩ : ByteArray) = S := ⟨_, rfl⟩
      have hJ : JW w0 (w.heap.size + 1) (Lib.decDigits (numL l)) [] (.slice none 0 0) W := ⟨h2.is, World.ownsRow_nil _ _ _ _, h2.bel⟩
      have C64 := Lib.hid (c64 W hJ S hS.symm)
      have HBL := Lib.hid h2.bel
      have HK := Lib.hid hK
      have HDL := Lib.hid hD
      have hf64 : Fence.wide.fn 64 := trivial
      have HS := Lib.hid hS
      clear h2 hJ hS hK hD h1 hxs hne hx1 b1 b2 hbel hsz2
      gi_wp2_with (gi_at_call 64; refine (callsIn_wide.2 C64.out).mono ?_; rintro e w8 ⟨rfl, g1, g2, g3⟩; have G2 := Lib.hid g2; have G3 := Lib.hid g3; clear g1 g2 g3)
      have hK8 := G3.out _ _ HK.out (fun e => by injection e with e; have := HDL.out; have := HZW.out; omega) (fun c fz e => by cases e)
      refine ⟨by simp, .inl ⟨_, _, rfl, run_takeDeferred hK8, ?_⟩⟩
      have hbb := HWW.out.trans ((HBL.out.trans G2.out).mono (by omega))
      refine ⟨.string S, ?_, ⟨by rw [← HS.out], hbb.grown (grownBy_putObj' _ D _) hbb.size (fun k e => by cases e; have := HDL.out; have := HZW.out; omega)⟩⟩
      simp [results, Tryz.f146, go_sem]
end Go.Proofs.YtagcfgoofiibfaaGreatDoor
namespace Go.Proofs.YtagcfgoofiibfaaGreatDoor
open Go Go.RowKit

/-- cells of a block that was just made, and of older ones -/
theorem lt_of_cell {w : World} {b o : Nat} {v : Value} (h : w.cell? ⟨b, o, none⟩ = some v) : b < w.heap.size := by
  rcases Nat.lt_or_ge b w.heap.size with q | q
  · exact q
  · exfalso
    have : w.heap[b]? = none := by simp; omega
    unfold World.cell? at h
    rw [this] at h; cases h
theorem old_blk (w : World) (A : Obj) {X : World} (hb : Below (w.alloc A).heap.size (w.alloc A) X) {b o : Nat} (h : b < w.heap.size) : X.cell? ⟨b, o, none⟩ = w.cell? ⟨b, o, none⟩ := by
  have hsz : (w.alloc A).heap.size = w.heap.size + 1 := by simp
  rw [hb.cell (p := ⟨b, o, none⟩) (by rw [hsz]; show b < w.heap.size + 1; omega)]
  exact World.cell?_alloc_lt w A _ h
theorem one_blk (w : World) (A : Array Value) (T : TypeId) {X : World} (hb : Below (w.alloc (.cells A T (0, 0))).heap.size (w.alloc (.cells A T (0, 0))) X) : ∀ (j : Nat) (v : Value), A[j]? = some v → X.cell? ⟨w.heap.size, j, none⟩ = some v := fun j v hv => by
  have h2 := heap_alloc_new w (.cells A T (0, 0))
  have hsz : (w.alloc (.cells A T (0, 0))).heap.size = w.heap.size + 1 := by simp
  rw [hb.cell (p := ⟨w.heap.size, j, none⟩) (by rw [hsz]; show w.heap.size < w.heap.size + 1; omega), cell_of_row _ _ _ _ _ _ h2]; exact hv
end Go.Proofs.YtagcfgoofiibfaaGreatDoor
namespace Go.Proofs.YtagcfgoofiibfaaGreatDoor
open Go Go.RowKit

/-- a token without its places, in memory -/
abbrev tokO (k : Int) (s : ByteArray) (dv : Value) (a e : Nat) (l c : Int) : Obj := .cells #[.int .i64 k, .string s, .bool false, dv, .int .i64 (a : Int), .int .i64 (e : Int), .int .i64 l, .int .i64 c] 41 (0, 0)

set_option maxRecDepth 100000 in
set_option maxHeartbeats 3200000 in
/-- num.Text -/
theorem c98 (dv : Value) (l : List Int) (w : World) (h : IntsAt w dv l) (hb : InB l) (hz : NoZ l) (hl : l.length ≤ 40) (hP : TP w) :
    Calls Tryz.prog 98 #[.agg #[.bool false, dv]] w fun e w' => e = .returned (.tuple #[.string ⟨(Lib.decDigits (numL l)).toArray⟩, .int .i64 0]) ∧ Below w.heap.size w w' := by
  obtain ⟨a, cp, rfl⟩ := row_form h
  obtain ⟨S, hS⟩ : ∃ S : ByteArray, (⟨(Lib.decDigits (numL l)).toArray⟩ : ByteArray) = S := ⟨_, rfl⟩
  rw [hS]
  have KW : Hid (∀ X, Below w.heap.size w X → (Calls Tryz.prog 141 #[.agg #[.bool false, .slice a l.length cp]] X fun e w' => e = .returned (.int .i64 0) ∧ Below X.heap.size X w') ∧ (Calls Tryz.prog 146 #[.agg #[.bool false, .slice a l.length cp]] X fun e w' => e = .returned (.string S) ∧ Below X.heap.size X w')) := Lib.hid (fun X hX => by
    have h2 := c146 _ l X (h.below hX) hb hz hl (hP.below hX)
    rw [hS] at h2
    exact ⟨c141 _ l X (h.below hX) hb hz hl, h2⟩)
  clear h hb hz hl hP hS
  have HB0 : Hid (Below w.heap.size w (w.alloc (.cells #[.bool false, .slice a l.length cp] 39 (0, 0)))) := Lib.hid ((Below.refl _ _).alloc (Nat.le_refl _) _)
  go_enter Tryz.func98, Tryz.ntmps98
  go_wp2_with (first | (go_at_call 141; ((with_reducible refine (KW.out _ HB0.out).1.mono ?_); rintro e w1 ⟨rfl, hbb⟩; have k0 := one_blk w #[.bool false, .slice a l.length cp] 39 hbb 0 _ rfl; have k1 := one_blk w #[.bool false, .slice a l.length cp] 39 hbb 1 _ rfl; have hb1 := HB0.out.trans (hbb.mono HB0.out.size); have HB1 := Lib.hid hb1; clear hb1 hbb)) | (go_at_call 146; ((with_reducible refine (KW.out _ HB1.out).2.mono ?_); rintro e w2 ⟨rfl, hbb⟩; have HB2 := Lib.hid (HB1.out.trans (hbb.mono HB1.out.size)); clear hbb)))
  go_ret2
  exact ⟨rfl, HB2.out⟩

set_option maxRecDepth 100000 in
set_option maxHeartbeats 3200000 in
/-- valid: a number -/
theorem c97num (p : Nat) (tk : Int) (ts : ByteArray) (td : List Int) (at_ en : Nat) (tl tc : Int) (dv : Value) (w : World) (hk : tk = 2) (hs : ts = ByteArray.empty) (h : IntsAt w dv td) (hb : InB td) (hz : NoZ td) (hl : td.length ≤ 40) :
    Calls Tryz.prog 97 #[.pointer (some ⟨p, 0, none⟩), tokV ⟨tk, ts, td, at_, en, tl, tc⟩ dv] w fun e w' => e = .returned (.bool true) ∧ Below w.heap.size w w' := by
  subst hk hs
  obtain ⟨a, cp, rfl⟩ := row_form h
  have KW : Hid (∀ X, Below w.heap.size w X → (Calls Tryz.prog 141 #[.agg #[.bool false, .slice a td.length cp]] X fun e w' => e = .returned (.int .i64 0) ∧ Below X.heap.size X w')) := Lib.hid (fun X hX => c141 _ td X (h.below hX) hb hz hl)
  have HB0 : Hid (Below w.heap.size w (w.alloc (tokO 2 ByteArray.empty (.slice a td.length cp) at_ en tl tc))) := Lib.hid ((Below.refl _ _).alloc (Nat.le_refl _) _)
  clear h hb hz hl
  show Calls Tryz.prog 97 #[_, .agg #[_, _, _, _, _, _, _, _]] w _
  go_enter Tryz.func97, Tryz.ntmps97
  go_wp2_with (go_at_call 141; ((with_reducible refine (KW.out _ HB0.out).mono ?_); rintro e w1 ⟨rfl, hbb⟩; have k2 := one_blk w _ 41 hbb 2 _ rfl; have hb1 := HB0.out.trans (hbb.mono HB0.out.size); have HB1 := Lib.hid hb1; clear hb1 hbb))
  go_ret
  exact ⟨rfl, HB1.out⟩
set_option maxRecDepth 100000 in
set_option maxHeartbeats 3200000 in
/-- valid: a line -/
theorem c97line (p : Nat) (tk : Int) (ts : ByteArray) (at_ en : Nat) (tl tc : Int) (a : Option Addr) (cp : Nat) (w : World) (hk : tk = 6 ∨ tk = 7) (hs : ts = ByteArray.empty) :
    Calls Tryz.prog 97 #[.pointer (some ⟨p, 0, none⟩), tokV ⟨tk, ts, [], at_, en, tl, tc⟩ (.slice a 0 cp)] w fun e w' => e = .returned (.bool true) ∧ Below w.heap.size w w' := by
  subst hs
  show Calls Tryz.prog 97 #[_, .agg #[_, _, _, _, _, _, _, _]] w _
  rcases hk with rfl | rfl
  all_goals
    have HB0 : Hid (Below w.heap.size w (w.alloc (.cells #[] 41 (0, 0)))) := Lib.hid ((Below.refl _ _).alloc (Nat.le_refl _) _)
    go_enter Tryz.func97, Tryz.ntmps97
    go_wp2_with (go_at_call 142; ((with_reducible refine (c142_0 _ _ _).mono ?_); rintro e w1 ⟨rfl, hbb⟩; have k1 := one_blk w _ 41 hbb 1 _ rfl; have HB1 : Hid (Below w.heap.size w w1) := Lib.hid (((Below.refl _ _).alloc (Nat.le_refl _) _).trans (hbb.mono (by simp))); clear hbb))
    go_ret
    exact ⟨rfl, HB1.out⟩
end Go.Proofs.YtagcfgoofiibfaaGreatDoor
namespace Go.Proofs.YtagcfgoofiibfaaGreatDoor
open Go Go.RowKit

/-- valid says yes of these tokens -/
def Says97 (V : Tk → Prop) : Prop := ∀ (t : Tk) (dv : Value) (p : Nat) (X : World), V t → IntsAt X dv t.d → TI X → TP X → TabAt X.heap.size p X → Calls Tryz.prog 97 #[.pointer (some ⟨p, 0, none⟩), tokV t dv] X fun e w' => e = .returned (.bool true) ∧ Below X.heap.size X w'
/-- spell writes these tokens -/
def Says62 (V : Tk → Prop) : Prop := ∀ (t : Tk) (dv : Value) (X : World), V t → IntsAt X dv t.d → TP X → Calls Tryz.prog 62 #[tokV t dv] X fun e w' => e = .returned (.string (spellF t)) ∧ Below X.heap.size X w'

set_option maxRecDepth 100000 in
set_option maxHeartbeats 3200000 in
theorem c61g (V : Tk → Prop) (h97 : Says97 V) (v : Value) (ts : List Tk) (w : World) (hT : TI w) (hP : TP w) (hr : TokRow w v ts) (hv : ∀ t ∈ ts, V t) : Calls Tryz.prog 61 #[v] w (ChkTo w) := by
  have HC := Lib.hid (c69 w hT)
  obtain ⟨a0, cp0, rfl, hm0, hc0⟩ := hr.shape
  have hml : ts.length ≤ 9223372036854775807 := by unfold maxLen at hm0; omega
  have HT := Lib.hid hT
  have HTP := Lib.hid hP
  have H97 := Lib.hid h97
  have HR := Lib.hid hr
  have HV := Lib.hid hv
  clear hT hP h97 hr hv hm0 hc0
  go_enter Tryz.func61, Tryz.ntmps61
  go_wp2_with (go_at_call 69; ((with_reducible refine HC.out.mono ?_); rintro e w1 ⟨p, rfl, hp, hpl, hb1⟩; have HB1 := Lib.hid hb1; have HP := Lib.hid hp; clear hb1 hp))
  go_loopw [10] (fun s10 wr => ∃ k : Nat, k ≤ ts.length ∧ s10 = .int .i64 (k : Int) ∧ Below w1.heap.size w1 wr) (fun s10 _ => ts.length - (intOf s10).toNat)
  case atStart => exact ⟨0, Nat.zero_le _, rfl, Below.refl _ _⟩
  case round =>
    obtain ⟨k, hk, rfl, hB⟩ := hrel
    have HB := Lib.hid hB
    clear hB
    by_cases hlt : k < ts.length
    · obtain ⟨t, ht⟩ : ∃ t, ts[k]? = some t := ⟨_, List.getElem?_eq_getElem hlt⟩
      have hw : Below w.heap.size w wr := HB1.out.trans (HB.out.mono HB1.out.size)
      have hrr := HR.out.below hw
      obtain ⟨b, cap, he, hc1, hm1, hb1, hcl⟩ := hrr.cells (by omega)
      injection he with e1 e2 e3
      subst e1 e3
      obtain ⟨dv, hi, x0, x1, x2, x3, x4, x5, x6, x7⟩ := hcl k t ht
      have hvt := HV.out t (List.mem_of_getElem? ht)
      obtain ⟨ad, cpd, rfl⟩ := row_form hi
      have hTr := HT.out.below hw
      have hTp := HTP.out.below hw
      have hPr := HP.out.up HB.out HB.out.size
      have CC := Lib.hid (fun X (hX : Below wr.heap.size wr X) => H97.out t _ p X hvt (hi.below hX) (hTr.below hX) (hTp.below hX) (hPr.up hX hX.size))
      have b0 : (0 : Int) ≤ (k : Int) := by omega
      have b2 : (k : Int) < (ts.length : Int) := by omega
      have HW := Lib.hid hw
      clear hw hrr hcl hi hvt hTr hTp hPr ht e2
      go_wp2_with (go_at_call 97; ((with_reducible refine (CC.out _ ((Below.refl _ _).alloc (Nat.le_refl _) _)).mono ?_); rintro e w2 ⟨rfl, hbb⟩; have HBB := Lib.hid hbb; clear hbb))
      go_roundw
      case rel => exact ⟨k + 1, by omega, by go_num, HB.out.trans (((Below.refl wr.heap.size wr).alloc (Nat.le_refl _) _).trans (HBB.out.mono (by simp)) |>.mono HB.out.size)⟩
      case measure => simp [intOf]; omega
    · have hd : decide (k < ts.length) = false := by simpa using hlt
      go_wp2
      go_ret2
      exact ⟨p, rfl, HP.out.up HB.out HB.out.size, HB1.out.trans (HB.out.mono HB1.out.size)⟩

/-- a valid number -/
def VNum (t : Tk) : Prop := t.k = 2 ∧ t.s = ByteArray.empty ∧ InB t.d ∧ NoZ t.d ∧ t.d.length ≤ 40
theorem says97_num : Says97 VNum := fun t dv p X hv hi _ _ _ => by
  obtain ⟨k, s, d, a, e, l, c⟩ := t
  exact c97num p k s d a e l c dv X hv.1 hv.2.1 hi hv.2.2.1 hv.2.2.2.1 hv.2.2.2.2
set_option maxRecDepth 100000 in
set_option maxHeartbeats 3200000 in
theorem says62_num : Says62 VNum := fun t dv w hv h hP => by
  obtain ⟨k, s, d, a_, e_, l_, c_⟩ := t
  obtain ⟨h1, h2, hb, hz, hl⟩ := hv
  simp only [] at h1 h2 hb hz hl h
  subst h1 h2
  obtain ⟨a, cp, rfl⟩ := row_form h
  have e : spellF ⟨2, ByteArray.empty, d, a_, e_, l_, c_⟩ = ⟨(Lib.decDigits (numL d)).toArray⟩ := by unfold spellF; rw [if_pos rfl]
  rw [e]
  obtain ⟨S, hS⟩ : ∃ S : ByteArray, (⟨(Lib.decDigits (numL d)).toArray⟩ : ByteArray) = S := ⟨_, rfl⟩
  rw [hS]
  have KW : Hid (∀ X, Below w.heap.size w X → (Calls Tryz.prog 98 #[.agg #[.bool false, .slice a d.length cp]] X fun e w' => e = .returned (.tuple #[.string S, .int .i64 0]) ∧ Below X.heap.size X w')) := Lib.hid (fun X hX => by
    have h2 := c98 _ d X (h.below hX) hb hz hl (hP.below hX)
    rw [hS] at h2
    exact h2)
  have HB0 : Hid (Below w.heap.size w (w.alloc (tokO 2 ByteArray.empty (.slice a d.length cp) a_ e_ l_ c_))) := Lib.hid ((Below.refl _ _).alloc (Nat.le_refl _) _)
  clear h hb hz hl hP hS e
  show Calls Tryz.prog 62 #[.agg #[_, _, _, _, _, _, _, _]] w _
  go_enter Tryz.func62, Tryz.ntmps62
  go_wp2_with (go_at_call 98; ((with_reducible refine (KW.out _ HB0.out).mono ?_); rintro e w1 ⟨rfl, hbb⟩; have hb1 := HB0.out.trans (hbb.mono HB0.out.size); have HB1 := Lib.hid hb1; clear hb1 hbb))
  go_ret
  exact ⟨rfl, HB1.out⟩

set_option maxRecDepth 100000 in
set_option maxHeartbeats 3200000 in
/-- lex.Spell -/
theorem c37 (V : Tk → Prop) (h97 : Says97 V) (h62 : Says62 V) (t : Tk) (dv : Value) (w : World) (hv : V t) (h : IntsAt w dv t.d) (hT : TI w) (hP : TP w) : Calls Tryz.prog 37 #[tokV t dv] w fun e w' => e = .returned (.tuple #[.string (spellF t), .int .i64 0]) ∧ Below w.heap.size w w' := by
  obtain ⟨a, cp, rfl⟩ := row_form h
  obtain ⟨S, hS⟩ : ∃ S, spellF t = S := ⟨_, rfl⟩
  rw [hS]
  have C62 : Hid (∀ X, Below w.heap.size w X → Calls Tryz.prog 62 #[tokV t (.slice a t.d.length cp)] X fun e w' => e = .returned (.string S) ∧ Below X.heap.size X w') := Lib.hid (fun X hX => by
    have h2 := h62 t _ X hv (h.below hX) (hP.below hX)
    rw [hS] at h2; exact h2)
  have HB0 : Hid (Below w.heap.size w (w.alloc (tokO t.k t.s (.slice a t.d.length cp) t.at_ t.en t.line t.col))) := Lib.hid ((Below.refl _ _).alloc (Nat.le_refl _) _)
  have C61 : Hid (∀ X, Below w.heap.size w X → ∀ v, TokRow X v [t] → Calls Tryz.prog 61 #[v] X (ChkTo X)) := Lib.hid (fun X hX v hr => c61g V h97 v [t] X (hT.below hX) (hP.below hX) hr (fun u hu => by simp at hu; subst hu; exact hv))
  have HI := Lib.hid h
  clear h hS hP hT hv
  obtain ⟨k, s, d, a_, e_, l_, c_⟩ := t
  simp only [] at C62 HB0 HI
  show Calls Tryz.prog 37 #[.agg #[_, _, _, _, _, _, _, _]] w _
  go_enter Tryz.func37, Tryz.ntmps37
  have hrow : TokRow ((w.alloc (.cells #[.int .i64 k, .string s, .bool false, .slice a d.length cp, .int .i64 (a_ : Int), .int .i64 (e_ : Int), .int .i64 l_, .int .i64 c_] 41 (0, 0))).alloc (.cells #[.int .i64 k, .string s, .bool false, .slice a d.length cp, .int .i64 (a_ : Int), .int .i64 (e_ : Int), .int .i64 l_, .int .i64 c_] 41 (0, 0))) (.slice (some ⟨w.heap.size + 1, 0, none⟩) 1 1) [⟨k, s, d, a_, e_, l_, c_⟩] := by
    have h := rowMade (w.alloc (.cells #[.int .i64 k, .string s, .bool false, .slice a d.length cp, .int .i64 (a_ : Int), .int .i64 (e_ : Int), .int .i64 l_, .int .i64 c_] 41 (0, 0))) [.int .i64 k, .string s, .bool false, .slice a d.length cp, .int .i64 (a_ : Int), .int .i64 (e_ : Int), .int .i64 l_, .int .i64 c_] [⟨k, s, d, a_, e_, l_, c_⟩] 1 rfl rfl (by unfold maxLen; omega) ⟨_, [], HI.out.below (((Below.refl _ _).alloc (Nat.le_refl _) _).alloc (by simp) _), rfl, rfl⟩
    rw [World.size_alloc] at h
    exact h
  have HROW := Lib.hid hrow
  have HB00 : Hid (Below w.heap.size w ((w.alloc (.cells #[.int .i64 k, .string s, .bool false, .slice a d.length cp, .int .i64 (a_ : Int), .int .i64 (e_ : Int), .int .i64 l_, .int .i64 c_] 41 (0, 0))).alloc (.cells #[.int .i64 k, .string s, .bool false, .slice a d.length cp, .int .i64 (a_ : Int), .int .i64 (e_ : Int), .int .i64 l_, .int .i64 c_] 41 (0, 0)))) := Lib.hid (((Below.refl _ _).alloc (Nat.le_refl _) _).alloc (by simp) _)
  clear hrow
  go_wp2_with (first | (go_at_call 61; ((with_reducible refine (C61.out _ HB00.out _ HROW.out).mono ?_); rintro e w1 ⟨p, rfl, _, hbb⟩; have hx1 := ((Below.refl (w.alloc (.cells #[.int .i64 k, .string s, .bool false, .slice a d.length cp, .int .i64 (a_ : Int), .int .i64 (e_ : Int), .int .i64 l_, .int .i64 c_] 41 (0, 0))).heap.size (w.alloc (.cells #[.int .i64 k, .string s, .bool false, .slice a d.length cp, .int .i64 (a_ : Int), .int .i64 (e_ : Int), .int .i64 l_, .int .i64 c_] 41 (0, 0)))).alloc (Nat.le_refl _) (.cells #[.int .i64 k, .string s, .bool false, .slice a d.length cp, .int .i64 (a_ : Int), .int .i64 (e_ : Int), .int .i64 l_, .int .i64 c_] 41 (0, 0))).trans (hbb.mono (by simp)); have k0 := one_blk w #[.int .i64 k, .string s, .bool false, .slice a d.length cp, .int .i64 (a_ : Int), .int .i64 (e_ : Int), .int .i64 l_, .int .i64 c_] 41 hx1 0 _ rfl; have k1 := one_blk w #[.int .i64 k, .string s, .bool false, .slice a d.length cp, .int .i64 (a_ : Int), .int .i64 (e_ : Int), .int .i64 l_, .int .i64 c_] 41 hx1 1 _ rfl; have k2 := one_blk w #[.int .i64 k, .string s, .bool false, .slice a d.length cp, .int .i64 (a_ : Int), .int .i64 (e_ : Int), .int .i64 l_, .int .i64 c_] 41 hx1 2 _ rfl; have k3 := one_blk w #[.int .i64 k, .string s, .bool false, .slice a d.length cp, .int .i64 (a_ : Int), .int .i64 (e_ : Int), .int .i64 l_, .int .i64 c_] 41 hx1 3 _ rfl; have k4 := one_blk w #[.int .i64 k, .string s, .bool false, .slice a d.length cp, .int .i64 (a_ : Int), .int .i64 (e_ : Int), .int .i64 l_, .int .i64 c_] 41 hx1 4 _ rfl; have k5 := one_blk w #[.int .i64 k, .string s, .bool false, .slice a d.length cp, .int .i64 (a_ : Int), .int .i64 (e_ : Int), .int .i64 l_, .int .i64 c_] 41 hx1 5 _ rfl; have k6 := one_blk w #[.int .i64 k, .string s, .bool false, .slice a d.length cp, .int .i64 (a_ : Int), .int .i64 (e_ : Int), .int .i64 l_, .int .i64 c_] 41 hx1 6 _ rfl; have k7 := one_blk w #[.int .i64 k, .string s, .bool false, .slice a d.length cp, .int .i64 (a_ : Int), .int .i64 (e_ : Int), .int .i64 l_, .int .i64 c_] 41 hx1 7 _ rfl; have HB1 := Lib.hid (HB00.out.trans (hbb.mono HB00.out.size)); clear hbb hx1)) | (go_at_call 62; ((with_reducible refine (C62.out _ HB1.out).mono ?_); rintro e w2 ⟨rfl, hbb⟩; have HB2 := Lib.hid (HB1.out.trans (hbb.mono HB1.out.size)); clear hbb)))
  go_ret2
  exact ⟨rfl, HB2.out⟩
end Go.Proofs.YtagcfgoofiibfaaGreatDoor
namespace Go.Proofs.YtagcfgoofiibfaaGreatDoor
open Go Go.RowKit

/-- a sign that a string may hold -/
theorem c144 (x : Nat) (w : World) (hx : (32 ≤ x ∧ x ≤ 126) ∨ x = 9 ∨ x = 10 ∨ x = 12 ∨ x = 13) : Calls Tryz.prog 144 #[.int .i32 (x : Int)] w fun e w' => e = .returned (.bool false) ∧ w' = w := by
  by_cases h : 32 ≤ x ∧ x ≤ 126
  · have g0 : ¬ (x : Int) < 32 := by omega
    have g1 : ¬ (126 : Int) < (x : Int) := by omega
    go_enter Tryz.func144, Tryz.ntmps144
    go_wp2
    go_ret
    exact ⟨rfl, rfl⟩
  · have hx2 : x = 9 ∨ x = 10 ∨ x = 12 ∨ x = 13 := by omega
    clear h hx
    have KC : ∀ X, Calls Tryz.prog 145 #[.string ⟨#[9, 10, 12, 13]⟩, .int .i32 (x : Int)] X fun e w' => e = .returned (.bool true) ∧ w' = X := fun X => by
      refine (Tryz.strings_ContainsRune_ascii ⟨#[9, 10, 12, 13]⟩ (x : Int) X (by omega) (by omega)).mono ?_
      rintro e w' ⟨rfl, rfl⟩
      refine ⟨?_, rfl⟩
      rcases hx2 with rfl | rfl | rfl | rfl <;> exact congrArg (fun b => Ending.returned (Value.bool b)) (by decide +kernel)
    have KC := Lib.hid KC
    have g0 : (x : Int) < 32 := by omega
    clear hx2
    go_enter Tryz.func144, Tryz.ntmps144
    go_wp2_with (go_at_call 145; ((with_reducible refine (KC.out _).mono ?_); rintro e w1 ⟨rfl, rfl⟩))
    go_ret
    exact ⟨rfl, rfl⟩

theorem okB_nat {b : UInt8} (h : okB b = true) : (32 ≤ b.toNat ∧ b.toNat ≤ 126) ∨ b.toNat = 9 ∨ b.toNat = 10 ∨ b.toNat = 12 ∨ b.toNat = 13 := by
  unfold okB at h; simp at h; omega

set_option maxHeartbeats 1600000 in
set_option maxRecDepth 100000 in
/-- no sign that a string may not hold -/
theorem c213 (s : ByteArray) (w : World) (hs : ∀ b ∈ s.data.toList, okB b = true) : Calls Tryz.prog 213 #[.string s, .func (.func 144) #[] #[], .bool true] w fun e w' => e = .returned (.int .i64 (-1)) ∧ Below w.heap.size w w' := by
  have HS := Lib.hid hs
  clear hs
  go_enter Tryz.func213, Tryz.ntmps213
  go_wp2
  go_loopg [] s.size (fun gf wx => ∃ pos : Nat, wx.heap[w.heap.size]? = some (.stringIter s pos) ∧ Below w.heap.size w wx ∧ s.size ≤ pos + gf)
  case atStart => exact ⟨0, World.iter_heap w s 0, (Below.refl _ w).alloc (Nat.le_refl _) _, by omega⟩
  case round =>
    obtain ⟨pos, hit, hbw, hfu⟩ := hrel
    by_cases hps : pos < s.size
    · obtain ⟨g', rfl⟩ : ∃ g', gk = g' + 1 := ⟨gk - 1, by omega⟩
      have hnx : ∀ ty, (Instr.next (.pointer (some ⟨w.heap.size, 0, none⟩)) true ty).run Tryz.prog wr = _ := fun ty => Lib.run_next_any_at wr w.heap.size s pos ty hit hps
      have hok := okB_nat (HS.out (s[pos]'hps) (Array.mem_toList_iff.2 (Array.getElem_mem (xs := s.data) hps)))
      have hd := decode_ascii s pos hps (by omega)
      obtain ⟨R, hR⟩ : ∃ R, (s[pos]'hps).toNat = R := ⟨_, rfl⟩
      rw [hR] at hd hok
      rw [hd] at hnx
      simp only [] at hnx
      have hit2 := Lib.iterAt_heap wr w.heap.size s pos (pos + 1) hit
      have hbw2 := Lib.below_iterAt hbw (k := w.heap.size) (Nat.le_refl _) s (pos + 1)
      obtain ⟨W, hWd⟩ : ∃ W, wr.iterAt w.heap.size s (pos + 1) = W := ⟨_, rfl⟩
      rw [hWd] at hnx hit2 hbw2
      have KC := Lib.hid (fun X => c144 R X hok)
      clear hok hd hR
      go_wp2_with (go_at_call 144; ((with_reducible refine (KC.out _).mono ?_); rintro e w1 ⟨rfl, rfl⟩))
      go_roundg g'
      case measure => omega
      case rel => exact ⟨pos + 1, hit2, hbw2, by omega⟩
    · have hnx : ∀ ty, (Instr.next (.pointer (some ⟨w.heap.size, 0, none⟩)) true ty).run Tryz.prog wr = _ := fun ty => Lib.run_next_end_at wr w.heap.size s pos ty hit hps
      go_wp2
      go_ret
      exact ⟨rfl, hbw⟩

theorem c143ok (s : ByteArray) (w : World) (hs : ∀ b ∈ s.data.toList, okB b = true) : Calls Tryz.prog 143 #[.string s, .func (.func 144) #[] #[]] w fun e w' => e = .returned (.bool false) ∧ Below w.heap.size w w' := by
  have K188 : Hid (∀ X, Calls Tryz.prog 188 #[.string s, .func (.func 144) #[] #[]] X fun e w' => e = .returned (.int .i64 (-1)) ∧ Below X.heap.size X w') := Lib.hid (fun X => by
    have K213 := Lib.hid (fun X => c213 s X hs)
    clear hs
    go_enter Tryz.func188, Tryz.ntmps188
    go_wp2_with (go_at_call 213; ((with_reducible refine (K213.out _).mono ?_); rintro e w1 ⟨rfl, hbb⟩))
    go_ret
    exact ⟨rfl, hbb⟩)
  clear hs
  go_enter Tryz.func143, Tryz.ntmps143
  go_wp2_with (go_at_call 188; ((with_reducible refine (K188.out _).mono ?_); rintro e w1 ⟨rfl, hbb⟩))
  go_ret
  exact ⟨rfl, hbb⟩
end Go.Proofs.YtagcfgoofiibfaaGreatDoor
namespace Go.Proofs.YtagcfgoofiibfaaGreatDoor
open Go Go.RowKit

theorem word_size {s : ByteArray} (h : isWord s = true) : s.size ≤ maxLen := by
  unfold isWord at h
  have h1 : s.data.toList ∈ wordsL := by simpa using h
  have h2 : ∀ l ∈ wordsL, l.length ≤ 1000 := by decide +kernel
  have h3 := h2 _ h1
  have e : s.data.toList.length = s.size := Array.length_toList
  unfold maxLen; omega

set_option maxRecDepth 100000 in
set_option maxHeartbeats 3200000 in
/-- valid: a string -/
theorem c97str (p : Nat) (ts : ByteArray) (tat ten : Nat) (tl tc : Int) (a : Option Addr) (cp : Nat) (w : World) (hs : ts.size ≤ 200) (hb : ∀ b ∈ ts.data.toList, okB b = true) :
    Calls Tryz.prog 97 #[.pointer (some ⟨p, 0, none⟩), .agg #[.int .i64 3, .string ts, .bool false, .slice a 0 cp, .int .i64 (tat : Int), .int .i64 (ten : Int), .int .i64 tl, .int .i64 tc]] w fun e w' => e = .returned (.bool true) ∧ Below w.heap.size w w' := by
  have hs' : (ts.size : Int) ≤ 200 := by omega
  have KC := Lib.hid (fun X => c143ok ts X hb)
  have HB0 : Hid (Below w.heap.size w (w.alloc (.cells #[.int .i64 3, .string ts, .bool false, .slice a 0 cp, .int .i64 (tat : Int), .int .i64 (ten : Int), .int .i64 tl, .int .i64 tc] 41 (0, 0)))) := Lib.hid ((Below.refl _ _).alloc (Nat.le_refl _) _)
  clear hb
  go_enter Tryz.func97, Tryz.ntmps97
  go_wp2_with (first | (go_at_call 142; ((with_reducible refine (c142_0 _ _ _).mono ?_); rintro e w1 ⟨rfl, hbb⟩; have k1 := one_blk w _ 41 hbb 1 _ rfl; have HB1 : Hid (Below w.heap.size w w1) := Lib.hid (HB0.out.trans (hbb.mono HB0.out.size)); clear hbb)) | (go_at_call 143; ((with_reducible refine (KC.out _).mono ?_); rintro e w2 ⟨rfl, hbb⟩; have HB2 := Lib.hid hbb; clear hbb)))
  go_ret
  exact ⟨rfl, HB1.out.trans (HB2.out.mono HB1.out.size)⟩

set_option maxRecDepth 100000 in
set_option maxHeartbeats 3200000 in
/-- valid: a word -/
theorem c97key (p : Nat) (ts : ByteArray) (tat ten : Nat) (tl tc : Int) (a : Option Addr) (cp : Nat) (w : World) (hp : TabAt w.heap.size p w) (hk : isWord ts = true) :
    Calls Tryz.prog 97 #[.pointer (some ⟨p, 0, none⟩), .agg #[.int .i64 4, .string ts, .bool false, .slice a 0 cp, .int .i64 (tat : Int), .int .i64 (ten : Int), .int .i64 tl, .int .i64 tc]] w fun e w' => e = .returned (.bool true) ∧ Below w.heap.size w w' := by
  obtain ⟨cb, wb, hok⟩ := hp.ok
  have hsz := word_size hk
  have KS : Hid (∀ X, Below (w.heap.size + 1) (w.alloc (.cells #[.int .i64 4, .string ts, .bool false, .slice a 0 cp, .int .i64 (tat : Int), .int .i64 (ten : Int), .int .i64 tl, .int .i64 tc] 41 (0, 0))) X →
      X.cell? ⟨w.heap.size, 1, none⟩ = some (.string ts) ∧ X.cell? ⟨w.heap.size, 2, none⟩ = some (.bool false) ∧ X.cell? ⟨w.heap.size, 3, none⟩ = some (.slice a 0 cp) ∧ X.cell? ⟨p, 1, none⟩ = some (.map (some wb)) ∧ (Instr.lookup 104 (.map (some wb)) (.string ts) false).run Tryz.prog X = .ok (.bool true) X) := Lib.hid (fun X hX => by
    have b1 : X.heap[w.heap.size]? = some (.cells #[.int .i64 4, .string ts, .bool false, .slice a 0 cp, .int .i64 (tat : Int), .int .i64 (ten : Int), .int .i64 tl, .int .i64 tc] 41 (0, 0)) := (hX.block _ (by omega)).trans (blk_new _ _ rfl _)
    have hBX : Below w.heap.size w X := ((Below.refl _ _).alloc (Nat.le_refl _) _).trans (hX.mono (by omega))
    have ok := hok X hBX
    have l1 := ok.l1 ts hsz
    rw [hk] at l1
    exact ⟨by rw [cell_of_row _ _ _ _ _ _ b1]; rfl, by rw [cell_of_row _ _ _ _ _ _ b1]; rfl, by rw [cell_of_row _ _ _ _ _ _ b1]; rfl, ok.k1, l1⟩)
  have HB0 : Hid (Below (w.heap.size + 1) (w.alloc (.cells #[.int .i64 4, .string ts, .bool false, .slice a 0 cp, .int .i64 (tat : Int), .int .i64 (ten : Int), .int .i64 tl, .int .i64 tc] 41 (0, 0))) (w.alloc (.cells #[.int .i64 4, .string ts, .bool false, .slice a 0 cp, .int .i64 (tat : Int), .int .i64 (ten : Int), .int .i64 tl, .int .i64 tc] 41 (0, 0)))) := Lib.hid (Below.refl _ _)
  have HW0 : Hid (Below w.heap.size w (w.alloc (.cells #[.int .i64 4, .string ts, .bool false, .slice a 0 cp, .int .i64 (tat : Int), .int .i64 (ten : Int), .int .i64 tl, .int .i64 tc] 41 (0, 0)))) := Lib.hid ((Below.refl _ _).alloc (Nat.le_refl _) _)
  clear hok hk hp hsz
  go_enter Tryz.func97, Tryz.ntmps97
  go_wp2
  go_region_held3 (fun w' : World => w'.cell? ⟨w.heap.size, 1, none⟩ = some (.string ts) ∧ w'.cell? ⟨w.heap.size, 2, none⟩ = some (.bool false) ∧ w'.cell? ⟨w.heap.size, 3, none⟩ = some (.slice a 0 cp) ∧ w'.cell? ⟨p, 1, none⟩ = some (.map (some wb)) ∧ (Instr.lookup 104 (.map (some wb)) (.string ts) false).run Tryz.prog w' = .ok (.bool true) w') (first | exact KS.out _ HB0.out | exact KS.out _ HB0.out.drew)
    ((go_at_call 142; ((with_reducible refine (c142_0 _ _ _).mono ?_); rintro e w' ⟨rfl, hbb⟩; replace HB0 : Hid (Below (w.heap.size + 1) (w.alloc (.cells #[.int .i64 4, .string ts, .bool false, .slice a 0 cp, .int .i64 (tat : Int), .int .i64 (ten : Int), .int .i64 tl, .int .i64 tc] 41 (0, 0))) w') := Lib.hid (by first | exact HB0.out.trans (hbb.mono (by have := HB0.out.size; simp at this ⊢ <;> omega)) | exact HB0.out.drew.trans (hbb.mono (by have := HB0.out.size; simp at this ⊢ <;> omega))); clear hbb)))
  all_goals
    go_wp2
    go_ret
    exact ⟨rfl, HW0.out.trans (HB0.out.mono (by omega))⟩

/-- valid says yes of all valid tokens -/
theorem says97 : Says97 ValidT := fun t dv p X hv hi hT hP hp => by
  obtain ⟨k, s, d, a_, e_, l_, c_⟩ := t
  cases hv with
  | num h1 h2 h3 h4 h5 => exact says97_num _ dv p X ⟨h1, h2, h3, h4, h5⟩ hi hT hP hp
  | name h1 h2 h3 h4 =>
    simp only [] at h1 h2 h3 h4 hi
    obtain ⟨a, cp, rfl⟩ := row_form hi
    subst h2
    exact c97 H24 ⟨k, s, [], a_, e_, l_, c_⟩ a cp p X hT hp ⟨rfl, .inl ⟨h1, h3, h4⟩⟩
  | str h1 h2 h3 h4 =>
    simp only [] at h1 h2 h3 h4 hi
    obtain ⟨a, cp, rfl⟩ := row_form hi
    subst h1 h2
    exact c97str p s a_ e_ l_ c_ a cp X h3 h4
  | key h1 h2 h3 =>
    simp only [] at h1 h2 h3 hi
    obtain ⟨a, cp, rfl⟩ := row_form hi
    subst h1 h2
    exact c97key p s a_ e_ l_ c_ a cp X hp h3
  | sign h1 h2 h3 h4 =>
    simp only [] at h1 h2 h3 h4 hi
    obtain ⟨a, cp, rfl⟩ := row_form hi
    subst h2
    exact c97 H24 ⟨k, s, [], a_, e_, l_, c_⟩ a cp p X hT hp ⟨rfl, .inr ⟨h1, h3, h4, (by have := canon_size h4; show s.size ≤ 1000000; omega)⟩⟩
  | line h1 h2 h3 =>
    simp only [] at h1 h2 h3 hi
    obtain ⟨a, cp, rfl⟩ := row_form hi
    subst h2
    exact c97line p k s a_ e_ l_ c_ a cp X h1 h3
end Go.Proofs.YtagcfgoofiibfaaGreatDoor
set_option linter.unusedVariables false
namespace Go.Proofs.YtagcfgoofiibfaaGreatDoor
open Go Go.RowKit

set_option maxRecDepth 100000 in
theorem c99 (b : UInt8) (w : World) (hb : okB b = true) : Calls Tryz.prog 99 #[.int .u8 (b.toNat : Int)] w fun e w' => e = .returned (.string ⟨(escB b).toArray⟩) ∧ w' = w := by
  have hbk := okB_nat hb
  by_cases h0 : b = 34
  · subst h0
    go_enter Tryz.func99, Tryz.ntmps99
    go_wp2
    go_ret
    exact ⟨by rfl, rfl⟩
  by_cases h1 : b = 92
  · subst h1
    go_enter Tryz.func99, Tryz.ntmps99
    go_wp2
    go_ret
    exact ⟨by rfl, rfl⟩
  by_cases h2 : b = 9
  · subst h2
    go_enter Tryz.func99, Tryz.ntmps99
    go_wp2
    go_ret
    exact ⟨by rfl, rfl⟩
  by_cases h3 : b = 10
  · subst h3
    go_enter Tryz.func99, Tryz.ntmps99
    go_wp2
    go_ret
    exact ⟨by rfl, rfl⟩
  by_cases h4 : b = 12
  · subst h4
    go_enter Tryz.func99, Tryz.ntmps99
    go_wp2
    go_ret
    exact ⟨by rfl, rfl⟩
  by_cases h5 : b = 13
  · subst h5
    go_enter Tryz.func99, Tryz.ntmps99
    go_wp2
    go_ret
    exact ⟨by rfl, rfl⟩
  have e0 : escB b = [b] := by unfold escB; simp [h0, h1, h2, h3, h4, h5]
  obtain ⟨x, hx⟩ : ∃ x : Int, (b.toNat : Int) = x := ⟨_, rfl⟩
  have ne : ∀ k : Nat, k < 256 → b ≠ UInt8.ofNat k → ¬ (x = (k : Int)) := fun k hk hn e => hn (by
    have : b.toNat = k := by omega
    rw [← this]; simp)
  have g0 : ¬ (x = 34) := ne 34 (by omega) h0
  have g1 : ¬ (x = 92) := ne 92 (by omega) h1
  have g2 : ¬ (x = 9) := ne 9 (by omega) h2
  have g3 : ¬ (x = 10) := ne 10 (by omega) h3
  have g4 : ¬ (x = 12) := ne 12 (by omega) h4
  have g5 : ¬ (x = 13) := ne 13 (by omega) h5
  have he : Utf8.encode x = ⟨#[b]⟩ := by
    have hv : Utf8.valid x = true := by unfold Utf8.valid; simp; omega
    unfold Utf8.encode
    simp only [hv, if_true]
    have e1 : x.toNat = b.toNat := by omega
    rw [e1, if_pos (by omega)]
    simp
  rw [hx, e0]
  have hlt : 0 ≤ x ∧ x < 256 := by have := b.toNat_lt; omega
  have hw : IntKind.i32.wrap x = x := by unfold IntKind.wrap; simp [IntKind.bits, IntKind.signed]; omega
  clear hlt hx
  clear hb hbk h0 h1 h2 h3 h4 h5 e0 ne
  go_enter Tryz.func99, Tryz.ntmps99
  go_wp2
  go_ret
  exact ⟨by rfl, rfl⟩

/-- the text of a string's first signs -/
def strT (s : ByteArray) (k : Nat) : List UInt8 := 34 :: (s.data.toList.take k).flatMap escB
theorem strT_succ (s : ByteArray) (k : Nat) (h : k < s.size) : strT s (k + 1) = strT s k ++ escB s[k] := by
  unfold strT
  have e : s.data.toList.take (k + 1) = s.data.toList.take k ++ [s[k]] := by
    have hl : k < s.data.toList.length := by rw [Array.length_toList]; exact h
    rw [List.take_succ_eq_append_getElem hl]; rfl
  rw [e, List.flatMap_append]; simp
theorem escB_len (b : UInt8) : (escB b).length ≤ 2 := by unfold escB; repeat' split
                                                         all_goals simp
theorem flat_len (l : List UInt8) : (l.flatMap escB).length ≤ 2 * l.length := by
  induction l with
  | nil => simp
  | cons a l ih => rw [List.flatMap_cons, List.length_append, List.length_cons]; have := escB_len a; omega
theorem strT_len (s : ByteArray) (k : Nat) (h : k ≤ s.size) : (strT s k).length ≤ 2 * s.size + 1 := by
  unfold strT
  have := flat_len (s.data.toList.take k)
  have h2 : (s.data.toList.take k).length ≤ s.size := by rw [List.length_take, Array.length_toList]; exact Nat.min_le_right _ _
  rw [List.length_cons]; omega
theorem strT_all (s : ByteArray) : strT s s.size = 34 :: s.data.toList.flatMap escB := by
  unfold strT; rw [List.take_of_length_le (by rw [Array.length_toList]; exact Nat.le_refl _)]
theorem c65q {w0 : World} {b : Nat} {t : List UInt8} (w : World) (h : JW w0 b t [] (.slice none 0 0) w) (hl : t.length + 1 ≤ 140737488355328) : Calls Tryz.prog 65 #[.pointer (some ⟨b, 0, none⟩), .int .u8 34] w (WrB w0 b (t ++ [34]) [] (.slice none 0 0)) := by
  refine (c65 b b (Lib.byteCells t) 34 w h.bld (by rw [Lib.byteCells_length]; exact hl) (Nat.le_of_lt h.lt)).mono ?_
  rintro e w' ⟨rfl, h1, h2, h3⟩
  have e1 : Lib.byteCells t ++ [.int .u8 34] = Lib.byteCells (t ++ [34]) := by rw [byteCells_app]; rfl
  rw [e1] at h1
  exact ⟨rfl, h.others (.inr h1) h2 h3⟩
theorem jw_new (w : World) : JW w w.heap.size [] [] (.slice none 0 0) (w.alloc (.cells #[.pointer none, .slice none 0 0] 83 (0, 0))) :=
  ⟨.inl ⟨Nat.le_refl _, _, blk_new _ _ rfl _, ⟨rfl, .inl ⟨rfl, rfl⟩⟩, by intro h; cases h⟩, World.ownsRow_nil _ _ _ _, (Below.refl _ _).alloc (Nat.le_refl _) _⟩

set_option maxRecDepth 100000 in
set_option maxHeartbeats 3200000 in
/-- spell: a string -/
theorem c62str (ts : ByteArray) (tat ten : Nat) (tl tc : Int) (dv : Value) (w : World) (hs : ts.size ≤ 200) (hb : ∀ b ∈ ts.data.toList, okB b = true) :
    Calls Tryz.prog 62 #[.agg #[.int .i64 3, .string ts, .bool false, dv, .int .i64 (tat : Int), .int .i64 (ten : Int), .int .i64 tl, .int .i64 tc]] w fun e w' => e = .returned (.string ⟨(34 :: (ts.data.toList.flatMap escB ++ [34])).toArray⟩) ∧ Below w.heap.size w w' := by
  obtain ⟨S, hS⟩ : ∃ S : ByteArray, (⟨(34 :: (ts.data.toList.flatMap escB ++ [34])).toArray⟩ : ByteArray) = S := ⟨_, rfl⟩
  rw [hS]
  have HSS := Lib.hid hS
  have HB := Lib.hid hb
  have HSZ := Lib.hid hs
  have hJ : JW (w.alloc (.cells #[.int .i64 3, .string ts, .bool false, dv, .int .i64 (tat : Int), .int .i64 (ten : Int), .int .i64 tl, .int .i64 tc] 41 (0, 0))) (w.heap.size + 1) [] [] (.slice none 0 0) ((w.alloc (.cells #[.int .i64 3, .string ts, .bool false, dv, .int .i64 (tat : Int), .int .i64 (ten : Int), .int .i64 tl, .int .i64 tc] 41 (0, 0))).alloc (.cells #[.pointer none, .slice none 0 0] 83 (0, 0))) := by
    have h := jw_new (w.alloc (.cells #[.int .i64 3, .string ts, .bool false, dv, .int .i64 (tat : Int), .int .i64 (ten : Int), .int .i64 tl, .int .i64 tc] 41 (0, 0)))
    rw [World.size_alloc] at h
    exact h
  have HJ := Lib.hid hJ
  have KC : Hid (∀ (t : List UInt8) (X : World), JW (w.alloc (.cells #[.int .i64 3, .string ts, .bool false, dv, .int .i64 (tat : Int), .int .i64 (ten : Int), .int .i64 tl, .int .i64 tc] 41 (0, 0))) (w.heap.size + 1) t [] (.slice none 0 0) X → X.cell? ⟨w.heap.size, 1, none⟩ = some (.string ts)) := Lib.hid (fun t X h => one_blk w _ 41 (by rw [World.size_alloc]; exact h.bel) 1 _ rfl)
  have K99 : Hid (∀ (k : Nat) (h : k < ts.size) (X : World), Calls Tryz.prog 99 #[.int .u8 ((ts[k]'h).toNat : Int)] X fun e w' => e = .returned (.string ⟨(escB (ts[k]'h)).toArray⟩) ∧ w' = X) := Lib.hid (fun k h X => c99 (ts[k]'h) X (hb _ (Array.mem_toList_iff.2 (Array.getElem_mem (xs := ts.data) h))))
  obtain ⟨X0, hX0⟩ : ∃ X, w.alloc (.cells #[.int .i64 3, .string ts, .bool false, dv, .int .i64 (tat : Int), .int .i64 (ten : Int), .int .i64 tl, .int .i64 tc] 41 (0, 0)) = X := ⟨_, rfl⟩
  have HBX : Hid (Below w.heap.size w X0) := Lib.hid (by rw [← hX0]; exact (Below.refl _ _).alloc (Nat.le_refl _) _)
  have HX0 := Lib.hid hX0
  rw [hX0] at HJ KC
  clear hS hb hs hX0 hJ
  have H01 : Hid (([] : List UInt8).length + 1 ≤ 140737488355328) := Lib.hid (by simp)
  go_enter Tryz.func62, Tryz.ntmps62
  go_upto_region 7 with fail
  rw [HX0.out]
  have h1 := KC.out _ _ HJ.out
  go_wp2_with (go_at_call 65; ((with_reducible refine (c65q _ HJ.out H01.out).mono ?_); rintro e w1 ⟨rfl, hj⟩; have HJ1 := Lib.hid hj; have h2 := KC.out _ _ hj; clear hj))
  go_loopw [24] (fun s24 wr => ∃ k : Nat, k ≤ ts.size ∧ s24 = .int .i64 (k : Int) ∧ JW X0 (w.heap.size + 1) (strT ts k) [] (.slice none 0 0) wr) (fun s24 _ => ts.size - (intOf s24).toNat)
  case atStart => exact ⟨0, Nat.zero_le _, rfl, HJ1.out⟩
  case round =>
    obtain ⟨k, hk, rfl, hj⟩ := hrel
    have h3 := KC.out _ _ hj
    have HJ2 := Lib.hid hj
    clear hj h1 h2
    have hz := HSZ.out
    by_cases hlt : k < ts.size
    · have hl1 := strT_len ts k hk
      have hl2 := escB_len (ts[k]'hlt)
      have b0 : (0 : Int) ≤ (k : Int) := by omega
      have b1 : (k : Int) < (ts.size : Int) := by omega
      obtain ⟨E, hE⟩ : ∃ E : ByteArray, (⟨(escB (ts[k]'hlt)).toArray⟩ : ByteArray) = E := ⟨_, rfl⟩
      have hEs : E.size = (escB (ts[k]'hlt)).length := by rw [← hE]; rfl
      have HEl : Hid (strT ts (k + 1) = strT ts k ++ E.data.toList) := Lib.hid (by rw [strT_succ ts k hlt, ← hE])
      have K99k : Hid (∀ X : World, Calls Tryz.prog 99 #[.int .u8 ((ts[k]'hlt).toNat : Int)] X fun e w' => e = .returned (.string E) ∧ w' = X) := Lib.hid (fun X => by
        have h := K99.out k hlt X
        rw [hE] at h; exact h)
      have HL : Hid ((strT ts k).length + E.size ≤ 140737488355328) := Lib.hid (by omega)
      have hwk : wrap64 ((k : Int) + 1) = (k : Int) + 1 := by unfold wrap64; omega
      clear hl1 hl2 hE hEs
      have HZ := Lib.hid hz
      clear hz
      go_wp2_with (first | (go_at_call 99; ((with_reducible refine (K99k.out _).mono ?_); rintro e w2 ⟨rfl, rfl⟩)) | (go_at_call 67; ((with_reducible refine (c67J _ _ HJ2.out HL.out).mono ?_); rintro e w3 ⟨rfl, hj⟩; have HJ3 := Lib.hid hj; have h4 := KC.out _ _ hj; clear hj)))
      go_roundw
      case rel => exact ⟨k + 1, by omega, by go_num, by rw [HEl.out]; exact HJ3.out⟩
      case measure =>
        rw [hwk]
        show ts.size - ((k : Int) + 1).toNat < ts.size - (k : Int).toNat
        have e1 : ((k : Int) + 1).toNat = k + 1 := by omega
        have e2 : (k : Int).toNat = k := by omega
        rw [e1, e2]; exact Nat.sub_lt_sub_left hlt (Nat.lt_succ_self k)
    · have hke : k = ts.size := by omega
      have HKE := Lib.hid hke
      have b1 : ¬ ((k : Int) < (ts.size : Int)) := by omega
      have hl1 := strT_len ts k hk
      have HL : Hid ((strT ts k).length + 1 ≤ 140737488355328) := Lib.hid (by omega)
      have HS2 : Hid (S = ⟨(strT ts k ++ [34]).toArray⟩) := Lib.hid (by rw [← HSS.out, hke, strT_all]; rfl)
      clear hl1 hke hz
      go_wp2_with (first | (go_at_call 65; ((with_reducible refine (c65q _ HJ2.out HL.out).mono ?_); rintro e w2 ⟨rfl, hj⟩; have HJ3 := Lib.hid hj; have h4 := KC.out _ _ hj; clear hj)) | (go_at_call 64; ((with_reducible refine (c64 _ HJ3.out S HS2.out).mono ?_); rintro e w3 ⟨rfl, _, hbb, _⟩; have HB3 := Lib.hid hbb; clear hbb)))
      go_ret
      exact ⟨rfl, HBX.out.trans ((HJ3.out.bel.trans HB3.out).mono (by omega))⟩

set_option maxRecDepth 100000 in
theorem c62plain (k : Int) (ts : ByteArray) (tat ten : Nat) (tl tc : Int) (dv : Value) (w : World) (hk : k = 1 ∨ k = 4 ∨ k = 5) : Calls Tryz.prog 62 #[.agg #[.int .i64 k, .string ts, .bool false, dv, .int .i64 (tat : Int), .int .i64 (ten : Int), .int .i64 tl, .int .i64 tc]] w fun e w' => e = .returned (.string ts) ∧ Below w.heap.size w w' := by
  rcases hk with rfl | rfl | rfl
  all_goals
    go_enter Tryz.func62, Tryz.ntmps62
    go_wp2
    go_ret
    exact ⟨rfl, (Below.refl _ _).alloc (Nat.le_refl _) _⟩
set_option maxRecDepth 100000 in
theorem c62line6 (ts : ByteArray) (tat ten : Nat) (tl tc : Int) (dv : Value) (w : World) : Calls Tryz.prog 62 #[.agg #[.int .i64 6, .string ts, .bool false, dv, .int .i64 (tat : Int), .int .i64 (ten : Int), .int .i64 tl, .int .i64 tc]] w fun e w' => e = .returned (.string ⟨#[45, 45, 45, 45]⟩) ∧ Below w.heap.size w w' := by
  go_enter Tryz.func62, Tryz.ntmps62
  go_wp2
  go_ret
  exact ⟨rfl, (Below.refl _ _).alloc (Nat.le_refl _) _⟩
set_option maxRecDepth 100000 in
theorem c62line7 (ts : ByteArray) (tat ten : Nat) (tl tc : Int) (dv : Value) (w : World) : Calls Tryz.prog 62 #[.agg #[.int .i64 7, .string ts, .bool false, dv, .int .i64 (tat : Int), .int .i64 (ten : Int), .int .i64 tl, .int .i64 tc]] w fun e w' => e = .returned (.string ⟨#[61, 61, 61, 61]⟩) ∧ Below w.heap.size w w' := by
  go_enter Tryz.func62, Tryz.ntmps62
  go_wp2
  go_ret
  exact ⟨rfl, (Below.refl _ _).alloc (Nat.le_refl _) _⟩

/-- spell writes all valid tokens -/
theorem says62 : Says62 ValidT := fun t dv X hv hi hP => by
  obtain ⟨k, s, d, a_, e_, l_, c_⟩ := t
  cases hv with
  | num h1 h2 h3 h4 h5 => exact says62_num _ dv X ⟨h1, h2, h3, h4, h5⟩ hi hP
  | name h1 h2 h3 h4 =>
    simp only [] at h1 h2 h3 h4 hi
    subst h1 h2
    exact c62plain 1 s a_ e_ l_ c_ dv X (.inl rfl)
  | str h1 h2 h3 h4 =>
    simp only [] at h1 h2 h3 h4 hi
    subst h1 h2
    exact c62str s a_ e_ l_ c_ dv X h3 h4
  | key h1 h2 h3 =>
    simp only [] at h1 h2 h3 hi
    subst h1 h2
    exact c62plain 4 s a_ e_ l_ c_ dv X (.inr (.inl rfl))
  | sign h1 h2 h3 h4 =>
    simp only [] at h1 h2 h3 h4 hi
    subst h1 h2
    exact c62plain 5 s a_ e_ l_ c_ dv X (.inr (.inr rfl))
  | line h1 h2 h3 =>
    simp only [] at h1 h2 h3 hi
    subst h2
    rcases h1 with rfl | rfl
    · exact c62line6 s a_ e_ l_ c_ dv X
    · exact c62line7 s a_ e_ l_ c_ dv X
end Go.Proofs.YtagcfgoofiibfaaGreatDoor
