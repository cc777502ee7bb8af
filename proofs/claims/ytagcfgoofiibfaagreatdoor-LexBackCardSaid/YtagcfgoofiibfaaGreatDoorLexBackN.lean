/- The law LexBackN: its walk and its statement: R2, ND0, LS0, ND1, ND2, NG0, NG1, NG2. -/
import Derived.Test.YtagcfgoofiibfaaGreatDoorG30
import Derived.Test.YtagcfgoofiibfaaGreatDoorLexBackP
import Derived.Test.YtagcfgoofiibfaaGreatDoorG37
import Derived.Test.YtagcfgoofiibfaaGreatDoorG31
import Derived.Test.YtagcfgoofiibfaaGreatDoorG38
import Derived.Lib.AppendIntMem
import Derived.Test.YtagcfgoofiibfaaGreatDoorG32
import Derived.Test.YtagcfgoofiibfaaGreatDoorG40
import Derived.Laws.RangeString
import Derived.Lib.OthersKept
import Derived.Deep.LoopGhost
set_option linter.unusedVariables false
set_option linter.unusedSimpArgs false
namespace Go.Proofs.YtagcfgoofiibfaaGreatDoor
open Go Go.RowKit
def SeqO {α : Type} (P : Program) (n : Nat) (g : Nat) (lb : Array Value) (encs : α → Array Value) (Y : Nat → Prop) (S Sp : List α → Prop) (G : List α → α → Prop) (N : Nat) (w : World) : Prop :=
  ∀ (l : Nat) (J Jx : List α → World → Prop) (W : World), Below w.heap.size w W → w.heap.size ≤ l → l < W.heap.size → Abide (fun _ => False) J → Abide (fun _ => False) Jx →
    (∀ pre x W1, J pre W1 → pre.length < N → G pre x → YieldAt Fence.wide (n - 1) P l (encs x) W1 fun e W' =>
      (e = .returned (.bool true) ∧ J (pre ++ [x]) W' ∧ Keep (fun k => k = l ∨ Y k) W1 W') ∨ (e = .returned (.bool false) ∧ Jx (pre ++ [x]) W')) →
    J [] W →
    CallsIn Fence.wide n P g (#[.func (.yield l) #[] #[]] ++ lb) W fun e W' => (∃ v, e = .returned v) ∧ ((∃ xs, S xs ∧ J xs W') ∨ (∃ pre, Sp pre ∧ Jx pre W'))
theorem rf_law3 {α : Type} {P : Program} {n : Nat} {g : Operand} {ps : Array Tmp} {assign body : Code} {Q : Exit → Act → World → Prop} {a : Act} {w : World} (h1 : 1 ≤ n) {gf : Nat} {lb : Array Value}
    (hg : a.eval g = .func (.func gf) #[] lb) (eg : ∀ args w, (callFunc gf args).run P w = .ok (.enter gf args) w) {encs : α → Array Value} {Y : Nat → Prop} {S Sp : List α → Prop} {G : List α → α → Prop} {N : Nat}
    (hseq : SeqO P (n - 1) gf lb encs Y S Sp G N w) (hps : ∀ x, (encs x).size = ps.size) (hY : ∀ r, Y r → r ≠ w.heap.size ∧ r ≠ w.heap.size + 1)
    (I : List α → World → Prop) (Ix : Code → List α → World → Prop) (hI : Abide (fun r => r = w.heap.size + 1) I) (hIx : ∀ c, Abide (fun r => r = w.heap.size + 1) (Ix c)) (h0 : I [] w)
    (A : Nat → List α → α → Act → World → Prop) (hA : ∀ l pre x a' W (r : Loop) o', w.heap.size ≤ l → W.heap[l]? = some (.loop r) → A l pre x a' W → A l pre x a' (W.putObj l o'))
    (hassign : ∀ l pre x W (r : Loop), l = w.heap.size + 1 → W.heap[l]? = some (.loop r) → I pre W → pre.length < N → G pre x →
      assign.wpIn (Fence.wide.inRound l) (n - 1 - 1) P (Exit.then (fun a' W' => Keep Y W W' ∧ A l pre x a' W') (fun _ _ _ => False)) { tmps := (ps.zip (encs x)).foldl (fun t (p, v) => t.setIfInBounds p v) a.tmps, defers := [] } W)
    (hbody : ∀ l pre x a' W (r : Loop), l = w.heap.size + 1 → W.heap[l]? = some (.loop r) → W.heap[w.heap.size]? = some (.deferred (some [])) → A l pre x a' W → pre.length < N → G pre x → body.wpIn (Fence.wide.inRound l) (n - 1 - 1) P (postV Y I Ix (pre ++ [x]) W) a' W)
    (hdone : ∀ (D : Nat) (xs : List α) (W : World), w.heap.size ≤ D → S xs → I xs W → W.heap[D]? = some (.deferred (some [])) → Q .normal { a with defers := { target := .collected D, args := #[] } :: a.defers } W)
    (hstop : ∀ (D : Nat) (c : Code) (pre : List α) (W : World), w.heap.size ≤ D → Sp pre → Ix c pre W → W.heap[D]? = some (.deferred (some [])) → c.wpIn Fence.wide n P Q { a with defers := { target := .collected D, args := #[] } :: a.defers } W) :
    (Code.rangeFunc g ps assign body).wpIn Fence.wide n P Q a w := by
  refine wpIn_rangeFunc fun fn hfn => ?_
  obtain ⟨rec, hrec⟩ : ∃ rec : LoopState → Option Code → Loop, rec = fun st pe => { state := st, pending := pe, fn, tmps := a.tmps, params := ps, assign, body, defers := w.heap.size } := ⟨_, rfl⟩
  obtain ⟨l, hlq⟩ : ∃ l, l = w.heap.size + 1 := ⟨_, rfl⟩
  obtain ⟨W1, hW1⟩ : ∃ W1, (w.alloc (.deferred (some []))).alloc (.loop (rec .ready none)) = W1 := ⟨_, rfl⟩
  have hL1 : W1.heap[l]? = some (.loop (rec .ready none)) := by
    rw [← hW1, hlq]; have := World.alloc_heap_new (w.alloc (.deferred (some []))) (.loop (rec .ready none)); rwa [World.size_alloc] at this
  have hK1 : W1.heap[w.heap.size]? = some (.deferred (some [])) := by
    rw [← hW1]; exact (Below.heap_alloc _ _ _ (by simp)).trans (World.alloc_heap_new w _)
  have hs1 : W1.heap.size = w.heap.size + 2 := by rw [← hW1]; simp
  have hI1 : I [] W1 := by
    rw [← hW1]
    exact hI _ _ _ none (hI _ _ _ none h0 (World.grownBy_alloc w _ none) (fun r e => by cases e)) (World.grownBy_alloc _ _ none) (fun r e => by cases e)
  have hb1 : Below w.heap.size w W1 := by
    rw [← hW1]; exact ((Below.refl _ w).alloc (Nat.le_refl _) _).alloc (by simp) _
  refine ⟨l, [{ target := .collected w.heap.size, args := #[] }], W1, { target := .fn (.func gf) lb, args := #[.func (.yield l) #[] #[]] }, W1, gf, #[.func (.yield l) #[] #[]] ++ lb, W1, ?_, ?_, ?_, ?_, fun _ => h1, ?_⟩
  · rw [← hW1, hrec, hlq]; exact run_enterLoop_outer _ _ _ _ _
  · simp only [resolve, hg]
    simp [go_sem]
  · intro f' _; trivial
  · simp [invoke, go_sem, eg]
  · have keepB : ∀ {W W' : World} {row : Option Nat} {k : Nat} {o : Obj}, W.grownBy W' row → (∀ r, row = some r → False) → (k = l ∨ k = w.heap.size) → W.heap[k]? = some o → W'.heap[k]? = some o := by
      intro W W' row k o hg' hr hk ho
      rw [hg'.block k (lt_of_blk ho) ?_]; exact ho
      intro e
      exact hr k e.symm
    have putI : ∀ {W : World} {s : List α} {o : Obj}, I s W → I s (W.putObj l o) := fun h => hI _ _ _ (some l) h (grownBy_putObj' _ l _) fun r e => by cases e; exact hlq
    have putIx : ∀ {c : Code} {W : World} {s : List α} {o : Obj}, Ix c s W → Ix c s (W.putObj l o) := fun h => hIx _ _ _ _ (some l) h (grownBy_putObj' _ l _) fun r e => by cases e; exact hlq
    have nY : ∀ {k : Nat}, (k = w.heap.size ∨ k = w.heap.size + 1) → ¬ Y k := fun hk h => by have := hY _ h; omega
    refine (hseq l
      (fun pre W => I pre W ∧ W.heap[l]? = some (.loop (rec .ready none)) ∧ W.heap[w.heap.size]? = some (.deferred (some [])))
      (fun pre W => ∃ c, Ix c pre W ∧ W.heap[l]? = some (.loop (rec .done (some c))) ∧ W.heap[w.heap.size]? = some (.deferred (some [])))
      W1 hb1 (by omega) (by omega)
      (fun s A B row hs hg' hr => ⟨hI s A B row hs.1 hg' (fun r e => (hr r e).elim), keepB hg' hr (.inl rfl) hs.2.1, keepB hg' hr (.inr rfl) hs.2.2⟩)
      (fun s A B row hs hg' hr => by
        obtain ⟨c, hc, hl, hk⟩ := hs
        exact ⟨c, hIx c s A B row hc hg' (fun r e => (hr r e).elim), keepB hg' hr (.inl rfl) hl, keepB hg' hr (.inr rfl) hk⟩)
      ?_ ⟨hI1, hL1, hK1⟩).mono ?_
    · rintro pre x W ⟨hi, hl, hk⟩ hlen hgx
      have hlt : l < W.heap.size := lt_of_blk hl
      have hy := run_yield (P := P) (args := encs x) hl (by rw [hrec]; exact hps x)
      rw [hrec] at hy
      refine ⟨fn, _, assign, body, hy, roundIn_of_wpIn hfn (wpIn_mono (hassign l pre x W _ hlq hl hi hlen hgx) ?_)⟩
      rintro e a1 Wa hp
      cases e with
      | normal =>
        obtain ⟨hka, hAa⟩ := hp
        have hla : Wa.heap[l]? = some (.loop (rec .ready none)) := (hka.blk l hlt (nY (.inr hlq))).trans hl
        have hda : Wa.heap[w.heap.size]? = some (.deferred (some [])) := (hka.blk _ (lt_of_blk hk) (nY (.inl rfl))).trans hk
        refine ⟨_, run_beginRound hla (by rw [hrec]), ?_⟩
        have hl2 : (Wa.putObj l (.loop { rec .ready none with state := .busy })).heap[l]? = some (.loop { rec .ready none with state := .busy }) := World.putObj_heap_same (lt_of_blk hla)
        have hk2 : (Wa.putObj l (.loop { rec .ready none with state := .busy })).heap[w.heap.size]? = some (.deferred (some [])) := (World.putObj_heap_other (by omega)).trans hda
        have hA2 := hA l pre x a1 Wa _ (.loop { rec .ready none with state := .busy }) (by omega) hla hAa
        refine wpIn_mono (hbody l pre x a1 _ _ hlq hl2 hk2 hA2 hlen hgx) ?_
        have fin : ∀ (jump : Option Code) (W3 : World), Keep Y (Wa.putObj l (.loop { rec .ready none with state := .busy })) W3 →
            (Instr.endRound l jump).run P W3 = .ok (.bool jump.isNone) (W3.putObj l (.loop (rec (if jump.isNone then .ready else .done) jump))) ∧
            (W3.putObj l (.loop (rec (if jump.isNone then .ready else .done) jump))).heap[l]? = some (.loop (rec (if jump.isNone then .ready else .done) jump)) ∧
            (W3.putObj l (.loop (rec (if jump.isNone then .ready else .done) jump))).heap[w.heap.size]? = some (.deferred (some [])) ∧
            Keep (fun k => k = l ∨ Y k) W (W3.putObj l (.loop (rec (if jump.isNone then .ready else .done) jump))) := fun jump W3 hk3 => by
          have hl3 := (hk3.blk l (lt_of_blk hl2) (nY (.inr hlq))).trans hl2
          have hd3 := (hk3.blk _ (lt_of_blk hk2) (nY (.inl rfl))).trans hk2
          have he := run_endRound (P := P) jump hl3
          rw [hrec] at he ⊢
          refine ⟨he, World.putObj_heap_same (lt_of_blk hl3), (World.putObj_heap_other (by omega)).trans hd3, ?_⟩
          exact (((hka.weak fun k h => .inr h).trans (Keep.putObj _ (.inl rfl))).trans (hk3.weak fun k h => .inr h)).trans (Keep.putObj _ (.inl rfl))
        rintro e a3 W3 hp
        cases e with
        | normal =>
          obtain ⟨hk3, hi3⟩ := hp
          obtain ⟨hr, hl4, hk4, hkp⟩ := fin none W3 hk3
          exact ⟨_, _, hr, .inl ⟨rfl, ⟨putI hi3, hl4, hk4⟩, hkp⟩⟩
        | ret =>
          obtain ⟨hk3, hi3⟩ := hp
          obtain ⟨hr, hl4, hk4, _⟩ := fin (some .ret) W3 hk3
          exact ⟨_, _, hr, .inr ⟨rfl, .ret, putIx hi3, hl4, hk4⟩⟩
        | exit id =>
          obtain ⟨hk3, hi3⟩ := hp
          obtain ⟨hr, hl4, hk4, _⟩ := fin (some (.exit id)) W3 hk3
          exact ⟨_, _, hr, .inr ⟨rfl, .exit id, putIx hi3, hl4, hk4⟩⟩
        | goto t =>
          obtain ⟨hk3, hi3⟩ := hp
          obtain ⟨hr, hl4, hk4, _⟩ := fin (some (.goto t)) W3 hk3
          exact ⟨_, _, hr, .inr ⟨rfl, .goto t, putIx hi3, hl4, hk4⟩⟩
        | panic ch => exact hp.elim
        | outgrown => exact hp.elim
      | ret => exact hp.elim
      | exit id => exact hp.elim
      | goto t => exact hp.elim
      | panic ch => exact hp.elim
      | outgrown => exact hp.elim
    · rintro e W2 ⟨⟨v, rfl⟩, (⟨xs, hS, hi, hl, hk⟩ | ⟨pre, hSp, c, hi, hl, hk⟩)⟩
      · exact ⟨none, _, by have := run_endLoop (P := P) hl (by rw [hrec]; simp); rw [hrec] at this; exact this, hdone _ xs _ (Nat.le_refl _) hS (putI hi) ((World.putObj_heap_other (by omega)).trans hk)⟩
      · exact ⟨some c, _, by have := run_endLoop (P := P) hl (by rw [hrec]; simp); rw [hrec] at this; exact this, hstop _ c pre _ (Nat.le_refl _) hSp (putIx hi) ((World.putObj_heap_other (by omega)).trans hk)⟩
attribute [local go_sem] Oper.semAt_some
end Go.Proofs.YtagcfgoofiibfaaGreatDoor
namespace Go.Proofs.YtagcfgoofiibfaaGreatDoor
open Go Go.RowKit
attribute [local go_sem] Oper.semAt_some
def TP (w : World) : Prop := Lib.TabIs Tryz.prog w "internal/strconv.uint64pow10" .u64 Lib.pow10Tab
theorem TP.below {w w' : World} (h : TP w) (hb : Below w.heap.size w w') : TP w' := Go.Joins.tab_stays (g := 5) (by kernel_rfl) h hb (Nat.le_refl _)
theorem c191 (d : Int) (w : World) (h0 : 0 ≤ d) (h1 : d < 1000000000) (hP : TP w) : Calls Tryz.prog 191 #[.int .i64 d] w fun e w' => e = .returned (.string ⟨(Lib.itoa d).toArray⟩) ∧ Below w.heap.size w w' := by
  refine (Tryz.strconv_Itoa d (by omega) (by omega) w hP).mono ?_
  rintro e w' ⟨rfl, k, os, rfl⟩
  exact ⟨rfl, Lib.below_grow _ _ (Nat.le_refl _) _ _⟩
structure NB (w0 : World) (b Bs lq : Nat) (sv : Value) (t : List UInt8) (W : World) : Prop where
  bld : ∃ p v, (p = .pointer none ∨ p = .pointer (some ⟨b, 0, none⟩)) ∧ W.heap[b]? = some (.cells #[p, v] 83 (0, 0)) ∧ W.ownsRowF b 5 1 v (Lib.byteCells t).length (Lib.byteCells t) ∧ v.ownBlock ≠ some b ∧ v.ownBlock ≠ some lq
  bel : Below b w0 W
  sl : W.heap[Bs]? = some (.cells #[sv] 186 (0, 0))
theorem NB.is {w0 : World} {b Bs lq : Nat} {sv : Value} {t : List UInt8} {W : World} (h : NB w0 b Bs lq sv t W) : Lib.IsBuilderF 83 5 b b (Lib.byteCells t) W := by
  obtain ⟨p, v, hp, h1, h2, h3, _⟩ := h.bld
  rcases hp with rfl | rfl
  · exact .inl ⟨Nat.le_refl _, v, h1, h2, h3⟩
  · exact .inr ⟨Nat.le_refl _, v, h1, h2, h3⟩
theorem NB.lt {w0 : World} {b Bs lq : Nat} {sv : Value} {t : List UInt8} {W : World} (h : NB w0 b Bs lq sv t W) : b < W.heap.size := by
  obtain ⟨p, v, _, h1, _⟩ := h.bld
  exact lt_of_blk h1
theorem own_kind5 {w : World} {B : Nat} {v : Value} {n : Nat} {xs : List Value} (h : w.ownsRowF B 5 1 v n xs) {k : Nat} (hk : v.ownBlock = some k) : ∃ c fz, w.heap[k]? = some (.cells c 5 fz) := Lib.ownsRowF_kind h k hk
theorem NB.of {w0 : World} {b Bs lq : Nat} {sv : Value} {t : List UInt8} {W : World} {r : Loop} (h : Lib.IsBuilderF 83 5 b b (Lib.byteCells t) W) (hl : W.heap[lq]? = some (.loop r)) (hb : Below b w0 W) (hs : W.heap[Bs]? = some (.cells #[sv] 186 (0, 0))) : NB w0 b Bs lq sv t W := by
  have key : ∀ (v : Value), W.ownsRowF b 5 1 v (Lib.byteCells t).length (Lib.byteCells t) → v.ownBlock ≠ some lq := fun v hv e => by
    obtain ⟨c, fz, hc⟩ := own_kind5 hv e
    rw [hl] at hc; cases hc
  refine ⟨?_, hb, hs⟩
  rcases h with ⟨_, v, h1, h2, h3⟩ | ⟨_, v, h1, h2, h3⟩
  · exact ⟨_, v, .inl rfl, h1, h2, h3, key v h2⟩
  · exact ⟨_, v, .inr rfl, h1, h2, h3, key v h2⟩
theorem NB.grown {w0 : World} {b Bs lq : Nat} {sv : Value} {t : List UInt8} {W W' : World} {row : Option Nat} (h : NB w0 b Bs lq sv t W) (h1 : b < lq) (h2 : Bs < lq) (hg : W.grownBy W' row) (hr : ∀ r, row = some r → r = lq) : NB w0 b Bs lq sv t W' := by
  obtain ⟨p, v, hp, g1, g2, g3, g4⟩ := h.bld
  refine ⟨⟨p, v, hp, ?_, g2.kept hg ?_, g3, g4⟩, h.bel.grown hg (Nat.le_of_lt h.lt) (fun k e => by rw [hr k e]; omega), ?_⟩
  · rw [hg.block b (lt_of_blk g1) (fun e => by have := hr b e.symm; omega)]; exact g1
  · rcases hv : v.ownBlock with _ | k
    · exact .inl rfl
    · right; intro e; exact g4 (by rw [hv, hr k e.symm])
  · rw [hg.block Bs (lt_of_blk h.sl) (fun e => by have := hr Bs e.symm; omega)]; exact h.sl
theorem below_putObj' {b : Nat} {w W : World} {l : Nat} (o : Obj) (h : Below b w W) (hb : b < W.heap.size) (hl : b ≤ l) : Below b w (W.putObj l o) := h.grown (grownBy_putObj' W l o) (Nat.le_of_lt hb) (fun k e => by cases e; exact hl)
theorem NB.put {w0 : World} {b Bs lq : Nat} {sv : Value} {t : List UInt8} {W : World} {l : Nat} {r : Loop} (h : NB w0 b Bs lq sv t W) (hl : W.heap[l]? = some (.loop r)) (hbl : b ≤ l) (o : Obj) : NB w0 b Bs lq sv t (W.putObj l o) := by
  obtain ⟨p, v, hp, g1, g2, g3, g4⟩ := h.bld
  have hg := grownBy_putObj' W l o
  refine ⟨⟨p, v, hp, blk_putObj o hl g1, g2.kept hg ?_, g3, g4⟩, below_putObj' o h.bel h.lt hbl, blk_putObj o hl h.sl⟩
  rcases hv : v.ownBlock with _ | k
  · exact .inl rfl
  · right; intro e
    injection e with e
    subst e
    obtain ⟨c, fz, hc⟩ := own_kind5 g2 hv
    rw [hl] at hc; cases hc
theorem others_below {b : Option Nat} {W W' : World} (h : Below W.heap.size W W') : Lib.OthersKept 5 b W W' := fun k o hk _ _ => by rw [h.block k (lt_of_blk hk)]; exact hk
theorem nb_round {w0 : World} {b Bs : Nat} {sv : Value} {t t' : List UInt8} {W W' : World} {r : Loop} (h : NB w0 b Bs (Bs + 2) sv t W) (hb1 : b < Bs) (hl : W.heap[Bs + 2]? = some (.loop r)) (hD : W.heap[Bs + 1]? = some (.deferred (some []))) (hB : Below b W W') (ho : Lib.OthersKept 5 (some b) W W')
    (h' : Lib.IsBuilderF 83 5 b b (Lib.byteCells t') W') : Keep (fun r => b ≤ r ∧ r ≠ Bs ∧ r ≠ Bs + 1 ∧ r ≠ Bs + 2) W W' ∧ NB w0 b Bs (Bs + 2) sv t' W' := by
  have k1 := ho _ _ h.sl (fun e => by injection e with e; omega) (fun c fz e => by injection e with _ e; exact absurd e (by decide))
  have k2 := ho _ _ hD (fun e => by injection e with e; omega) (fun c fz e => by cases e)
  have k3 := ho _ _ hl (fun e => by injection e with e; omega) (fun c fz e => by cases e)
  refine ⟨⟨hB.size, fun k hk hy => ?_⟩, NB.of h' k3 (h.bel.trans hB) k1⟩
  rcases Nat.lt_or_ge k b with q | q
  · exact hB.block k q
  · have hc : k = Bs ∨ k = Bs + 1 ∨ k = Bs + 2 := by omega
    rcases hc with rfl | rfl | rfl
    · rw [k1, h.sl]
    · rw [k2, hD]
    · rw [k3, hl]
theorem nb_is5 {w0 : World} {b Bs lq : Nat} {sv : Value} {t : List UInt8} {W W5 : World} {r : Loop} (h : NB w0 b Bs lq sv t W) (hb : Below W.heap.size W W5) (hl : W.heap[lq]? = some (.loop r)) : Lib.IsBuilderF 83 5 b b (Lib.byteCells t) W5 := by
  have h5 : NB w0 b Bs lq sv t W5 := NB.of (by
    obtain ⟨p, v, hp, g1, g2, g3, g4⟩ := h.bld
    have k1 := (hb.block b (lt_of_blk g1)).trans g1
    have k2 : W5.ownsRowF b 5 1 v (Lib.byteCells t).length (Lib.byteCells t) := g2.kept hb.grownBy (by
      rcases v.ownBlock with _ | k
      · exact .inl rfl
      · right; intro e; cases e)
    rcases hp with rfl | rfl
    · exact .inl ⟨Nat.le_refl _, v, k1, k2, g3⟩
    · exact .inr ⟨Nat.le_refl _, v, k1, k2, g3⟩) ((hb.block _ (lt_of_blk hl)).trans hl) (h.bel.trans (hb.mono (Nat.le_of_lt h.lt))) ((hb.block _ (lt_of_blk h.sl)).trans h.sl)
  exact h5.is
def NbA (l : List Int) (w w0 : World) (b Bs lq : Nat) (a1 : Option Addr) (cp1 : Nat) (_ : Nat) (pre : List Nat) (x : Nat) (a : Act) (W : World) : Prop := NB w0 b Bs lq (.slice a1 l.length cp1) (textL l (x + 1)) W ∧ x < l.length ∧ pre.length + (x + 1) = l.length ∧
  a = { tmps := #[.agg #[.bool false, .slice a1 l.length cp1], .pointer (some ⟨w.heap.size, 0, none⟩), .string ⟨#[]⟩, .pointer (some ⟨w.heap.size + 1, 0, none⟩), .int .i64 (x : Int), .int .i64 (atL l x), undef, .pointer (some ⟨w.heap.size, 0, none⟩), .bool false, undef, .pointer (some ⟨w.heap.size, 1, none⟩), .slice a1 l.length cp1, .int .i64 (l.length : Int), .bool false, undef, .agg #[.bool false, .slice a1 l.length cp1], .slice a1 l.length cp1, .func (.func 216) #[] #[.pointer (some ⟨Bs, 0, none⟩)], .int .i64 (x : Int), .int .i64 (atL l x), undef, undef, undef, undef, undef, undef, undef, undef, undef, undef, undef, undef, undef, undef, undef, undef, undef], defers := [] }
end Go.Proofs.YtagcfgoofiibfaaGreatDoor
namespace Go.Proofs.YtagcfgoofiibfaaGreatDoor
open Go Go.RowKit
theorem one_blk (w : World) (A : Array Value) (T : TypeId) {X : World} (hb : Below (w.alloc (.cells A T (0, 0))).heap.size (w.alloc (.cells A T (0, 0))) X) : ∀ (j : Nat) (v : Value), A[j]? = some v → X.cell? ⟨w.heap.size, j, none⟩ = some v := fun j v hv => by
  have h2 := heap_alloc_new w (.cells A T (0, 0))
  have hsz : (w.alloc (.cells A T (0, 0))).heap.size = w.heap.size + 1 := by simp
  rw [hb.cell (p := ⟨w.heap.size, j, none⟩) (by rw [hsz]; show w.heap.size < w.heap.size + 1; omega), cell_of_row _ _ _ _ _ _ h2]; exact hv
end Go.Proofs.YtagcfgoofiibfaaGreatDoor
namespace Go.Proofs.YtagcfgoofiibfaaGreatDoor
open Go Go.RowKit
abbrev tokO (k : Int) (s : ByteArray) (dv : Value) (a e : Nat) (l c : Int) : Obj := .cells #[.int .i64 k, .string s, .bool false, dv, .int .i64 (a : Int), .int .i64 (e : Int), .int .i64 l, .int .i64 c] 41 (0, 0)
end Go.Proofs.YtagcfgoofiibfaaGreatDoor
namespace Go.Proofs.YtagcfgoofiibfaaGreatDoor
open Go Go.RowKit
def Says97 (V : Tk → Prop) : Prop := ∀ (t : Tk) (dv : Value) (p : Nat) (X : World), V t → IntsAt X dv t.d → TI X → TP X → TabAt X.heap.size p X → Calls Tryz.prog 97 #[.pointer (some ⟨p, 0, none⟩), tokV t dv] X fun e w' => e = .returned (.bool true) ∧ Below X.heap.size X w'
def Says62 (V : Tk → Prop) : Prop := ∀ (t : Tk) (dv : Value) (X : World), V t → IntsAt X dv t.d → TP X → Calls Tryz.prog 62 #[tokV t dv] X fun e w' => e = .returned (.string (spellF t)) ∧ Below X.heap.size X w'
def VNum (t : Tk) : Prop := t.k = 2 ∧ t.s = ByteArray.empty ∧ InB t.d ∧ NoZ t.d ∧ t.d.length ≤ 40
end Go.Proofs.YtagcfgoofiibfaaGreatDoor
namespace Go.Proofs.YtagcfgoofiibfaaGreatDoor
open Go Go.RowKit
theorem c144 (x : Nat) (w : World) (hx : (32 ≤ x ∧ x ≤ 126) ∨ x = 9 ∨ x = 10 ∨ x = 12 ∨ x = 13) : Calls Tryz.prog 144 #[.int .i32 (x : Int)] w fun e w' => e = .returned (.bool false) ∧ w' = w := by
  by_cases h : 32 ≤ x ∧ x ≤ 126
  · have g0 : ¬ (x : Int) < 32 := by omega
    have g1 : ¬ (126 : Int) < (x : Int) := by omega
    go_enter Tryz.func144, Tryz.ntmps144
    go_wp2
    go_ret
    exact ⟨rfl, rfl⟩
  · have hx2 : x = 9 ∨ x = 10 ∨ x = 12 ∨ x = 13 := by omega
    clear h hx
    have KC : ∀ X, Calls Tryz.prog 145 #[.string ⟨#[9, 10, 12, 13]⟩, .int .i32 (x : Int)] X fun e w' => e = .returned (.bool true) ∧ w' = X := fun X => by
      refine (Tryz.strings_ContainsRune_ascii ⟨#[9, 10, 12, 13]⟩ (x : Int) X (by omega) (by omega)).mono ?_
      rintro e w' ⟨rfl, rfl⟩
      refine ⟨?_, rfl⟩
      rcases hx2 with rfl | rfl | rfl | rfl <;> exact congrArg (fun b => Ending.returned (Value.bool b)) (by decide +kernel)
    have KC := Lib.hid KC
    have g0 : (x : Int) < 32 := by omega
    clear hx2
    go_enter Tryz.func144, Tryz.ntmps144
    go_wp2_with (go_at_call 145; ((with_reducible refine (KC.out _).mono ?_); rintro e w1 ⟨rfl, rfl⟩))
    go_ret
    exact ⟨rfl, rfl⟩
theorem okB_nat {b : UInt8} (h : okB b = true) : (32 ≤ b.toNat ∧ b.toNat ≤ 126) ∨ b.toNat = 9 ∨ b.toNat = 10 ∨ b.toNat = 12 ∨ b.toNat = 13 := by
  unfold okB at h; simp at h; omega
end Go.Proofs.YtagcfgoofiibfaaGreatDoor
namespace Go.Proofs.YtagcfgoofiibfaaGreatDoor
open Go Go.RowKit
end Go.Proofs.YtagcfgoofiibfaaGreatDoor
set_option linter.unusedVariables false
namespace Go.Proofs.YtagcfgoofiibfaaGreatDoor
open Go Go.RowKit
set_option maxRecDepth 100000 in
theorem c99 (b : UInt8) (w : World) (hb : okB b = true) : Calls Tryz.prog 99 #[.int .u8 (b.toNat : Int)] w fun e w' => e = .returned (.string ⟨(escB b).toArray⟩) ∧ w' = w := by
  have hbk := okB_nat hb
  by_cases h0 : b = 34
  · subst h0
    go_enter Tryz.func99, Tryz.ntmps99
    go_wp2
    go_ret
    exact ⟨by rfl, rfl⟩
  by_cases h1 : b = 92
  · subst h1
    go_enter Tryz.func99, Tryz.ntmps99
    go_wp2
    go_ret
    exact ⟨by rfl, rfl⟩
  by_cases h2 : b = 9
  · subst h2
    go_enter Tryz.func99, Tryz.ntmps99
    go_wp2
    go_ret
    exact ⟨by rfl, rfl⟩
  by_cases h3 : b = 10
  · subst h3
    go_enter Tryz.func99, Tryz.ntmps99
    go_wp2
    go_ret
    exact ⟨by rfl, rfl⟩
  by_cases h4 : b = 12
  · subst h4
    go_enter Tryz.func99, Tryz.ntmps99
    go_wp2
    go_ret
    exact ⟨by rfl, rfl⟩
  by_cases h5 : b = 13
  · subst h5
    go_enter Tryz.func99, Tryz.ntmps99
    go_wp2
    go_ret
    exact ⟨by rfl, rfl⟩
  have e0 : escB b = [b] := by unfold escB; simp [h0, h1, h2, h3, h4, h5]
  obtain ⟨x, hx⟩ : ∃ x : Int, (b.toNat : Int) = x := ⟨_, rfl⟩
  have ne : ∀ k : Nat, k < 256 → b ≠ UInt8.ofNat k → ¬ (x = (k : Int)) := fun k hk hn e => hn (by
    have : b.toNat = k := by omega
    rw [← this]; simp)
  have g0 : ¬ (x = 34) := ne 34 (by omega) h0
  have g1 : ¬ (x = 92) := ne 92 (by omega) h1
  have g2 : ¬ (x = 9) := ne 9 (by omega) h2
  have g3 : ¬ (x = 10) := ne 10 (by omega) h3
  have g4 : ¬ (x = 12) := ne 12 (by omega) h4
  have g5 : ¬ (x = 13) := ne 13 (by omega) h5
  have he : Utf8.encode x = ⟨#[b]⟩ := by
    have hv : Utf8.valid x = true := by unfold Utf8.valid; simp; omega
    unfold Utf8.encode
    simp only [hv, if_true]
    have e1 : x.toNat = b.toNat := by omega
    rw [e1, if_pos (by omega)]
    simp
  rw [hx, e0]
  have hlt : 0 ≤ x ∧ x < 256 := by have := b.toNat_lt; omega
  have hw : IntKind.i32.wrap x = x := by unfold IntKind.wrap; simp [IntKind.bits, IntKind.signed]; omega
  clear hlt hx
  clear hb hbk h0 h1 h2 h3 h4 h5 e0 ne
  go_enter Tryz.func99, Tryz.ntmps99
  go_wp2
  go_ret
  exact ⟨by rfl, rfl⟩
def strT (s : ByteArray) (k : Nat) : List UInt8 := 34 :: (s.data.toList.take k).flatMap escB
theorem strT_succ (s : ByteArray) (k : Nat) (h : k < s.size) : strT s (k + 1) = strT s k ++ escB s[k] := by
  unfold strT
  have e : s.data.toList.take (k + 1) = s.data.toList.take k ++ [s[k]] := by
    have hl : k < s.data.toList.length := by rw [Array.length_toList]; exact h
    rw [List.take_succ_eq_append_getElem hl]; rfl
  rw [e, List.flatMap_append]; simp
theorem escB_len (b : UInt8) : (escB b).length ≤ 2 := by unfold escB; repeat' split
                                                         all_goals simp
theorem flat_len (l : List UInt8) : (l.flatMap escB).length ≤ 2 * l.length := by
  induction l with
  | nil => simp
  | cons a l ih => rw [List.flatMap_cons, List.length_append, List.length_cons]; have := escB_len a; omega
theorem strT_len (s : ByteArray) (k : Nat) (h : k ≤ s.size) : (strT s k).length ≤ 2 * s.size + 1 := by
  unfold strT
  have := flat_len (s.data.toList.take k)
  have h2 : (s.data.toList.take k).length ≤ s.size := by rw [List.length_take, Array.length_toList]; exact Nat.min_le_right _ _
  rw [List.length_cons]; omega
theorem strT_all (s : ByteArray) : strT s s.size = 34 :: s.data.toList.flatMap escB := by
  unfold strT; rw [List.take_of_length_le (by rw [Array.length_toList]; exact Nat.le_refl _)]
theorem c65q {w0 : World} {b : Nat} {t : List UInt8} (w : World) (h : JW w0 b t [] (.slice none 0 0) w) (hl : t.length + 1 ≤ 140737488355328) : Calls Tryz.prog 65 #[.pointer (some ⟨b, 0, none⟩), .int .u8 34] w (WrB w0 b (t ++ [34]) [] (.slice none 0 0)) := by
  refine (c65 b b (Lib.byteCells t) 34 w h.bld (by rw [Lib.byteCells_length]; exact hl) (Nat.le_of_lt h.lt)).mono ?_
  rintro e w' ⟨rfl, h1, h2, h3⟩
  have e1 : Lib.byteCells t ++ [.int .u8 34] = Lib.byteCells (t ++ [34]) := by rw [byteCells_app]; rfl
  rw [e1] at h1
  exact ⟨rfl, h.others (.inr h1) h2 h3⟩
theorem jw_new (w : World) : JW w w.heap.size [] [] (.slice none 0 0) (w.alloc (.cells #[.pointer none, .slice none 0 0] 83 (0, 0))) :=
  ⟨.inl ⟨Nat.le_refl _, _, blk_new _ _ rfl _, ⟨rfl, .inl ⟨rfl, rfl⟩⟩, by intro h; cases h⟩, World.ownsRow_nil _ _ _ _, (Below.refl _ _).alloc (Nat.le_refl _) _⟩
end Go.Proofs.YtagcfgoofiibfaaGreatDoor
