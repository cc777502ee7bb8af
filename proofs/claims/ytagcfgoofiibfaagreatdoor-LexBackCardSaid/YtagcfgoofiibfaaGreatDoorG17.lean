/- The lexer and what it reaches: part 17 of 41: R0, R1, F1. -/
import Derived.RangeFuncNested
import Derived.RangeFuncBound
import Derived.RangeFuncCalls
import Derived.RangeFuncLeaves
import Derived.Test.YtagcfgoofiibfaaGreatDoorG03
import Derived.OrdersIn
import Derived.OrdersHeld
import Derived.TacticsIn
import Derived.Deep.Quiet
import Derived.Deep.QuietTactic
import Derived.BigQuiet
import Derived.Lib.FieldsLaws
import Derived.OwnWalkIn
import Derived.TacticsInMore
import Derived.LoopNIn
import Derived.LoopIn
set_option linter.unusedVariables false
set_option linter.unusedSimpArgs false
namespace Go.Proofs.YtagcfgoofiibfaaGreatDoor
open Go Go.RowKit

/-- J abides turns of the blocks of X, and new blocks -/
def Abide {β : Type} (X : Nat → Prop) (J : β → World → Prop) : Prop := ∀ s W W' row, J s W → W.grownBy W' row → (∀ r, row = some r → X r) → J s W'
/-- what lay is as it was, but for the blocks of Y -/
structure Keep (Y : Nat → Prop) (w w' : World) : Prop where
  size : w.heap.size ≤ w'.heap.size
  blk : ∀ k, k < w.heap.size → ¬ Y k → w'.heap[k]? = w.heap[k]?
theorem Keep.refl (Y : Nat → Prop) (w : World) : Keep Y w w := ⟨Nat.le_refl _, fun _ _ _ => rfl⟩
theorem Keep.trans {Y : Nat → Prop} {a b c : World} (h : Keep Y a b) (k : Keep Y b c) : Keep Y a c :=
  ⟨Nat.le_trans h.size k.size, fun i hi hy => (k.blk i (by have := h.size; omega) hy).trans (h.blk i hi hy)⟩
theorem Keep.weak {Y Z : Nat → Prop} {a b : World} (h : Keep Y a b) (hy : ∀ k, Y k → Z k) : Keep Z a b := ⟨h.size, fun i hi hz => h.blk i hi fun e => hz (hy i e)⟩
theorem Keep.grown {Y : Nat → Prop} {w w' : World} {row : Option Nat} (h : w.grownBy w' row) (hr : ∀ r, row = some r → Y r ∨ w.heap.size ≤ r) : Keep Y w w' :=
  ⟨h.size, fun k hk hy => h.block k hk fun e => by rcases hr k e.symm with h1 | h1; exact hy h1; omega⟩
theorem Keep.below {Y : Nat → Prop} {B : Nat} {w w' : World} (h : Below B w w') (hB : w.heap.size ≤ B) : Keep Y w w' := ⟨h.size, fun k hk _ => h.block k (by omega)⟩
theorem Keep.cell {Y : Nat → Prop} {w w' : World} (h : Keep Y w w') {p : Addr} {v : Value} (hy : ¬ Y p.block) (hc : w.cell? p = some v) : w'.cell? p = some v := by
  have hl := World.block_lt_of_cell? w p hc
  unfold World.cell? at hc ⊢
  rw [h.blk p.block hl hy]; exact hc
theorem Keep.putObj {Y : Nat → Prop} {w : World} {l : Nat} (o : Obj) (hl : Y l) : Keep Y w (w.putObj l o) := Keep.grown (grownBy_putObj' w l o) fun r e => by cases e; exact .inl hl

/-- an iterator that may turn the blocks of X and its own, over bodies that turn those of Y and new ones -/
def SeqV {α : Type} (P : Program) (n : Nat) (g : Nat) (lb : Array Value) (encs : α → Array Value) (X Y : Nat → Prop) (S Sp : List α → Prop) (G : α → Prop) (N : Nat) (w : World) : Prop :=
  ∀ (l : Nat) (J Jx : List α → World → Prop) (W : World), Below w.heap.size w W → w.heap.size ≤ l → l < W.heap.size → Abide (fun r => X r ∨ W.heap.size ≤ r) J → Abide (fun r => X r ∨ W.heap.size ≤ r) Jx →
    (∀ pre x W1, J pre W1 → pre.length < N → G x → YieldAt Fence.wide (n - 1) P l (encs x) W1 fun e W' =>
      (e = .returned (.bool true) ∧ J (pre ++ [x]) W' ∧ Keep (fun k => k = l ∨ Y k) W1 W') ∨ (e = .returned (.bool false) ∧ Jx (pre ++ [x]) W')) →
    J [] W →
    CallsIn Fence.wide n P g (#[.func (.yield l) #[] #[]] ++ lb) W fun e W' => (∃ v, e = .returned v) ∧ ((∃ xs, S xs ∧ J xs W') ∨ (∃ pre, Sp pre ∧ Jx pre W'))

/-- how a round's body may end -/
def postV {α : Type} (Y : Nat → Prop) (I : List α → World → Prop) (Ix : Code → List α → World → Prop) (xs : List α) (W : World) : Exit → Act → World → Prop
  | .normal, _, W' => Keep Y W W' ∧ I xs W'
  | .ret, _, W' => Keep Y W W' ∧ Ix .ret xs W'
  | .exit id, _, W' => Keep Y W W' ∧ Ix (.exit id) xs W'
  | .goto t, _, W' => Keep Y W W' ∧ Ix (.goto t) xs W'
  | .panic _, _, _ => False
  | .outgrown, _, _ => False

theorem rf_law {α : Type} {P : Program} {n : Nat} {g : Operand} {ps : Array Tmp} {assign body : Code} {Q : Exit → Act → World → Prop} {a : Act} {w : World} (h1 : 1 ≤ n) {gf : Nat} {lb : Array Value}
    (hg : a.eval g = .func (.func gf) #[] lb) (eg : ∀ args w, (callFunc gf args).run P w = .ok (.enter gf args) w) {encs : α → Array Value} {X Y : Nat → Prop} {S Sp : List α → Prop} {G : α → Prop} {N : Nat}
    (hseq : SeqV P (n - 1) gf lb encs X Y S Sp G N w) (hps : ∀ x, (encs x).size = ps.size) (hX : ∀ r, X r → r < w.heap.size) (hY : ∀ r, Y r → r < w.heap.size)
    (I : List α → World → Prop) (Ix : Code → List α → World → Prop) (hI : Abide (fun r => X r ∨ w.heap.size ≤ r) I) (hIx : ∀ c, Abide (fun r => X r ∨ w.heap.size ≤ r) (Ix c)) (h0 : I [] w)
    (A : Nat → List α → α → Act → World → Prop) (hA : ∀ l pre x a' W (r : Loop) o', w.heap.size ≤ l → W.heap[l]? = some (.loop r) → A l pre x a' W → A l pre x a' (W.putObj l o'))
    (hassign : ∀ l pre x W (r : Loop), w.heap.size ≤ l → W.heap[l]? = some (.loop r) → I pre W → pre.length < N → G x →
      assign.wpIn (Fence.wide.inRound l) (n - 1 - 1) P (Exit.then (fun a' W' => Keep Y W W' ∧ A l pre x a' W') (fun _ _ _ => False)) { tmps := (ps.zip (encs x)).foldl (fun t (p, v) => t.setIfInBounds p v) a.tmps, defers := [] } W)
    (hbody : ∀ l pre x a' W (r : Loop), w.heap.size ≤ l → W.heap[l]? = some (.loop r) → A l pre x a' W → pre.length < N → G x → body.wpIn (Fence.wide.inRound l) (n - 1 - 1) P (postV Y I Ix (pre ++ [x]) W) a' W)
    (hdone : ∀ (D : Nat) (xs : List α) (W : World), w.heap.size ≤ D → S xs → I xs W → W.heap[D]? = some (.deferred (some [])) → Q .normal { a with defers := { target := .collected D, args := #[] } :: a.defers } W)
    (hstop : ∀ (D : Nat) (c : Code) (pre : List α) (W : World), w.heap.size ≤ D → Sp pre → Ix c pre W → W.heap[D]? = some (.deferred (some [])) → c.wpIn Fence.wide n P Q { a with defers := { target := .collected D, args := #[] } :: a.defers } W) :
    (Code.rangeFunc g ps assign body).wpIn Fence.wide n P Q a w := by
  refine wpIn_rangeFunc fun fn hfn => ?_
  obtain ⟨rec, hrec⟩ : ∃ rec : LoopState → Option Code → Loop, rec = fun st pe => { state := st, pending := pe, fn, tmps := a.tmps, params := ps, assign, body, defers := w.heap.size } := ⟨_, rfl⟩
  obtain ⟨l, hlq⟩ : ∃ l, l = w.heap.size + 1 := ⟨_, rfl⟩
  obtain ⟨W1, hW1⟩ : ∃ W1, (w.alloc (.deferred (some []))).alloc (.loop (rec .ready none)) = W1 := ⟨_, rfl⟩
  have hL1 : W1.heap[l]? = some (.loop (rec .ready none)) := by
    rw [← hW1, hlq]; have := World.alloc_heap_new (w.alloc (.deferred (some []))) (.loop (rec .ready none)); rwa [World.size_alloc] at this
  have hK1 : W1.heap[w.heap.size]? = some (.deferred (some [])) := by
    rw [← hW1]; exact (Below.heap_alloc _ _ _ (by simp)).trans (World.alloc_heap_new w _)
  have hs1 : W1.heap.size = w.heap.size + 2 := by rw [← hW1]; simp
  have hI1 : I [] W1 := by
    rw [← hW1]
    exact hI _ _ _ none (hI _ _ _ none h0 (World.grownBy_alloc w _ none) (fun r e => by cases e)) (World.grownBy_alloc _ _ none) (fun r e => by cases e)
  have hb1 : Below w.heap.size w W1 := by
    rw [← hW1]; exact ((Below.refl _ w).alloc (Nat.le_refl _) _).alloc (by simp) _
  refine ⟨l, [{ target := .collected w.heap.size, args := #[] }], W1, { target := .fn (.func gf) lb, args := #[.func (.yield l) #[] #[]] }, W1, gf, #[.func (.yield l) #[] #[]] ++ lb, W1, ?_, ?_, ?_, ?_, fun _ => h1, ?_⟩
  · rw [← hW1, hrec, hlq]; exact run_enterLoop_outer _ _ _ _ _
  · simp only [resolve, hg]
    simp [go_sem]
  · intro f' _; trivial
  · simp [invoke, go_sem, eg]
  · have hnl : ∀ r, (X r ∨ W1.heap.size ≤ r) → some l ≠ some r ∧ some w.heap.size ≠ some r := by
      intro r hr
      rcases hr with hr | hr
      · have := hX r hr; constructor <;> (intro e; injection e with e; omega)
      · constructor <;> (intro e; injection e with e; omega)
    have keepB : ∀ {W W' : World} {row : Option Nat} {k : Nat} {o : Obj}, W.grownBy W' row → (∀ r, row = some r → X r ∨ W1.heap.size ≤ r) → (k = l ∨ k = w.heap.size) → W.heap[k]? = some o → W'.heap[k]? = some o := by
      intro W W' row k o hg' hr hk ho
      rw [hg'.block k (lt_of_blk ho) ?_]; exact ho
      intro e
      have := hnl k (hr k e.symm)
      rcases hk with rfl | rfl
      · exact this.1 rfl
      · exact this.2 rfl
    have up : ∀ r, X r ∨ W1.heap.size ≤ r → X r ∨ w.heap.size ≤ r := fun r h => by rcases h with h | h; exact .inl h; right; omega
    have putI : ∀ {W : World} {s : List α} {o : Obj}, I s W → I s (W.putObj l o) := fun h => hI _ _ _ (some l) h (grownBy_putObj' _ l _) fun r e => by cases e; right; omega
    have putIx : ∀ {c : Code} {W : World} {s : List α} {o : Obj}, Ix c s W → Ix c s (W.putObj l o) := fun h => hIx _ _ _ _ (some l) h (grownBy_putObj' _ l _) fun r e => by cases e; right; omega
    have nY : ∀ {k : Nat}, w.heap.size ≤ k → ¬ Y k := fun hk h => by have := hY _ h; omega
    refine (hseq l
      (fun pre W => I pre W ∧ W.heap[l]? = some (.loop (rec .ready none)) ∧ W.heap[w.heap.size]? = some (.deferred (some [])))
      (fun pre W => ∃ c, Ix c pre W ∧ W.heap[l]? = some (.loop (rec .done (some c))) ∧ W.heap[w.heap.size]? = some (.deferred (some [])))
      W1 hb1 (by omega) (by omega)
      (fun s A B row hs hg' hr => ⟨hI s A B row hs.1 hg' (fun r e => up r (hr r e)), keepB hg' hr (.inl rfl) hs.2.1, keepB hg' hr (.inr rfl) hs.2.2⟩)
      (fun s A B row hs hg' hr => by
        obtain ⟨c, hc, hl, hk⟩ := hs
        exact ⟨c, hIx c s A B row hc hg' (fun r e => up r (hr r e)), keepB hg' hr (.inl rfl) hl, keepB hg' hr (.inr rfl) hk⟩)
      ?_ ⟨hI1, hL1, hK1⟩).mono ?_
    · rintro pre x W ⟨hi, hl, hk⟩ hlen hgx
      have hlt : l < W.heap.size := lt_of_blk hl
      have hy := run_yield (P := P) (args := encs x) hl (by rw [hrec]; exact hps x)
      rw [hrec] at hy
      refine ⟨fn, _, assign, body, hy, roundIn_of_wpIn hfn (wpIn_mono (hassign l pre x W _ (by omega) hl hi hlen hgx) ?_)⟩
      rintro e a1 Wa hp
      cases e with
      | normal =>
        obtain ⟨hka, hAa⟩ := hp
        have hla : Wa.heap[l]? = some (.loop (rec .ready none)) := (hka.blk l hlt (nY (by omega))).trans hl
        have hda : Wa.heap[w.heap.size]? = some (.deferred (some [])) := (hka.blk _ (lt_of_blk hk) (nY (Nat.le_refl _))).trans hk
        refine ⟨_, run_beginRound hla (by rw [hrec]), ?_⟩
        have hl2 : (Wa.putObj l (.loop { rec .ready none with state := .busy })).heap[l]? = some (.loop { rec .ready none with state := .busy }) := World.putObj_heap_same (lt_of_blk hla)
        have hk2 : (Wa.putObj l (.loop { rec .ready none with state := .busy })).heap[w.heap.size]? = some (.deferred (some [])) := (World.putObj_heap_other (by omega)).trans hda
        have hA2 := hA l pre x a1 Wa _ (.loop { rec .ready none with state := .busy }) (by omega) hla hAa
        refine wpIn_mono (hbody l pre x a1 _ _ (by omega) hl2 hA2 hlen hgx) ?_
        have fin : ∀ (jump : Option Code) (W3 : World), Keep Y (Wa.putObj l (.loop { rec .ready none with state := .busy })) W3 →
            (Instr.endRound l jump).run P W3 = .ok (.bool jump.isNone) (W3.putObj l (.loop (rec (if jump.isNone then .ready else .done) jump))) ∧
            (W3.putObj l (.loop (rec (if jump.isNone then .ready else .done) jump))).heap[l]? = some (.loop (rec (if jump.isNone then .ready else .done) jump)) ∧
            (W3.putObj l (.loop (rec (if jump.isNone then .ready else .done) jump))).heap[w.heap.size]? = some (.deferred (some [])) ∧
            Keep (fun k => k = l ∨ Y k) W (W3.putObj l (.loop (rec (if jump.isNone then .ready else .done) jump))) := fun jump W3 hk3 => by
          have hl3 := (hk3.blk l (lt_of_blk hl2) (nY (by omega))).trans hl2
          have hd3 := (hk3.blk _ (lt_of_blk hk2) (nY (Nat.le_refl _))).trans hk2
          have he := run_endRound (P := P) jump hl3
          rw [hrec] at he ⊢
          refine ⟨he, World.putObj_heap_same (lt_of_blk hl3), (World.putObj_heap_other (by omega)).trans hd3, ?_⟩
          exact (((hka.weak fun k h => .inr h).trans (Keep.putObj _ (.inl rfl))).trans (hk3.weak fun k h => .inr h)).trans (Keep.putObj _ (.inl rfl))
        rintro e a3 W3 hp
        cases e with
        | normal =>
          obtain ⟨hk3, hi3⟩ := hp
          obtain ⟨hr, hl4, hk4, hkp⟩ := fin none W3 hk3
          exact ⟨_, _, hr, .inl ⟨rfl, ⟨putI hi3, hl4, hk4⟩, hkp⟩⟩
        | ret =>
          obtain ⟨hk3, hi3⟩ := hp
          obtain ⟨hr, hl4, hk4, _⟩ := fin (some .ret) W3 hk3
          exact ⟨_, _, hr, .inr ⟨rfl, .ret, putIx hi3, hl4, hk4⟩⟩
        | exit id =>
          obtain ⟨hk3, hi3⟩ := hp
          obtain ⟨hr, hl4, hk4, _⟩ := fin (some (.exit id)) W3 hk3
          exact ⟨_, _, hr, .inr ⟨rfl, .exit id, putIx hi3, hl4, hk4⟩⟩
        | goto t =>
          obtain ⟨hk3, hi3⟩ := hp
          obtain ⟨hr, hl4, hk4, _⟩ := fin (some (.goto t)) W3 hk3
          exact ⟨_, _, hr, .inr ⟨rfl, .goto t, putIx hi3, hl4, hk4⟩⟩
        | panic ch => exact hp.elim
        | outgrown => exact hp.elim
      | ret => exact hp.elim
      | exit id => exact hp.elim
      | goto t => exact hp.elim
      | panic ch => exact hp.elim
      | outgrown => exact hp.elim
    · rintro e W2 ⟨⟨v, rfl⟩, (⟨xs, hS, hi, hl, hk⟩ | ⟨pre, hSp, c, hi, hl, hk⟩)⟩
      · exact ⟨none, _, by have := run_endLoop (P := P) hl (by rw [hrec]; simp); rw [hrec] at this; exact this, hdone _ xs _ (Nat.le_refl _) hS (putI hi) ((World.putObj_heap_other (by omega)).trans hk)⟩
      · exact ⟨some c, _, by have := run_endLoop (P := P) hl (by rw [hrec]; simp); rw [hrec] at this; exact this, hstop _ c pre _ (Nat.le_refl _) hSp (putIx hi) ((World.putObj_heap_other (by omega)).trans hk)⟩
end Go.Proofs.YtagcfgoofiibfaaGreatDoor
namespace Go.Proofs.YtagcfgoofiibfaaGreatDoor
open Go Go.RowKit

theorem rowsIn_wide {n : Nat} {P : Program} {row : String} {args : Array Value} {w : World} {R : Value → World → Prop} (h : Rows P row args w R) : RowsIn Fence.wide n P row args w R :=
  fun c cs _ => let ⟨v, w', r, s⟩ := h c cs; ⟨v, w', r, stepsIn_wide.2 s⟩

/-- an operation that defers nothing does in a round what it does elsewhere -/
theorem op_round {l n : Nat} {P : Program} {o : Oper} {a : Act} {w : World} {next : Act → World → Prop} {Q : Exit → Act → World → Prop} (hd : ∀ c, o.op ≠ .defer c) (h : o.wp P a w next Q) : o.wpIn (Fence.wide.inRound l) n P a w next Q := by
  refine ⟨fun _ _ => trivial, ?_⟩
  have e : o.semAt (Fence.wide.inRound l).round a.eval = execOp a.eval o := Oper.semAt_some l _ o hd
  rw [e]
  unfold Oper.wp at h
  generalize (execOp a.eval o).run P w = r at h
  rcases r with ⟨v, w'⟩ | ⟨v, w'⟩
  · cases v with
    | value v => exact h
    | skip => exact h
    | defer d => exact h
    | enter f args => exact ⟨fun hd => (by cases hd), CallsIn.inRound l ((callsIn_wide.2 h).mono fun e w' he => (by cases e <;> exact he))⟩
    | row row args => exact ⟨fun hd => (by cases hd), rowsIn_wide h⟩
    | _ => exact h.elim
  · cases v <;> exact h
theorem any_round {l n : Nat} {P : Program} {md : Region.Mode} {ops : Array Oper} {Q : Exit → Act → World → Prop} (hlo : ∀ a w, ¬ Q .outgrown a w) (hnd : ∀ (i : Nat) (o : Oper), ops[i]? = some o → ∀ c, o.op ≠ .defer c) :
    ∀ (fuel : Nat) (listed : Array Bool) (a : Act) (w : World), wpAny P md ops Q fuel listed a w → wpAnyIn (Fence.wide.inRound l) n P md ops Q fuel listed a w
  | 0, _, _, _, h => h
  | fuel + 1, listed, a, w, h => ⟨h.1, fun i hi => by
      have h2 := h.2 i hi
      unfold wpOp at h2
      unfold wpOpIn
      rcases ho : ops[i]? with _ | o
      · rw [ho] at h2
        exact any_round hlo hnd fuel _ _ _ h2
      · rw [ho] at h2
        simp only at h2 ⊢
        split at h2
        · rename_i hw
          rw [if_pos hw]
          exact Oper.wpIn_mono (fun a w hh => any_round hlo hnd fuel _ a w hh) (op_round (hnd i o ho) (h2.resolve_right fun h3 => by obtain ⟨a3, w3, h4⟩ := h3.2; exact hlo a3 w3 h4))
        · rename_i hw
          rw [if_neg hw]
          exact ⟨fun _ _ => trivial, any_round hlo hnd fuel _ _ _ h2⟩⟩
/-- no operation defers -/
def noDefer (ops : Array Oper) : Bool := ops.toList.all fun o => match o.op with | .defer _ => false | _ => true
theorem noDefer_spec {ops : Array Oper} (h : noDefer ops = true) (i : Nat) (o : Oper) (ho : ops[i]? = some o) (c) : o.op ≠ .defer c := by
  intro e
  have := List.all_eq_true.1 h o (by rw [← Array.getElem?_toList] at ho; exact List.mem_of_getElem? ho)
  rw [e] at this; cases this
/-- a region that draws its order, in a round -/
theorem region_round {l n : Nat} {P : Program} {ops : Array Oper} {Q : Exit → Act → World → Prop} {id : Nat} {a : Act} {w : World} (hm : P.follows .mixedOrders = true) (hnd : noDefer ops = true) (hlo : ∀ a w, ¬ Q .outgrown a w)
    (h : wpAny P .any ops Q ops.size (Array.replicate ops.size false) a w.drew) : (Code.region id ops true).wpIn (Fence.wide.inRound l) n P Q a w :=
  wpIn_region_any hm (any_round hlo (noDefer_spec hnd) _ _ _ _ h)
theorem region_round_held {l n : Nat} {P : Program} {ops : Array Oper} {Q : Exit → Act → World → Prop} {id : Nat} {a : Act} {w : World} {S : World → Prop} (hm : P.follows .mixedOrders = true) (hnd : noDefer ops = true) (hlo : ∀ a w, ¬ Q .outgrown a w)
    (h : wpAnyH P .any ops Q S ops.size (Array.replicate ops.size false) a w.drew) : (Code.region id ops true).wpIn (Fence.wide.inRound l) n P Q a w :=
  region_round hm hnd hlo (wpAny_of_held _ _ _ _ h)
section
variable {P : Program} {md : Region.Mode} {ops : Array Oper} {Q : Exit → Act → World → Prop} {S : World → Prop}
theorem takeD {i d : Nat} {oi : Oper} {v : Value} {fuel : Nat} {listed : Array Bool} {a : Act} {w : World} (hi : ops[i]? = some oi) (hd : oi.dst = some d)
    (hs : Region.noSelect ops = true) (hf : Region.free md ops listed i = true) (hr : (Region.ready md ops listed).contains i = true)
    (hQ : ∀ c a w, Q (.panic c) (a.put oi.dst v) w → Q (.panic c) a w) (hy : YieldsIf P ops S oi v a) (hS : S w)
    (h : wpAnyH P md ops Q S fuel (listed.setIfInBounds i true) { tmps := a.tmps.setIfInBounds d v, defers := a.defers } w) : wpAnyH P md ops Q S (fuel + 1) listed a w :=
  wpAnyH_take hi hs hf hr hQ hy hS (by rw [show a.put oi.dst v = { tmps := a.tmps.setIfInBounds d v, defers := a.defers } by rw [hd]; rfl]; exact h)
end
/-- a region that only reads, in a round -/
theorem region_quiet_round {l n : Nat} {P : Program} {id : Nat} {Q : Exit → Act → World → Prop} {a : Act} {w : World} {ol : List Oper} (hm : P.follows .mixedOrders = true) (hB : Region.lexB .any ol.toArray = true) (hnd : noDefer ol.toArray = true) (hlo : ∀ a w, ¬ Q .outgrown a w)
    (h : wpQuiet P ol.toArray (fun w' => ∃ n, w' = w.drewN n) (fun a' => ∀ w', (∃ n, w' = w.drewN n) → Q .normal a' w') ol a) : (Code.region id ol.toArray true).wpIn (Fence.wide.inRound l) n P Q a w := by
  simp only [Region.lexB, Bool.and_eq_true] at hB
  refine region_round hm hnd hlo (wpAny_of_quiet (C := fun w' => ∃ n, w' = w.drewN n) (Q := fun a' => ∀ w', (∃ n, w' = w.drewN n) → Q .normal a' w') (fun _ w' hw' h => h w' hw') _ _ _ _ ⟨1, rfl⟩ ?_)
  have := wpAnyQ_lex (C := fun w' => ∃ n, w' = w.drewN n) (md := .any) hB.1 ol 0 (Array.replicate ol.toArray.size false) a (by simp) (by simpa using hB.2) h
  simpa using this
end Go.Proofs.YtagcfgoofiibfaaGreatDoor
namespace Go.Proofs.YtagcfgoofiibfaaGreatDoor
open Go Go.RowKit
attribute [local go_sem] Oper.semAt_some

theorem ext_list (s : ByteArray) (a b : Nat) : (s.extract a b).data.toList = (s.data.toList.drop a).take (b - a) := by simp [ByteArray.data_extract, Array.toList_extract, List.extract]

theorem fld_more (l : List UInt8) (fs i : Nat) (x : UInt8) (hfs : fs ≤ i) (hx : l[i]? = some x) (h : Lib.isSp x = false) :
    Lib.fieldsGo ((l.drop fs).take (i - fs)) (l.drop i) = Lib.fieldsGo ((l.drop fs).take (i + 1 - fs)) (l.drop (i + 1)) := by
  have e := Lib.drop_at hx
  generalize l.drop i = d at e
  subst e
  rw [Lib.fieldsGo_more _ _ _ h, Lib.piece_more hfs hx]
theorem fld_sp (l : List UInt8) (i : Nat) (x : UInt8) (hx : l[i]? = some x) (h : Lib.isSp x = true) :
    Lib.fieldsGo ((l.drop i).take (i - i)) (l.drop i) = Lib.fieldsGo ((l.drop (i + 1)).take (i + 1 - (i + 1))) (l.drop (i + 1)) := by
  rw [Lib.piece_nil, Lib.piece_nil, Lib.drop_at hx, Lib.fieldsGo_sp _ _ h]
theorem fld_end (l : List UInt8) (fs i : Nat) (x : UInt8) (hfs : fs < i) (hi : i ≤ l.length) (hx : l[i]? = some x) (h : Lib.isSp x = true) :
    Lib.fieldsGo ((l.drop fs).take (i - fs)) (l.drop i) = (l.drop fs).take (i - fs) :: Lib.fieldsGo ((l.drop (i + 1)).take (i + 1 - (i + 1))) (l.drop (i + 1)) := by
  have e := Lib.drop_at hx
  have hne := Lib.piece_ne hfs hi
  rw [Lib.piece_nil]
  generalize l.drop i = d at e
  subst e
  rw [Lib.fieldsGo_end _ _ _ h hne]

theorem c104 (s : ByteArray) (w : World) :
    Calls Tryz.prog 104 #[.string s] w fun e w' => e = .returned (.func (.func 162) #[] #[.pointer (some ⟨w.heap.size, 0, none⟩)]) ∧ w' = w.alloc (.cells #[.string s] 9) := by
  have hmf : ∀ (fn : Fn) (first cap : Array Value) (w : World), (Instr.makeFunc fn first cap).run Tryz.prog w = .ok (.func fn first cap) w := fun _ _ _ _ => rfl
  go_enter Tryz.func104, Tryz.ntmps104
  go_wp2
  go_ret
  exact ⟨rfl, rfl⟩

/-- the table of blanks -/
def SpTab (w : World) : Prop := ∀ c : Nat, c < 256 → w.cell? ⟨1, c, none⟩ = some (.int .u8 (if Lib.isSp (UInt8.ofNat c) then 1 else 0))

set_option maxRecDepth 100000 in
set_option maxHeartbeats 3200000 in
theorem c162 (m : Nat) (Bs : Nat) (s : ByteArray) (hsz : s.size ≤ 100000) (hasc : ∀ (j : Nat) b, s.data.toList[j]? = some b → b.toNat < 128) (Y : Nat → Prop) (hY1 : ¬ Y 1) (hYb : ¬ Y Bs) (w : World)
    (hs : w.cell? ⟨Bs, 0, none⟩ = some (.string s)) (hT : SpTab w) :
    SeqV Tryz.prog m 162 #[.pointer (some ⟨Bs, 0, none⟩)] (fun x : ByteArray => #[.string x]) (fun _ => False) Y (fun xs => xs.map (·.data.toList) = Lib.fields s.data.toList) (fun _ => True) (fun x => x.size ≤ s.size) (s.size + 1) w := by
  intro l J Jx W hW hl1 hl2 hJ hJx hY h0
  have hb1 : Bs < w.heap.size := World.block_lt_of_cell? w _ hs
  have hb2 : 1 < w.heap.size := World.block_lt_of_cell? w ⟨1, 0, none⟩ (hT 0 (by omega))
  have hs' : W.cell? ⟨Bs, 0, none⟩ = some (.string s) := (hW.cell (p := ⟨Bs, 0, none⟩) hb1).trans hs
  have hT' : SpTab W := fun c hc => (hW.cell (p := ⟨1, c, none⟩) hb2).trans (hT c hc)
  have HA := Lib.hid hasc
  have HT := Lib.hid hT'
  have HY := Lib.hid hY
  have HJ := Lib.hid h0
  clear hasc hT hT' hY h0 hs hJ hJx hW
  have hlen : s.data.toList.length = s.size := by simp
  refine callsIn_of_wp Tryz.func162 rfl trivial ?_ rfl
  simp only [Tryz.ntmps162, List.size_toArray, List.length_cons, List.length_nil, Nat.reduceAdd, Nat.reduceSub, Array.replicate_succ, Array.replicate_zero, List.push_toArray, List.append_toArray, List.nil_append, List.cons_append]
  gi_wp2
  gi_loopw [3, 4] (fun st ix wr => ∃ (done : List ByteArray) (fs i : Nat), done.length ≤ i ∧ fs ≤ i ∧ i ≤ s.size ∧ ix = .int .i64 (i : Int) ∧ ((st = .int .i64 (-1) ∧ fs = i) ∨ (st = .int .i64 (fs : Int) ∧ fs < i)) ∧ J done wr ∧
      wr.cell? ⟨Bs, 0, none⟩ = some (.string s) ∧ SpTab wr ∧ done.map (·.data.toList) ++ Lib.fieldsGo ((s.data.toList.drop fs).take (i - fs)) (s.data.toList.drop i) = Lib.fields s.data.toList)
    (fun _ ix _ => s.size - (intOf ix).toNat)
  case atStart => exact ⟨[], 0, 0, by simp, by omega, by omega, rfl, .inl ⟨rfl, rfl⟩, HJ.out, hs', HT.out, by simp [Lib.fields]⟩
  case round =>
    obtain ⟨done, fs, i, hd, hfi, hi, rfl, hst, hJd, hsr, hTr, hinv⟩ := hrel
    have HJd := Lib.hid hJd
    have HTr := Lib.hid hTr
    have HI := Lib.hid hinv
    clear hJd hTr hinv HJ HT
    by_cases hin : i < s.size
    · have hiz : (i : Int) < (s.size : Int) := by omega
      obtain ⟨x, hx⟩ : ∃ x : UInt8, s[i] = x := ⟨_, rfl⟩
      have hxl : s.data.toList[i]? = some x := by rw [← hx]; exact Lib.data_getElem? s i hin
      have hx128 : x.toNat < 128 := HA.out i x hxl
      have hxz : (x.toNat : Int) < 256 := by omega
      have hxy : decide ((128 : Int) ≤ (x.toNat : Int)) = false := by simp; omega
      have hTx : wr.cell? ⟨1, x.toNat, none⟩ = some (.int .u8 (if Lib.isSp x then 1 else 0)) := by have := HTr.out x.toNat (by omega); simpa using this
      have Hx := Lib.hid hxl
      clear hxl
      rcases hsx : Lib.isSp x with _ | _
      · rw [hsx] at hTx
        simp only [Bool.false_eq_true, if_false] at hTx
        rcases hst with ⟨rfl, rfl⟩ | ⟨rfl, hlt⟩
        · gi_wp2
          go_roundw
          case rel => exact ⟨done, fs, fs + 1, by omega, by omega, by omega, by simp, .inr ⟨rfl, by omega⟩, HJd.out, hsr, HTr.out, by
            rw [← HI.out, fld_more _ _ _ x (by omega) Hx.out hsx]⟩
          case measure => simp [intOf]; omega
        · have hf0 : decide ((fs : Int) < 0) = false := by simp
          gi_wp2
          go_roundw
          case rel => exact ⟨done, fs, i + 1, by omega, by omega, by omega, by simp, .inr ⟨rfl, by omega⟩, HJd.out, hsr, HTr.out, by
            rw [← HI.out, fld_more _ _ _ x (by omega) Hx.out hsx]⟩
          case measure => simp [intOf]; omega
      · rw [hsx] at hTx
        simp only [if_true] at hTx
        rcases hst with ⟨rfl, rfl⟩ | ⟨rfl, hlt⟩
        · gi_wp2
          go_roundw
          case rel => exact ⟨done, fs + 1, fs + 1, by omega, by omega, by omega, by simp, .inl ⟨rfl, rfl⟩, HJd.out, hsr, HTr.out, by
            rw [← HI.out, fld_sp _ _ x Hx.out hsx]⟩
          case measure => simp [intOf]; omega
        · have hf0 : (0 : Int) ≤ (fs : Int) := by omega
          have q1 : (fs : Int) ≤ (i : Int) := by omega
          have q2 : (i : Int) ≤ (s.size : Int) := by omega
          obtain ⟨fn, tmps, assign, body, hy, hR⟩ := HY.out done (s.extract fs i) wr HJd.out (by omega) (by simp [ByteArray.size_extract]; omega)
          gi_wp2
          refine ⟨fun hd => (by cases hd), hR.mono ?_⟩
          rintro e W3 (⟨rfl, hJ3, hk3⟩ | ⟨rfl, hJx3⟩)
          · have hs3 := hk3.cell (p := ⟨Bs, 0, none⟩) (by rintro (h | h); simp at h; omega; exact hYb h) hsr
            have hT3 : SpTab W3 := fun c hc => hk3.cell (p := ⟨1, c, none⟩) (by rintro (h | h); simp at h; omega; exact hY1 h) (HTr.out c hc)
            have HT3 := Lib.hid hT3
            have HJ3 := Lib.hid hJ3
            clear hT3 hJ3 hk3
            gi_wp2
            go_roundw
            case rel => exact ⟨done ++ [s.extract fs i], i + 1, i + 1, by simp; omega, by omega, by omega, by simp, .inl ⟨rfl, rfl⟩, HJ3.out, hs3, HT3.out, by
              rw [← HI.out, fld_end _ _ _ x hlt (by omega) Hx.out hsx]; simp [ext_list]⟩
            case measure => simp [intOf]; omega
          · gi_wp2
            refine bodyPost_ret (results_none rfl _ _ _) rfl ?_
            exact ⟨⟨_, rfl⟩, .inr ⟨_, trivial, hJx3⟩⟩
    · obtain rfl : i = s.size := by omega
      have hiz : decide ((s.size : Int) < (s.size : Int)) = false := by simp
      rcases hst with ⟨rfl, rfl⟩ | ⟨rfl, hlt⟩
      · gi_wp2
        go_end0
        exact ⟨⟨_, rfl⟩, .inl ⟨done, by rw [← HI.out, List.drop_of_length_le (by omega)]; simp [Lib.fieldsGo], HJd.out⟩⟩
      · have hf0 : (0 : Int) ≤ (fs : Int) := by omega
        have q1 : (fs : Int) ≤ (s.size : Int) := by omega
        obtain ⟨fn, tmps, assign, body, hy, hR⟩ := HY.out done (s.extract fs s.size) wr HJd.out (by omega) (by simp [ByteArray.size_extract])
        gi_wp2
        refine ⟨fun hd => (by cases hd), hR.mono ?_⟩
        rintro e W3 (⟨rfl, hJ3, hk3⟩ | ⟨rfl, hJx3⟩)
        · gi_wp2
          go_end0
          refine ⟨⟨_, rfl⟩, .inl ⟨done ++ [s.extract fs s.size], ?_, hJ3⟩⟩
          have hne := Lib.piece_ne hlt (show s.size ≤ s.data.toList.length by omega)
          rw [← HI.out, List.drop_of_length_le (show s.data.toList.length ≤ s.size by omega)]
          rcases hp : (s.data.toList.drop fs).take (s.size - fs) with _ | ⟨b, t⟩
          · exact absurd hp hne
          · simp [Lib.fieldsGo, ext_list, hp]
        · gi_wp2
          go_end0
          exact ⟨⟨_, rfl⟩, .inr ⟨_, trivial, hJx3⟩⟩
end Go.Proofs.YtagcfgoofiibfaaGreatDoor
