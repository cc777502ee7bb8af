/- The lexer and what it reaches: part 33 of 41: X1. -/
import Derived.Test.YtagcfgoofiibfaaGreatDoorG32
set_option linter.unusedVariables false
set_option linter.unusedSimpArgs false
namespace Go.Proofs.YtagcfgoofiibfaaGreatDoor
open Go Go.RowKit

/-- Join's variables: the text, where the tokens behind the last blank begin, the first of them -/
structure JS where
  t : List UInt8
  g : List Nat
  f : Nat
def JS.k (st : JS) : Nat := st.g.length - 5
def JS.text (st : JS) (x : Tk) : ByteArray := (⟨st.t.toArray⟩ : ByteArray).extract (st.g.getD st.k 0) (⟨st.t.toArray⟩ : ByteArray).size ++ x.s
def JS.glues (ts : List Tk) (i : Nat) (st : JS) (x : Tk) : Bool := readF (st.text x) ((ts.drop (st.f + st.k)).take (i + 1 - (st.f + st.k)))
/-- behind the blank, if there is one -/
def JS.mid (ts : List Tk) (i : Nat) (st : JS) (x : Tk) : JS := if i = 0 then st else if st.glues ts i x then st else ⟨st.t ++ [32], [], i⟩
def JS.put (st : JS) (x : Tk) : JS := ⟨st.t ++ x.s.data.toList, st.g ++ [st.t.length], st.f⟩
def joinGo (ts : List Tk) : Nat → Nat → JS → Option (List UInt8)
  | 0, _, st => some st.t
  | f + 1, i, st => match ts[i]? with
    | none => some st.t
    | some x => if 100000 < ((st.mid ts i x).put x).t.length then none else joinGo ts f (i + 1) ((st.mid ts i x).put x)
def joinF (ts : List Tk) : Option (List UInt8) := if 20000 < ts.length then none else joinGo ts ts.length 0 ⟨[], [], 0⟩

/-- what holds of the variables ahead of token i -/
structure JS.Ok (st : JS) (i : Nat) : Prop where
  n : st.f + st.g.length = i
  p : 0 < i → 0 < st.g.length
  m : ∀ x ∈ st.g, x ≤ st.t.length
  l : st.t.length ≤ 100000
theorem JS.Ok.mid {st : JS} {i : Nat} (h : st.Ok i) (ts : List Tk) (x : Tk) : (st.mid ts i x).f + (st.mid ts i x).g.length = i ∧ (∀ y ∈ (st.mid ts i x).g, y ≤ (st.mid ts i x).t.length) ∧ (st.mid ts i x).t.length ≤ 100001 := by
  unfold JS.mid
  split
  · exact ⟨h.n, h.m, by have := h.l; omega⟩
  · split
    · exact ⟨h.n, h.m, by have := h.l; omega⟩
    · exact ⟨by simp, by simp, by have := h.l; simp; omega⟩
theorem JS.Ok.put {st : JS} {i : Nat} (h1 : st.f + st.g.length = i) (h2 : ∀ y ∈ st.g, y ≤ st.t.length) (x : Tk) (hl : (st.put x).t.length ≤ 100000) : (st.put x).Ok (i + 1) :=
  ⟨by simp [JS.put]; omega, fun _ => by simp [JS.put], fun y hy => by
    simp only [JS.put, List.mem_append, List.mem_singleton] at hy
    simp only [JS.put, List.length_append]
    rcases hy with hy | rfl
    · have := h2 y hy; omega
    · omega, hl⟩

theorem BuilderAtF_kept {b : Nat} {p : Value} {bs : List Value} {w w' : World} {row : Option Nat} (h : Lib.BuilderAtF 83 5 b b p bs w) (hg : w.grownBy w' row) (hr : ∀ k, row = some k → ∃ c fz, w.heap[k]? = some (.cells c 3 fz)) : Lib.BuilderAtF 83 5 b b p bs w' := by
  obtain ⟨hB, v, hb, hown, hne⟩ := h
  have hlt := lt_of_blk hb
  refine ⟨hB, v, ?_, hown.kept hg ?_, hne⟩
  · rw [hg.block b hlt ?_]; exact hb
    intro e
    obtain ⟨c, fz, hc⟩ := hr b e.symm
    rw [hb] at hc; injection hc with hc; injection hc with _ hc; exact absurd hc (by decide)
  · rcases hv : v.ownBlock with _ | k
    · exact .inl rfl
    · right
      intro e
      obtain ⟨c, fz, hc⟩ := hr k e.symm
      obtain ⟨c', fz', hc'⟩ := Lib.ownsRowF_kind hown k hv
      rw [hc] at hc'; injection hc' with hc'; injection hc' with _ hc'; exact absurd hc' (by decide)
theorem IsBuilderF_kept {b : Nat} {bs : List Value} {w w' : World} {row : Option Nat} (h : Lib.IsBuilderF 83 5 b b bs w) (hg : w.grownBy w' row) (hr : ∀ k, row = some k → ∃ c fz, w.heap[k]? = some (.cells c 3 fz)) : Lib.IsBuilderF 83 5 b b bs w' :=
  h.elim (fun h => .inl (BuilderAtF_kept h hg hr)) (fun h => .inr (BuilderAtF_kept h hg hr))
theorem ownsRow_kind3 {w : World} {B : Nat} {v : Value} {n : Nat} {xs : List Value} (h : w.ownsRow B 3 1 v n xs) : ∀ k, v.ownBlock = some k → ∃ c fz, w.heap[k]? = some (.cells c 3 fz) := by
  intro k hk
  rcases h.2 with ⟨rfl, _⟩ | ⟨g, cap, cur, rfl, _, hg, _⟩
  · cases hk
  · injection hk with hk; subst hk; exact ⟨_, _, hg⟩

/-- Join's variables in the world -/
structure JW (w0 : World) (b : Nat) (t : List UInt8) (g : List Nat) (vg : Value) (w : World) : Prop where
  bld : Lib.IsBuilderF 83 5 b b (Lib.byteCells t) w
  row : w.ownsRow b 3 1 vg g.length (g.map fun n : Nat => Value.int .i64 (n : Int))
  bel : Below b w0 w
theorem JW.lt {w0 : World} {b : Nat} {t : List UInt8} {g : List Nat} {vg : Value} {w : World} (h : JW w0 b t g vg w) : b < w.heap.size := h.bld.elim (fun h => h.lt) (fun h => h.lt)
theorem JW.others {w0 : World} {b : Nat} {t t' : List UInt8} {g : List Nat} {vg : Value} {w w' : World} (h : JW w0 b t g vg w) (h1 : Lib.IsBuilderF 83 5 b b (Lib.byteCells t') w') (h2 : Below b w w') (h3 : Lib.OthersKept 5 (some b) w w') : JW w0 b t' g vg w' := by
  refine ⟨h1, ?_, h.bel.trans h2⟩
  rcases h.row.2 with hn | ⟨k, cap, cur, hv, hb, hg, h4⟩
  · exact ⟨h.row.1, .inl hn⟩
  · refine ⟨h.row.1, .inr ⟨k, cap, cur, hv, hb, h3 k _ hg ?_ ?_, h4⟩⟩
    · intro e
      injection e with e
      subst e
      rcases h.bld with hbd | hbd
      · obtain ⟨_, v, hbk, _⟩ := hbd
        rw [hbk] at hg; injection hg with hg; injection hg with _ hg; exact absurd hg (by decide)
      · obtain ⟨_, v, hbk, _⟩ := hbd
        rw [hbk] at hg; injection hg with hg; injection hg with _ hg; exact absurd hg (by decide)
    · intro c fz e
      injection e with _ e; exact absurd e (by decide)
theorem JW.alloc {w0 : World} {b : Nat} {t : List UInt8} {g : List Nat} {vg : Value} {w : World} (h : JW w0 b t g vg w) (o : Obj) : JW w0 b t g vg (w.alloc o) :=
  ⟨IsBuilderF_kept h.bld (World.grownBy_alloc w o none) (fun k e => by cases e), h.row.alloc o, h.bel.alloc (Nat.le_of_lt h.lt) o⟩
theorem JW.drew {w0 : World} {b : Nat} {t : List UInt8} {g : List Nat} {vg : Value} {w : World} (h : JW w0 b t g vg w) : JW w0 b t g vg w.drew :=
  ⟨h.bld.elim .inl .inr, ownsRow_blocks h.row fun _ _ => rfl, h.bel.drew⟩
theorem JW.below {w0 : World} {b : Nat} {t : List UInt8} {g : List Nat} {vg : Value} {w w' : World} (h : JW w0 b t g vg w) (hb : Below w.heap.size w w') : JW w0 b t g vg w' := by
  have hg : w.grownBy w' none := ⟨hb.os, hb.tape, hb.output, hb.size, fun k hk _ => hb.block k hk⟩
  exact ⟨IsBuilderF_kept h.bld hg (fun k e => by cases e), ownsRow_blocks h.row fun k hk => hb.block k (h.row.lt k hk).2, h.bel.trans (hb.mono (Nat.le_of_lt h.lt))⟩
theorem JW.clear {w0 : World} {b : Nat} {t : List UInt8} {g : List Nat} {vg : Value} {w : World} (h : JW w0 b t g vg w) : JW w0 b t [] (.slice none 0 0) w := ⟨h.bld, World.ownsRow_nil _ _ _ _, h.bel⟩
theorem JW.app {w0 : World} {b : Nat} {t : List UInt8} {g : List Nat} {vg v' : Value} {w w1 : World} (h : JW w0 b t g vg w) (o : Obj) (x : Nat)
    (hown : w1.ownsRow b 3 1 v' (g.length + 1) (g.map (fun n : Nat => Value.int .i64 (n : Int)) ++ [.int .i64 (x : Int)])) (hgrow : (w.alloc o).grownBy w1 vg.ownBlock) : JW w0 b t (g ++ [x]) v' w1 := by
  have ha := h.alloc o
  refine ⟨IsBuilderF_kept ha.bld hgrow (ownsRow_kind3 ha.row), by simpa using hown, ha.bel.grown hgrow (Nat.le_of_lt ha.lt) (fun k hk => (h.row.lt k hk).1)⟩
theorem JW.cell {w0 : World} {b : Nat} {t : List UInt8} {g : List Nat} {vg : Value} {w : World} (h : JW w0 b t g vg w) (hp : 0 < g.length) : ∃ q cap, vg = .slice (some ⟨q, 0, none⟩) g.length cap ∧ ∀ j, j < g.length → w.cell? ⟨q, j, none⟩ = some (.int .i64 (g.getD j 0 : Nat)) := by
  have hh := h.row
  rcases h.row.2 with ⟨_, h0⟩ | ⟨q, cap, cur, hv, _, hg, _⟩
  · omega
  · refine ⟨q, cap, hv, fun j hj => ?_⟩
    subst hv
    have := World.ownsRow.cells hh (g := q) rfl j (.int .i64 (g.getD j 0 : Nat)) (by rw [List.getElem?_map, List.getElem?_eq_getElem hj, List.getD_eq_getElem?_getD, List.getElem?_eq_getElem hj]; rfl)
    rwa [addr_add] at this
theorem TokRow.sub {w : World} {gb n cap : Nat} {ts : List Tk} (h : TokRow w (.slice (some ⟨gb, 0, none⟩) n cap) ts) (i j : Nat) (hij : i < j) (hj : j ≤ n) : TokSl w (.slice (some ⟨gb, i * 8, none⟩) (j - i) (cap - i)) ((ts.drop i).take (j - i)) := by
  obtain ⟨a, cp, e, hm, hc⟩ := h.shape
  injection e with e1 e2 e3
  subst e2 e3
  obtain ⟨b, c, e, _, _, hb, hcl⟩ := h.cells (by omega)
  injection e with e1 e2 e3
  injection e1 with e1; injection e1 with e1
  subst e1 e3
  have hlen : ((ts.drop i).take (j - i)).length = j - i := by simp; omega
  refine ⟨_, _, by rw [hlen], by rw [hlen]; omega, by omega, fun _ => ⟨gb, i * 8, rfl, hb, fun k t ht => ?_⟩⟩
  have hk : k < j - i := by
    rcases Nat.lt_or_ge k (j - i) with q | q
    · exact q
    · rw [List.getElem?_eq_none (by rw [hlen]; exact q)] at ht; cases ht
  rw [List.getElem?_take_of_lt hk, List.getElem?_drop] at ht
  have := hcl (i + k) t ht
  rw [show (i + k) * 8 = i * 8 + k * 8 by omega] at this
  exact this
def BldStr (b : Nat) (t : List UInt8) (S : ByteArray) (w : World) (e : Ending) (w' : World) : Prop := e = .returned (.string S) ∧ Lib.IsBuilderF 83 5 b b (Lib.byteCells t) w' ∧ Below b w w' ∧ Lib.OthersKept 5 (some b) w w'
theorem c64 {w0 : World} {b : Nat} {t : List UInt8} {g : List Nat} {vg : Value} (w : World) (h : JW w0 b t g vg w) (S : ByteArray) (hS : S = ⟨t.toArray⟩) : Calls Tryz.prog 64 #[.pointer (some ⟨b, 0, none⟩)] w (BldStr b t S w) := by
  subst hS; exact Tryz.Builder_String_any_k b b t w h.bld (Nat.le_of_lt h.lt)
theorem strCells_bytes (s : ByteArray) : Lib.strCells s = Lib.byteCells s.data.toList := rfl
theorem byteCells_app (a b : List UInt8) : Lib.byteCells (a ++ b) = Lib.byteCells a ++ Lib.byteCells b := by simp [Lib.byteCells]
theorem joinGo_step (ts : List Tk) (i : Nat) (st st' : JS) (x : Tk) (hi : i < ts.length) (hx : ts[i]? = some x) (hm : st.mid ts i x = st') : joinGo ts (ts.length - i) i st = if 100000 < (st'.put x).t.length then none else joinGo ts (ts.length - (i + 1)) (i + 1) (st'.put x) := by
  rw [show ts.length - i = (ts.length - (i + 1)) + 1 by omega]
  simp only [joinGo, hx, hm]
theorem c66J {w0 : World} {b : Nat} {t : List UInt8} {g : List Nat} {vg : Value} (w : World) (h : JW w0 b t g vg w) (n : Nat) (hn : t.length = n) : Calls Tryz.prog 66 #[.pointer (some ⟨b, 0, none⟩)] w fun e w' => e = .returned (.int .i64 (n : Int)) ∧ w = w' := by
  subst hn
  have := Tryz.Builder_Len_f b b (Lib.byteCells t) w h.bld
  rw [Lib.byteCells_length] at this
  exact this.mono fun _ _ ⟨h1, h2⟩ => ⟨h1, h2.symm⟩
def WrB (w0 : World) (b : Nat) (t : List UInt8) (g : List Nat) (vg : Value) (e : Ending) (w' : World) : Prop := e = .returned .nilIface ∧ JW w0 b t g vg w'
def WrS (n : Nat) (w0 : World) (b : Nat) (t : List UInt8) (g : List Nat) (vg : Value) (e : Ending) (w' : World) : Prop := e = .returned (.tuple #[.int .i64 (n : Int), .nilIface]) ∧ JW w0 b t g vg w'
theorem c65J {w0 : World} {b : Nat} {t : List UInt8} {g : List Nat} {vg : Value} (w : World) (h : JW w0 b t g vg w) (hl : t.length + 1 ≤ 140737488355328) : Calls Tryz.prog 65 #[.pointer (some ⟨b, 0, none⟩), .int .u8 32] w (WrB w0 b (t ++ [32]) g vg) := by
  refine (c65 b b (Lib.byteCells t) 32 w h.bld (by rw [Lib.byteCells_length]; exact hl) (Nat.le_of_lt h.lt)).mono ?_
  rintro e w' ⟨rfl, h1, h2, h3⟩
  have e1 : Lib.byteCells t ++ [.int .u8 32] = Lib.byteCells (t ++ [32]) := by rw [byteCells_app]; rfl
  rw [e1] at h1
  exact ⟨rfl, h.others (.inr h1) h2 h3⟩
theorem c67J {w0 : World} {b : Nat} {t : List UInt8} {g : List Nat} {vg : Value} (s : ByteArray) (w : World) (h : JW w0 b t g vg w) (hl : t.length + s.size ≤ 140737488355328) : Calls Tryz.prog 67 #[.pointer (some ⟨b, 0, none⟩), .string s] w (WrS s.size w0 b (t ++ s.data.toList) g vg) := by
  refine (c67 b b (Lib.byteCells t) s w h.bld (by rw [Lib.byteCells_length]; exact hl) (Nat.le_of_lt h.lt)).mono ?_
  rintro e w' ⟨rfl, h1, h2, h3⟩
  rw [strCells_bytes, ← byteCells_app] at h1
  exact ⟨rfl, h.others (.inr h1) h2 h3⟩
end Go.Proofs.YtagcfgoofiibfaaGreatDoor
