/- The law LexBackM: its walk and its statement: LA0, LA1, M0, M1, M2, M3, M4, M5, M6, M7, M8, M9. -/
import Derived.Test.YtagcfgoofiibfaaGreatDoorG40
import Derived.Test.YtagcfgoofiibfaaGreatDoorG30
import Derived.Test.YtagcfgoofiibfaaGreatDoorLexBackP
import Derived.Laws.RangeString
import Derived.Laws.Runes
import Derived.Laws.RangeAny
import Derived.Lib.OthersKept
import Derived.Deep.LoopGhost
import Derived.WalkMore
import Derived.Test.YtagcfgoofiibfaaGreatDoorLexBackN
import Derived.Deep.RegionHeld3
set_option linter.unusedVariables false
set_option linter.unusedSimpArgs false
namespace Go.Proofs.YtagcfgoofiibfaaGreatDoor
open Go Go.RowKit
def bytV (s : ByteArray) (l c : Int) : Value := match byteF s l c with | some i => .tuple #[.int .i64 (i : Int), .int .i64 0] | none => .tuple #[.int .i64 0, .int .i64 3]
end Go.Proofs.YtagcfgoofiibfaaGreatDoor
namespace Go.Proofs.YtagcfgoofiibfaaGreatDoor
open Go Go.RowKit
end Go.Proofs.YtagcfgoofiibfaaGreatDoor
namespace Go.Proofs.YtagcfgoofiibfaaGreatDoor
open Go Go.ChangeMaps Go.ChangeShapes Go.WideShapes Go.ChangeAt Go.RowKit
structure Gk where
  k : Int
  s : ByteArray
  neg : Bool
  d : List Int
  x4 : Int
  x5 : Int
  x6 : Int
  x7 : Int
def Gk.tk (t : Gk) : Tk := ⟨t.k, t.s, t.d, 0, 0, 0, 0⟩
abbrev gkV (t : Gk) (dv : Value) : Value := .agg #[.int .i64 t.k, .string t.s, .bool t.neg, dv, .int .i64 t.x4, .int .i64 t.x5, .int .i64 t.x6, .int .i64 t.x7]
def IntsG (w : World) (v : Value) (ks : List Int) : Prop := ∃ a cap, v = .slice a ks.length cap ∧ ks.length ≤ cap ∧ cap ≤ maxLen ∧ (0 < ks.length → ∃ b o, a = some ⟨b, o, none⟩ ∧ b < w.heap.size ∧
    ∀ (i : Nat) (z : Int), ks[i]? = some z → w.cell? ⟨b, o + i, none⟩ = some (.int .i64 z))
theorem IntsG.below {w w' : World} {v : Value} {ks : List Int} (h : IntsG w v ks) (hb : Below w.heap.size w w') : IntsG w' v ks := by
  obtain ⟨a, cap, h1, h2, h3, h4⟩ := h
  refine ⟨a, cap, h1, h2, h3, fun hp => ?_⟩
  obtain ⟨b, o, e, hlt, hc⟩ := h4 hp
  exact ⟨b, o, e, Nat.lt_of_lt_of_le hlt hb.size, fun i z hz => (hb.cell (p := ⟨b, o + i, none⟩) hlt).trans (hc i z hz)⟩
theorem IntsG.len {w : World} {v : Value} {ks : List Int} (h : IntsG w v ks) : ks.length ≤ 9223372036854775807 := by
  obtain ⟨a, cap, h1, h2, h3, h4⟩ := h
  have hmx : (maxLen : Nat) = 9223372036854775807 := rfl
  omega
def GkSl (w : World) (v : Value) (ts : List Gk) : Prop := ∃ a cap, v = .slice a ts.length cap ∧ ts.length ≤ cap ∧ cap ≤ maxLen ∧ (0 < ts.length → ∃ b o, a = some ⟨b, o, none⟩ ∧ b < w.heap.size ∧
    ∀ (k : Nat) (t : Gk), ts[k]? = some t → ∃ dv, IntsG w dv t.d ∧ w.cell? ⟨b, o + k * 8, none⟩ = some (.int .i64 t.k) ∧ w.cell? ⟨b, o + k * 8 + 1, none⟩ = some (.string t.s) ∧ w.cell? ⟨b, o + k * 8 + 2, none⟩ = some (.bool t.neg) ∧ w.cell? ⟨b, o + k * 8 + 3, none⟩ = some dv ∧
      w.cell? ⟨b, o + k * 8 + 4, none⟩ = some (.int .i64 t.x4) ∧ w.cell? ⟨b, o + k * 8 + 5, none⟩ = some (.int .i64 t.x5) ∧ w.cell? ⟨b, o + k * 8 + 6, none⟩ = some (.int .i64 t.x6) ∧ w.cell? ⟨b, o + k * 8 + 7, none⟩ = some (.int .i64 t.x7))
theorem GkSl.below {w w' : World} {v : Value} {ts : List Gk} (h : GkSl w v ts) (hb : Below w.heap.size w w') : GkSl w' v ts := by
  obtain ⟨a, cap, h1, h2, h3, h4⟩ := h
  refine ⟨a, cap, h1, h2, h3, fun hp => ?_⟩
  obtain ⟨b, o, e, hlt, hc⟩ := h4 hp
  refine ⟨b, o, e, Nat.lt_of_lt_of_le hlt hb.size, fun k t ht => ?_⟩
  obtain ⟨dv, i, x0, x1, x2, x3, x4, x5, x6, x7⟩ := hc k t ht
  have hbc : ∀ (o : Nat) (u : Value), w.cell? ⟨b, o, none⟩ = some u → w'.cell? ⟨b, o, none⟩ = some u := fun o u h => (hb.cell (p := ⟨b, o, none⟩) hlt).trans h
  exact ⟨dv, i.below hb, hbc _ _ x0, hbc _ _ x1, hbc _ _ x2, hbc _ _ x3, hbc _ _ x4, hbc _ _ x5, hbc _ _ x6, hbc _ _ x7⟩
theorem GkSl.at {w : World} {a : Option Addr} {n cap : Nat} {ts : List Gk} (h : GkSl w (.slice a n cap) ts) (k : Nat) (hk : k < ts.length) : ∃ b o t dv, a = some ⟨b, o, none⟩ ∧ b < w.heap.size ∧ ts[k]? = some t ∧ IntsG w dv t.d ∧
    w.cell? ⟨b, o + k * 8, none⟩ = some (.int .i64 t.k) ∧ w.cell? ⟨b, o + k * 8 + 1, none⟩ = some (.string t.s) ∧ w.cell? ⟨b, o + k * 8 + 2, none⟩ = some (.bool t.neg) ∧ w.cell? ⟨b, o + k * 8 + 3, none⟩ = some dv ∧
      w.cell? ⟨b, o + k * 8 + 4, none⟩ = some (.int .i64 t.x4) ∧ w.cell? ⟨b, o + k * 8 + 5, none⟩ = some (.int .i64 t.x5) ∧ w.cell? ⟨b, o + k * 8 + 6, none⟩ = some (.int .i64 t.x6) ∧ w.cell? ⟨b, o + k * 8 + 7, none⟩ = some (.int .i64 t.x7) := by
  obtain ⟨a', cap', h1, h2, h3, h4⟩ := h
  injection h1 with e1 e2 e3
  subst e1
  obtain ⟨b, o, e, hlt, hc⟩ := h4 (by omega)
  obtain ⟨t, ht⟩ : ∃ t, ts[k]? = some t := ⟨_, List.getElem?_eq_getElem hk⟩
  obtain ⟨dv, i, hx⟩ := hc k t ht
  exact ⟨b, o, t, dv, e, hlt, ht, i, hx⟩
def GkOk (t : Gk) : Prop := t.s.size ≤ maxLen
theorem und41 : ∃ fs : Array Field, Tryz.prog.underlying 41 = some (.struct fs) ∧ (fs.toList.map fun f => (f.type, f.offset)) = [(3, 0), (9, 1), (39, 2), (3, 4), (3, 5), (3, 6), (3, 7)] :=
  ⟨match Tryz.prog.underlying 41 with | some (.struct fs) => fs | _ => #[], by kernel_rfl, by kernel_rfl⟩
theorem und39 : ∃ fs : Array Field, Tryz.prog.underlying 39 = some (.struct fs) ∧ (fs.toList.map fun f => (f.type, f.offset)) = [(4, 0), (37, 1)] :=
  ⟨match Tryz.prog.underlying 39 with | some (.struct fs) => fs | _ => #[], by kernel_rfl, by kernel_rfl⟩
theorem und3 : Tryz.prog.underlying 3 = some (.int .i64) := by kernel_rfl
theorem cells41 : Tryz.prog.cellsOf 41 = 8 := by kernel_rfl
theorem cells39 : Tryz.prog.cellsOf 39 = 2 := by kernel_rfl
theorem cells37 : Tryz.prog.cellsOf 37 = 1 := by kernel_rfl
theorem cells3 : Tryz.prog.cellsOf 3 = 1 := by kernel_rfl
theorem cells4 : Tryz.prog.cellsOf 4 = 1 := by kernel_rfl
theorem cells9 : Tryz.prog.cellsOf 9 = 1 := by kernel_rfl
theorem field_at {fs : Array Field} {l : List (TypeId × Nat)} (h : (fs.toList.map fun f => (f.type, f.offset)) = l) (i : Nat) (t : TypeId) (o : Nat) (hi : l[i]? = some (t, o)) : ∃ f, fs[i]? = some f ∧ f.type = t ∧ f.offset = o := by
  rw [← h, List.getElem?_map] at hi
  rcases hf : fs.toList[i]? with _ | f
  · rw [hf] at hi; cases hi
  · rw [hf] at hi
    simp only [Option.map_some, Option.some.injEq, Prod.mk.injEq] at hi
    exact ⟨f, by simpa using hf, hi.1, hi.2⟩
section
variable {H : Type} {enc : TypeId × Value → H} {W : World}
theorem lt_cell {w : World} {b o : Nat} {v : Value} (h : w.cell? ⟨b, o, none⟩ = some v) : b < w.heap.size := by
  unfold World.cell? at h
  rcases hb : w.heap[b]? with _ | x
  · rw [hb] at h; simp at h
  · exact (Array.getElem?_eq_some_iff.1 hb).1
theorem open_digits {fuel : Nat} {cs : List Value} {x : DataW H × List MemPlace} (h : DataW.trod enc Tryz.prog W 0 (fun _ => true) true fuel 37 cs = some x) : ∃ dv l, cs = [dv] ∧ IntsG W dv l := by
  rcases open_ints Tryz.underlying37 und3 cells3 h with ⟨hcs, _⟩ | ⟨a, len, cap, zs, hcs, _, hl, hm, hz, _, hcell, _⟩
  · exact ⟨_, [], hcs, none, 0, rfl, Nat.le_refl _, Nat.zero_le _, fun h => by cases h⟩
  · simp only [if_true] at hz
    have hlen : (zs.take len).length = len := by rw [List.length_take]; omega
    refine ⟨_, zs.take len, hcs, some a, cap, by rw [hlen], by rw [hlen]; exact hl, hm, fun hp => ?_⟩
    rw [hlen] at hp
    obtain ⟨b, off, spot⟩ := a
    have hspot : spot = none := by simpa [Addr.add] using World.cell?_spot (hcell 0 (by omega))
    subst hspot
    have h0c := hcell 0 (by omega)
    rw [Go.WideShapes.add_plain, Nat.add_zero] at h0c
    refine ⟨b, off, rfl, lt_cell h0c, fun i z hi => ?_⟩
    have hil : i < len := by
      rcases Nat.lt_or_ge i len with q | q
      · exact q
      · rw [List.getElem?_eq_none (by rw [hlen]; exact q)] at hi; cases hi
    have hc := hcell i (by omega)
    rw [Go.WideShapes.add_plain] at hc
    rw [List.getElem?_take_of_lt hil] at hi
    rw [hc, List.getD_eq_getElem?_getD, hi]; rfl
theorem open_num {fuel : Nat} {cs : List Value} {x : DataW H × List MemPlace} (h : DataW.trod enc Tryz.prog W 0 (fun _ => true) true fuel 39 cs = some x) : ∃ b dv l, cs = [.bool b, dv] ∧ IntsG W dv l := by
  obtain ⟨fs, hfs, hat⟩ := und39
  obtain ⟨xs, n, _, _, hcl, hxl, hx⟩ := DataW.trod_struct hfs h
  rw [cells39] at hcl
  have each : ∀ (i : Nat) (t : TypeId) (o : Nat), [(4, 0), (37, 1)][i]? = some (t, o) → ∃ y, DataW.trod enc Tryz.prog W 0 (fun _ => true) true n t ((cs.drop o).take (Tryz.prog.cellsOf t)) = some y := by
    intro i t o hi
    obtain ⟨f, hf, rfl, rfl⟩ := field_at hat i t o hi
    have hil : i < xs.length := by rw [hxl]; exact (Array.getElem?_eq_some_iff.1 hf).1
    exact ⟨xs[i], by rw [hx i f hf, List.getElem?_eq_getElem hil]⟩
  obtain ⟨c0, c1, rfl⟩ : ∃ c0 c1, cs = [c0, c1] := by
    rcases cs with _ | ⟨c0, _ | ⟨c1, _ | ⟨c2, cs⟩⟩⟩
    · cases hcl
    · cases hcl
    · exact ⟨_, _, rfl⟩
    · simp at hcl
  obtain ⟨y0, h0⟩ := each 0 4 0 rfl
  obtain ⟨y1, h1⟩ := each 1 37 1 rfl
  rw [cells4] at h0
  rw [cells37] at h1
  obtain ⟨b, e0, _⟩ := DataW.trod_bool Tryz.underlying4 h0
  obtain ⟨dv, l, e1, hl⟩ := open_digits h1
  simp at e0 e1
  subst e0 e1
  exact ⟨b, _, l, rfl, hl⟩
theorem open_tok {fuel : Nat} {cs : List Value} {x : DataW H × List MemPlace} (h : DataW.trod enc Tryz.prog W 0 (fun _ => true) true fuel 41 cs = some x) : ∃ (t : Gk) (dv : Value), IntsG W dv t.d ∧ GkOk t ∧
    cs = [.int .i64 t.k, .string t.s, .bool t.neg, dv, .int .i64 t.x4, .int .i64 t.x5, .int .i64 t.x6, .int .i64 t.x7] := by
  obtain ⟨fs, hfs, hat⟩ := und41
  obtain ⟨xs, n, _, _, hcl, hxl, hx⟩ := DataW.trod_struct hfs h
  rw [cells41] at hcl
  have each : ∀ (i : Nat) (t : TypeId) (o : Nat), [(3, 0), (9, 1), (39, 2), (3, 4), (3, 5), (3, 6), (3, 7)][i]? = some (t, o) → ∃ y, DataW.trod enc Tryz.prog W 0 (fun _ => true) true n t ((cs.drop o).take (Tryz.prog.cellsOf t)) = some y := by
    intro i t o hi
    obtain ⟨f, hf, rfl, rfl⟩ := field_at hat i t o hi
    have hil : i < xs.length := by rw [hxl]; exact (Array.getElem?_eq_some_iff.1 hf).1
    exact ⟨xs[i], by rw [hx i f hf, List.getElem?_eq_getElem hil]⟩
  obtain ⟨c0, c1, c2, c3, c4, c5, c6, c7, rfl⟩ : ∃ c0 c1 c2 c3 c4 c5 c6 c7, cs = [c0, c1, c2, c3, c4, c5, c6, c7] := by
    rcases cs with _ | ⟨c0, _ | ⟨c1, _ | ⟨c2, _ | ⟨c3, _ | ⟨c4, _ | ⟨c5, _ | ⟨c6, _ | ⟨c7, _ | ⟨c8, cs⟩⟩⟩⟩⟩⟩⟩⟩⟩
    all_goals first | exact ⟨_, _, _, _, _, _, _, _, rfl⟩ | (exfalso; simp at hcl)
  obtain ⟨y0, h0⟩ := each 0 3 0 rfl
  obtain ⟨y1, h1⟩ := each 1 9 1 rfl
  obtain ⟨y2, h2⟩ := each 2 39 2 rfl
  obtain ⟨y3, h3⟩ := each 3 3 4 rfl
  obtain ⟨y4, h4⟩ := each 4 3 5 rfl
  obtain ⟨y5, h5⟩ := each 5 3 6 rfl
  obtain ⟨y6, h6⟩ := each 6 3 7 rfl
  rw [cells3] at h0 h3 h4 h5 h6
  rw [cells9] at h1
  rw [cells39] at h2
  obtain ⟨n0, e0, _, _⟩ := DataW.trod_int und3 h0
  obtain ⟨s1, e1, _, hs⟩ := DataW.trod_string Tryz.underlying9 h1
  obtain ⟨b2, dv, l, e2, hl⟩ := open_num h2
  obtain ⟨n3, e3, _, _⟩ := DataW.trod_int und3 h3
  obtain ⟨n4, e4, _, _⟩ := DataW.trod_int und3 h4
  obtain ⟨n5, e5, _, _⟩ := DataW.trod_int und3 h5
  obtain ⟨n6, e6, _, _⟩ := DataW.trod_int und3 h6
  simp at e0 e1 e2 e3 e4 e5 e6
  obtain ⟨rfl, rfl⟩ := e2
  subst e0 e1 e3 e4 e5 e6
  exact ⟨⟨n0, s1, b2, l, n3, n4, n5, n6⟩, _, hl, hs, rfl⟩
theorem list_of {α : Type} {P : Nat → α → Prop} : ∀ (n : Nat), (∀ i, i < n → ∃ a, P i a) → ∃ l : List α, l.length = n ∧ ∀ i a, l[i]? = some a → P i a
  | 0, _ => ⟨[], rfl, fun i a h => by cases h⟩
  | n + 1, h => by
    obtain ⟨l, hl, hp⟩ := list_of n fun i hi => h i (by omega)
    obtain ⟨a, ha⟩ := h n (by omega)
    refine ⟨l ++ [a], by simp [hl], fun i b hb => ?_⟩
    rcases Nat.lt_or_ge i n with q | q
    · rw [List.getElem?_append_left (by omega)] at hb; exact hp i b hb
    · rw [List.getElem?_append_right (by omega), hl] at hb
      have e : i - n = 0 := by
        rcases Nat.eq_zero_or_pos (i - n) with q | q
        · exact q
        · rw [List.getElem?_eq_none (by simp; omega)] at hb; cases hb
      rw [e] at hb
      have : i = n := by omega
      subst this
      simp at hb
      subst hb
      exact ha
theorem cells_row {a : Addr} {n : Nat} {cs : List Value} (h : W.cells? 0 a n = some cs) (j : Nat) (hj : j < n) : W.cell? (a.add j) = cs[j]? := by
  unfold World.cells? at h
  rw [if_pos (Nat.zero_le _)] at h
  exact mapM_some_get h j j (by simp [hj])
theorem open_toks {fuel : Nat} {cs : List Value} {x : DataW H × List MemPlace} (h : DataW.trod enc Tryz.prog W 0 (fun _ => true) true fuel 30 cs = some x) : ∃ v ts, cs = [v] ∧ GkSl W v ts ∧ ∀ t ∈ ts, GkOk t := by
  rcases DataW.trod_slice Tryz.underlying30 h with ⟨hcs, _⟩ | ⟨a, len, cap, elems, rest, n, _, hcs, _, _, hl, hm, hlen, hel, _, _⟩
  · exact ⟨_, [], hcs, ⟨none, 0, rfl, Nat.le_refl _, Nat.zero_le _, fun h => by cases h⟩, fun t ht => by cases ht⟩
  · rw [cells41] at hel
    have each : ∀ i, i < len → ∃ t : Gk, GkOk t ∧ ∃ dv, IntsG W dv t.d ∧ ∀ j, j < 8 → W.cell? ((a.add (i * 8)).add j) = [Value.int .i64 t.k, .string t.s, .bool t.neg, dv, .int .i64 t.x4, .int .i64 t.x5, .int .i64 t.x6, .int .i64 t.x7][j]? := by
      intro i hi
      have h1 := hel i hi
      rw [List.getElem?_eq_getElem (by omega), Option.bind_eq_some_iff] at h1
      obtain ⟨cs', h2, h3⟩ := h1
      obtain ⟨t, dv, hd, ho, rfl⟩ := open_tok h3
      exact ⟨t, ho, dv, hd, fun j hj => cells_row h2 j hj⟩
    obtain ⟨ts, htl, hts⟩ := list_of len each
    refine ⟨_, ts, hcs, ⟨some a, cap, by rw [htl], by omega, hm, fun hp => ?_⟩, fun t ht => ?_⟩
    · obtain ⟨b, off, spot⟩ := a
      obtain ⟨t0, ht0⟩ : ∃ t, ts[0]? = some t := ⟨_, List.getElem?_eq_getElem hp⟩
      obtain ⟨_, dv0, _, hc0⟩ := hts 0 t0 ht0
      have hq := hc0 0 (by omega)
      have hspot : spot = none := by simpa [Addr.add] using World.cell?_spot (v := Value.int .i64 t0.k) hq
      subst hspot
      refine ⟨b, off, rfl, lt_cell (v := Value.int .i64 t0.k) (by simpa [Go.WideShapes.add_plain] using hq), fun k t ht => ?_⟩
      obtain ⟨_, dv, hd, hc⟩ := hts k t ht
      have hj : ∀ j, j < 8 → W.cell? ⟨b, off + k * 8 + j, none⟩ = [Value.int .i64 t.k, .string t.s, .bool t.neg, dv, .int .i64 t.x4, .int .i64 t.x5, .int .i64 t.x6, .int .i64 t.x7][j]? := fun j hj => by
        have := hc j hj
        rwa [Go.WideShapes.add_plain, Go.WideShapes.add_plain] at this
      exact ⟨dv, hd, hj 0 (by omega), hj 1 (by omega), hj 2 (by omega), hj 3 (by omega), hj 4 (by omega), hj 5 (by omega), hj 6 (by omega), hj 7 (by omega)⟩
    · obtain ⟨i, hi, rfl⟩ := List.getElem_of_mem ht
      exact (hts i _ (List.getElem?_eq_getElem hi)).1
end
end Go.Proofs.YtagcfgoofiibfaaGreatDoor
namespace Go.Proofs.YtagcfgoofiibfaaGreatDoor
open Go Go.RowKit
theorem c142g (n : Bool) (dv : Value) (l : List Int) (w : World) (h : IntsG w dv l) : Calls Tryz.prog 142 #[.agg #[.bool n, dv]] w fun e w' => e = .returned (.bool (!n && decide (l.length = 0))) ∧ Below w.heap.size w w' := by
  obtain ⟨a, cap, rfl, _⟩ := h
  rcases n with _ | _
  · by_cases hz : l.length = 0
    · rw [hz]
      go_enter Tryz.func142, Tryz.ntmps142
      go_wp2
      go_ret
      exact ⟨rfl, (Below.refl _ _).alloc (Nat.le_refl _) _⟩
    · have hz2 : ¬ ((l.length : Int) = 0) := by omega
      have hz3 : ((l.length : Int) == 0) = false := by simpa using hz2
      have e1 : (!false && decide (l.length = 0)) = false := by simp; intro e; subst e; exact hz rfl
      rw [e1]
      have HZ := Lib.hid hz
      clear hz e1
      go_enter Tryz.func142, Tryz.ntmps142
      go_wp2
      go_ret
      exact ⟨rfl, (Below.refl _ _).alloc (Nat.le_refl _) _⟩
  · go_enter Tryz.func142, Tryz.ntmps142
    go_wp2
    go_ret
    exact ⟨rfl, (Below.refl _ _).alloc (Nat.le_refl _) _⟩
def badD (d : Int) : Bool := decide (d < 0) || decide (1000000000 ≤ d)
theorem c187g (d : Int) (w : World) : Calls Tryz.prog 187 #[.int .i64 d] w fun e w' => e = .returned (.bool (badD d)) ∧ w = w' := by
  by_cases g0 : d < 0
  · have e : badD d = true := by simp [badD, g0]
    rw [e]
    go_enter Tryz.func187, Tryz.ntmps187
    go_wp2
    go_ret
    exact ⟨rfl, rfl⟩
  · by_cases g1 : 1000000000 ≤ d
    · have e : badD d = true := by simp [badD, g1]
      rw [e]
      go_enter Tryz.func187, Tryz.ntmps187
      go_wp2
      go_ret
      exact ⟨rfl, rfl⟩
    · have e : badD d = false := by simp [badD]; omega
      rw [e]
      go_enter Tryz.func187, Tryz.ntmps187
      go_wp2
      go_ret
      exact ⟨rfl, rfl⟩
theorem any_at {l : List Int} {k : Nat} {z : Int} (hk : l[k]? = some z) (h : badD z = true) : l.any badD = true := List.any_eq_true.2 ⟨z, List.mem_of_getElem? hk, h⟩
set_option maxHeartbeats 1600000 in
theorem c212g (v : Value) (l : List Int) (w : World) (h : IntsG w v l) :
    Calls Tryz.prog 212 #[v, .func (.func 187) #[] #[]] w fun e w' => (∃ i : Int, e = .returned (.int .i64 i) ∧ decide (0 ≤ i) = l.any badD) ∧ w = w' := by
  have hln := h.len
  obtain ⟨a, cap, rfl, hc, hm, hx⟩ := h
  by_cases hz : l.length = 0
  · rw [hz]
    have e := List.eq_nil_of_length_eq_zero hz
    subst e
    clear hx hz
    go_enter Tryz.func212, Tryz.ntmps212
    go_wp2
    go_loopw [8] (fun ix wr => ix = .int .i64 0 ∧ w = wr) (fun _ _ => 0)
    case atStart => exact ⟨rfl, rfl⟩
    case round =>
      obtain ⟨rfl, rfl⟩ := hrel
      go_wp2
      go_ret
      exact ⟨⟨_, rfl, rfl⟩, rfl⟩
  · obtain ⟨b, o, rfl, hb, hx⟩ := hx (by omega)
    have HX := Lib.hid hx
    clear hx hz hc hm
    go_enter Tryz.func212, Tryz.ntmps212
    go_wp2
    go_loopw [8] (fun ix wr => w = wr ∧ ∃ k : Nat, k ≤ l.length ∧ ix = .int .i64 (k : Int) ∧ ∀ j z, j < k → l[j]? = some z → badD z = false) (fun ix _ => l.length - (intOf ix).toNat)
    case atStart => exact ⟨rfl, 0, Nat.zero_le _, rfl, fun j z h => by omega⟩
    case round =>
      obtain ⟨rfl, k, hk, rfl, hall⟩ := hrel
      have HALL := Lib.hid hall
      clear hall
      by_cases hlt : k < l.length
      · have hz : (k : Int) < (l.length : Int) := by omega
        obtain ⟨z, hzk⟩ : ∃ z, l[k]? = some z := ⟨_, List.getElem?_eq_getElem hlt⟩
        have h1 := HX.out k z hzk
        have hk0 : (0 : Int) ≤ (k : Int) := by omega
        have HZK := Lib.hid hzk
        clear hzk
        rcases hbd : badD z with _ | _
        · have C := Lib.hid (c187g z w)
          rw [hbd] at C
          have HBD := Lib.hid hbd
          clear hbd
          go_wp2_with (go_at_call 187; (refine (C.out).mono ?_); rintro e w' ⟨rfl, rfl⟩)
          go_roundw
          case rel => exact ⟨trivial, k + 1, by omega, by go_num, fun j y hj hy => by
            rcases Nat.lt_or_ge j k with q | q
            · exact HALL.out j y q hy
            · have : j = k := by omega
              subst this
              rw [HZK.out] at hy
              rw [← Option.some.inj hy]; exact HBD.out⟩
          case measure => simp [intOf]; omega
        · have C := Lib.hid (c187g z w)
          rw [hbd] at C
          have HBD := Lib.hid hbd
          clear hbd
          go_wp2_with (go_at_call 187; (refine (C.out).mono ?_); rintro e w' ⟨rfl, rfl⟩)
          go_ret
          exact ⟨⟨_, rfl, by rw [any_at HZK.out HBD.out]; simp⟩, rfl⟩
      · have hz : ¬ ((k : Int) < (l.length : Int)) := by omega
        have hkl : k = l.length := by omega
        have hany : l.any badD = false := by
          rw [List.any_eq_false]
          intro y hy
          obtain ⟨j, hj, rfl⟩ := List.getElem_of_mem hy
          rw [HALL.out j _ (by omega) (List.getElem?_eq_getElem hj)]; simp
        have HN := Lib.hid hany
        clear hany hkl
        go_wp2
        go_ret
        exact ⟨⟨_, rfl, by rw [HN.out]; rfl⟩, rfl⟩
theorem c186g (v : Value) (l : List Int) (w : World) (h : IntsG w v l) :
    Calls Tryz.prog 186 #[v, .func (.func 187) #[] #[]] w fun e w' => e = .returned (.bool (l.any badD)) ∧ w = w' := by
  have C := Lib.hid (c212g v l w h)
  obtain ⟨a, cap, rfl, _⟩ := h
  go_enter Tryz.func186, Tryz.ntmps186
  go_wp2_with (go_at_call 212; (refine (C.out).mono ?_); rintro e w' ⟨⟨i, rfl, hi⟩, rfl⟩; have HI := Lib.hid hi; clear hi)
  go_ret
  exact ⟨congrArg (fun b => Ending.returned (.bool b)) HI.out, rfl⟩
def okN (n : Bool) (l : List Int) : Bool := decide (l.length ≤ 40) && !(n && decide (l.length = 0)) && decide (l.getLast? ≠ some 0) && !l.any badD
set_option maxHeartbeats 1600000 in
theorem c141g (n : Bool) (dv : Value) (l : List Int) (w : World) (h : IntsG w dv l) :
    Calls Tryz.prog 141 #[.agg #[.bool n, dv]] w fun e w' => e = .returned (.int .i64 (if okN n l = true then 0 else 10)) ∧ Below w.heap.size w w' := by
  have C : Hid (∀ o, Calls Tryz.prog 186 #[dv, .func (.func 187) #[] #[]] (w.alloc o) fun e w' => e = .returned (.bool (l.any badD)) ∧ w.alloc o = w') := Lib.hid (fun o => c186g dv l _ (h.below ((Below.refl _ _).alloc (Nat.le_refl _) _)))
  have hln := h.len
  obtain ⟨a, cap, rfl, hc, hm, hx⟩ := h
  by_cases h40 : l.length ≤ 40
  case neg =>
    have e : okN n l = false := by simp [okN, h40]
    rw [e]
    have g1 : (40 : Int) < (l.length : Int) := by omega
    clear C hx h40 e
    go_enter Tryz.func141, Tryz.ntmps141
    go_wp2
    go_ret
    exact ⟨rfl, (Below.refl _ _).alloc (Nat.le_refl _) _⟩
  by_cases hz : l.length = 0
  · have e := List.eq_nil_of_length_eq_zero hz
    subst e
    clear hx hz h40 hln
    rcases n with _ | _
    · go_enter Tryz.func141, Tryz.ntmps141
      go_wp2_with (go_at_call 186; (refine (C.out _).mono ?_); rintro e w' ⟨rfl, rfl⟩)
      go_ret
      exact ⟨rfl, (Below.refl _ _).alloc (Nat.le_refl _) _⟩
    · go_enter Tryz.func141, Tryz.ntmps141
      go_wp2
      go_ret
      exact ⟨rfl, (Below.refl _ _).alloc (Nat.le_refl _) _⟩
  · rcases List.eq_nil_or_concat l with rfl | ⟨r, x, rfl⟩
    · exact absurd rfl hz
    · rw [List.concat_eq_append] at *
      obtain ⟨b, o, rfl, hb, hx⟩ := hx (by omega)
      have hx' := hx r.length x (by simp)
      have hlen : (r ++ [x]).length = r.length + 1 := by simp
      have hok : okN n (r ++ [x]) = (decide (x ≠ 0) && !(r ++ [x]).any badD) := by
        unfold okN
        have e1 : decide ((r ++ [x]).length ≤ 40) = true := decide_eq_true h40
        have e2 : decide ((r ++ [x]).length = 0) = false := decide_eq_false hz
        rw [e1, e2, Bool.and_false]
        simp
      have hxA : ∀ oo, (w.alloc oo).cell? ⟨b, o + r.length, none⟩ = some (.int .i64 x) := fun oo => by rw [World.cell?_alloc_old _ _ _ (by simp; omega)]; exact hx'
      rw [hlen] at h40 hc C
      rw [hok]
      have g1 : ¬ ((40 : Int) < (r.length : Int) + 1) := by omega
      have g2 : ¬ ((r.length : Int) + 1 = 0) := by omega
      have g2b : ((r.length : Int) + 1 == 0) = false := by simpa using g2
      have g3 : (0 : Int) < (r.length : Int) + 1 := by omega
      have g4 : (0 : Int) ≤ (r.length : Int) := by omega
      clear hx hok hz hln hlen hx'
      by_cases hx0 : x = 0
      · have e : (decide (x ≠ 0) && !(r ++ [x]).any badD) = false := by simp [hx0]
        rw [e]
        have hxe : (x == 0) = true := by simpa using hx0
        subst hx0
        clear e C
        simp only [List.length_append, List.length_cons, List.length_nil]
        go_enter Tryz.func141, Tryz.ntmps141
        go_wp2
        go_ret
        exact ⟨rfl, (Below.refl _ _).alloc (Nat.le_refl _) _⟩
      · have e : (decide (x ≠ 0) && !(r ++ [x]).any badD) = !(r ++ [x]).any badD := by simp [hx0]
        rw [e]
        have hxe : (x == 0) = false := by simpa using hx0
        clear e
        rcases hany : (r ++ [x]).any badD with _ | _
        · rw [hany] at C
          clear hany
          simp only [List.length_append, List.length_cons, List.length_nil]
          go_enter Tryz.func141, Tryz.ntmps141
          go_wp2_with (go_at_call 186; (refine (C.out _).mono ?_); rintro e w' ⟨rfl, rfl⟩)
          go_ret
          exact ⟨rfl, (Below.refl _ _).alloc (Nat.le_refl _) _⟩
        · rw [hany] at C
          clear hany
          simp only [List.length_append, List.length_cons, List.length_nil]
          go_enter Tryz.func141, Tryz.ntmps141
          go_wp2_with (go_at_call 186; (refine (C.out _).mono ?_); rintro e w' ⟨rfl, rfl⟩)
          go_ret
          exact ⟨rfl, (Below.refl _ _).alloc (Nat.le_refl _) _⟩
theorem okN_ok {l : List Int} (h : okN false l = true) : InB l ∧ NoZ l ∧ l.length ≤ 40 := by
  unfold okN at h
  simp only [Bool.and_eq_true, decide_eq_true_eq, Bool.not_eq_true', List.any_eq_false] at h
  obtain ⟨⟨⟨h1, _⟩, h2⟩, h3⟩ := h
  refine ⟨fun x hx => ?_, by unfold NoZ; first | exact h2 | simpa using h2, h1⟩
  have := h3 x hx
  simp [badD] at this
  omega
end Go.Proofs.YtagcfgoofiibfaaGreatDoor
namespace Go.Proofs.YtagcfgoofiibfaaGreatDoor
open Go Go.RowKit
theorem decode_fine (s : ByteArray) (pos : Nat) : Utf8.valid ((Utf8.decode s pos).1 : Int) = true := by
  have hb : ∀ k, (s.get! (pos + k)).toNat < 256 := fun k => (s.get! (pos + k)).toNat_lt
  have h0 := hb 0; have h1 := hb 1; have h2 := hb 2; have h3 := hb 3
  simp only [Utf8.decode]
  repeat' split
  all_goals simp_all [Utf8.runeError, Utf8.valid]
  all_goals omega
theorem enc_last {r : Int} (h : 128 ≤ r) (hv : Utf8.valid r = true) : ∃ m : Nat, 1 ≤ m ∧ m ≤ 3 ∧ (Utf8.encode r).size = m + 1 ∧ 128 ≤ bt (Utf8.encode r) m := by
  unfold Utf8.encode
  rw [if_pos hv]
  obtain ⟨n, rfl⟩ : ∃ n : Nat, r = n := ⟨r.toNat, by omega⟩
  have e : ((n : Int)).toNat = n := rfl
  have hn : n ≤ 1114111 := by simp [Utf8.valid] at hv; omega
  simp only [e]
  rw [if_neg (by omega)]
  split
  · refine ⟨1, by omega, by omega, rfl, ?_⟩
    have : ((UInt8.ofNat (128 + n % 64)).toNat : Int) = 128 + n % 64 := by simp; omega
    show (128 : Int) ≤ ((UInt8.ofNat (128 + n % 64)).toNat : Int)
    rw [this]; omega
  split
  · refine ⟨2, by omega, by omega, rfl, ?_⟩
    have : ((UInt8.ofNat (128 + n % 64)).toNat : Int) = 128 + n % 64 := by simp; omega
    show (128 : Int) ≤ ((UInt8.ofNat (128 + n % 64)).toNat : Int)
    rw [this]; omega
  · refine ⟨3, by omega, by omega, rfl, ?_⟩
    have : ((UInt8.ofNat (128 + n % 64)).toNat : Int) = 128 + n % 64 := by simp; omega
    show (128 : Int) ≤ ((UInt8.ofNat (128 + n % 64)).toNat : Int)
    rw [this]; omega
theorem c215 (r : Int) (w : World) (h : 128 ≤ r) (hv : Utf8.valid r = true) : Calls Tryz.prog 215 #[.int .i32 r] w fun e w' => e = .returned (.bool true) ∧ w' = w := by
  have hv2 : r < 55296 ∨ (57344 ≤ r ∧ r ≤ 1114111) := by simp [Utf8.valid] at hv; omega
  have g0 : (0 : Int) ≤ r := by omega
  clear hv
  by_cases g1 : r < 55296
  · clear hv2
    go_enter Tryz.func215, Tryz.ntmps215
    go_wp2
    go_ret
    exact ⟨rfl, rfl⟩
  · have g2 : (57343 : Int) < r := by omega
    have g3 : r ≤ 1114111 := by omega
    clear hv2
    go_enter Tryz.func215, Tryz.ntmps215
    go_wp2
    go_ret
    exact ⟨rfl, rfl⟩
theorem far_none (q : Int) (h : 128 ≤ q) (h2 : q ≤ 255) (l : List UInt8) (hl : ∀ b ∈ l, b.toNat < 128) : Lib.indexByte l q.toNat.toUInt8 = -1 := by
  have hq : (q.toNat.toUInt8).toNat = q.toNat := by simp; omega
  first
    | exact Lib.indexByte_none (fun b hb e => by have := hl b hb; rw [e, hq] at this; omega)
    | (induction l with
       | nil => rfl
       | cons a l ih => 
         have ha := hl a (by simp)
         have := ih (fun b hb => hl b (by simp [hb]))
         unfold Lib.indexByte at this ⊢
         have hne : (a == q.toNat.toUInt8) = false := by
           rw [beq_eq_false_iff_ne]; intro e; rw [e, hq] at ha; omega
         simp_all)
theorem quiet_add {P : Program} {f : FuncId} {args : Array Value} {w : World} {a n : Nat} {v : Value}
    (h : Calls P f args (w.drewN (a + n)) fun e w' => e = .returned v ∧ w' = w.drewN (a + n)) : Calls P f args (w.drewN (a + n)) fun e w'' => e = .returned v ∧ ∃ m, w'' = w.drewN (a + m) :=
  h.mono fun _ _ ⟨he, hm⟩ => ⟨he, n, hm⟩
set_option maxRecDepth 100000 in
set_option maxHeartbeats 1600000 in
theorem c189hi (r : Int) (w : World) (h : 128 ≤ r) (hv : Utf8.valid r = true) : Calls Tryz.prog 189 #[.string ⟨#[9, 10, 12, 13]⟩, .int .i32 r] w fun e w' => e = .returned (.int .i64 (-1)) ∧ Below w.heap.size w w' := by
  have g0 : (0 : Int) ≤ r := by omega
  have g1 : ¬ (r < 128) := by omega
  by_cases he : r = 65533
  · subst he
    clear h hv
    go_enter Tryz.func189, Tryz.ntmps189
    go_wp2
    go_loopg [] 4 (fun gf wx => ∃ pos : Nat, wx.heap[w.heap.size]? = some (.stringIter ⟨#[9, 10, 12, 13]⟩ pos) ∧ Below w.heap.size w wx ∧ 4 ≤ pos + gf)
    case atStart => exact ⟨0, World.iter_heap w _ 0, (Below.refl _ w).alloc (Nat.le_refl _) _, by omega⟩
    case round =>
      obtain ⟨pos, hit, hbw, hfu⟩ := hrel
      by_cases hps : pos < 4
      · obtain ⟨g', rfl⟩ : ∃ g', gk = g' + 1 := ⟨gk - 1, by omega⟩
        have hnx : ∀ ty, (Instr.next (.pointer (some ⟨w.heap.size, 0, none⟩)) true ty).run Tryz.prog wr = _ := fun ty => Lib.run_next_any_at wr w.heap.size ⟨#[9, 10, 12, 13]⟩ pos ty hit hps
        obtain ⟨R, hd, hR⟩ : ∃ R : Nat, Utf8.decode ⟨#[9, 10, 12, 13]⟩ pos = (R, 1) ∧ R < 128 := by
          have : pos = 0 ∨ pos = 1 ∨ pos = 2 ∨ pos = 3 := by omega
          rcases this with rfl | rfl | rfl | rfl
          · exact ⟨9, by decide +kernel, by omega⟩
          · exact ⟨10, by decide +kernel, by omega⟩
          · exact ⟨12, by decide +kernel, by omega⟩
          · exact ⟨13, by decide +kernel, by omega⟩
        rw [hd] at hnx
        simp only [] at hnx
        have hit2 := Lib.iterAt_heap wr w.heap.size ⟨#[9, 10, 12, 13]⟩ pos (pos + 1) hit
        have hbw2 := Lib.below_iterAt hbw (k := w.heap.size) (Nat.le_refl _) ⟨#[9, 10, 12, 13]⟩ (pos + 1)
        obtain ⟨W, hWd⟩ : ∃ W, wr.iterAt w.heap.size ⟨#[9, 10, 12, 13]⟩ (pos + 1) = W := ⟨_, rfl⟩
        rw [hWd] at hnx hit2 hbw2
        have hne : ((R : Int) == 65533) = false := by simp; omega
        clear hd hR
        go_wp2
        go_roundg g'
        case measure => omega
        case rel => exact ⟨pos + 1, hit2, hbw2, by omega⟩
      · have hnx : ∀ ty, (Instr.next (.pointer (some ⟨w.heap.size, 0, none⟩)) true ty).run Tryz.prog wr = _ := fun ty => Lib.run_next_end_at wr w.heap.size ⟨#[9, 10, 12, 13]⟩ pos ty hit hps
        go_wp2
        go_ret
        exact ⟨rfl, hbw⟩
  · obtain ⟨m, hm1, hm3, hsz, hq⟩ := enc_last h hv
    have C215 := Lib.hid (fun X => c215 r X h hv)
    have hqu : bt (Utf8.encode r) m ≤ 255 := by unfold bt; have := ((Utf8.encode r).data.toList.getD m 0).toNat_lt; omega
    obtain ⟨E, hE⟩ : ∃ E, Utf8.encode r = E := ⟨_, rfl⟩
    rw [hE] at hsz hq hqu
    have he2 : (r == 65533) = false := by simpa using he
    have hb := bt_get E m (by omega)
    obtain ⟨q, hqq⟩ : ∃ q, bt E m = q := ⟨_, rfl⟩
    rw [hqq] at hq hqu hb
    have K214 : Hid (∀ (t : ByteArray), (∀ b ∈ t.data.toList, b.toNat < 128) → ∀ X, Calls Tryz.prog 214 #[.string t, .int .u8 q] X fun e w' => e = .returned (.int .i64 (-1)) ∧ w' = X) := Lib.hid fun t ht X => by
      have := Tryz.strings_IndexByte t q X
      rw [far_none q hq hqu _ ht] at this
      exact this
    have q1 : ((10 : Int) != q) = true := by simp; omega
    have q2 : ((12 : Int) != q) = true := by simp; omega
    have q3 : ((13 : Int) != q) = true := by simp; omega
    clear h hv he hq hqu hqq
    have hm : m = 1 ∨ m = 2 ∨ m = 3 := by omega
    clear hm1 hm3
    have hcv : ∀ X, (convert 21 9 (.int .i32 r)).run Tryz.prog X = .ok (.string E) X := fun X => by rw [run_convert_int_string X 21 9 .i32 r (by kernel_rfl) Tryz.underlying9, hE]
    rcases hm with rfl | rfl | rfl
    · have hbc : (((⟨#[9, 10, 12, 13]⟩ : ByteArray)[1]'(by decide)).toNat : Int) = 10 := by decide +kernel
      have hw : IntKind.i64.wrap 2 = 2 := by decide
      have hx : (⟨#[9, 10, 12, 13]⟩ : ByteArray).extract 2 4 = ⟨#[12, 13]⟩ := by decide +kernel
      have KQ := Lib.hid (K214.out ⟨#[12, 13]⟩ (by decide))
      clear K214
      go_enter Tryz.func189, Tryz.ntmps189
      go_wp2_with (go_at_call 215; ((with_reducible refine (C215.out _).mono ?_); rintro e w1 ⟨rfl, rfl⟩))
      go_step3
      go_wp2
      go_loopw [9, 10] (fun s9 s10 wr => s9 = .int .i64 1 ∧ s10 = .int .i64 0 ∧ wr = w1) (fun _ _ _ => 0)
      case atStart => exact ⟨rfl, rfl, rfl⟩
      case round =>
        obtain ⟨rfl, rfl, rfl⟩ := hrel
        go_wp2
        go_step3
        go_wp2
        go_quiet (fail)
        go_wp2
        go_quiet ((go_at_call 214; exact quiet_add (KQ.out _)))
        go_wp2
        show bodyPost Tryz.prog Tryz.f189 (fun e w' => e = .returned (.int .i64 (-1)) ∧ Below wr.heap.size wr w') Exit.ret _ _
        go_ret
        exact ⟨rfl, (Dr.below (Dr.here _ _) _)⟩
    · have hbc : (((⟨#[9, 10, 12, 13]⟩ : ByteArray)[2]'(by decide)).toNat : Int) = 12 := by decide +kernel
      have hw : IntKind.i64.wrap 3 = 3 := by decide
      have hx : (⟨#[9, 10, 12, 13]⟩ : ByteArray).extract 3 4 = ⟨#[13]⟩ := by decide +kernel
      have KQ := Lib.hid (K214.out ⟨#[13]⟩ (by decide))
      clear K214
      go_enter Tryz.func189, Tryz.ntmps189
      go_wp2_with (go_at_call 215; ((with_reducible refine (C215.out _).mono ?_); rintro e w1 ⟨rfl, rfl⟩))
      go_step3
      go_wp2
      go_loopw [9, 10] (fun s9 s10 wr => s9 = .int .i64 2 ∧ s10 = .int .i64 0 ∧ wr = w1) (fun _ _ _ => 0)
      case atStart => exact ⟨rfl, rfl, rfl⟩
      case round =>
        obtain ⟨rfl, rfl, rfl⟩ := hrel
        go_wp2
        go_step3
        go_wp2
        go_quiet (fail)
        go_wp2
        go_quiet ((go_at_call 214; exact quiet_add (KQ.out _)))
        go_wp2
        show bodyPost Tryz.prog Tryz.f189 (fun e w' => e = .returned (.int .i64 (-1)) ∧ Below wr.heap.size wr w') Exit.ret _ _
        go_ret
        exact ⟨rfl, (Dr.below (Dr.here _ _) _)⟩
    · have hbc : (((⟨#[9, 10, 12, 13]⟩ : ByteArray)[3]'(by decide)).toNat : Int) = 13 := by decide +kernel
      have hw : IntKind.i64.wrap 4 = 4 := by decide
      have hx : (⟨#[9, 10, 12, 13]⟩ : ByteArray).extract 4 4 = ⟨#[]⟩ := by decide +kernel
      have KQ := Lib.hid (K214.out ⟨#[]⟩ (by decide))
      clear K214
      go_enter Tryz.func189, Tryz.ntmps189
      go_wp2_with (go_at_call 215; ((with_reducible refine (C215.out _).mono ?_); rintro e w1 ⟨rfl, rfl⟩))
      go_step3
      go_wp2
      go_loopw [9, 10] (fun s9 s10 wr => s9 = .int .i64 3 ∧ s10 = .int .i64 0 ∧ wr = w1) (fun _ _ _ => 0)
      case atStart => exact ⟨rfl, rfl, rfl⟩
      case round =>
        obtain ⟨rfl, rfl, rfl⟩ := hrel
        go_wp2
        go_step3
        go_wp2
        go_quiet (fail)
        go_wp2
        go_quiet ((go_at_call 214; exact quiet_add (KQ.out _)))
        go_wp2
        show bodyPost Tryz.prog Tryz.f189 (fun e w' => e = .returned (.int .i64 (-1)) ∧ Below wr.heap.size wr w') Exit.ret _ _
        go_ret
        exact ⟨rfl, (Dr.below (Dr.here _ _) _)⟩
end Go.Proofs.YtagcfgoofiibfaaGreatDoor
namespace Go.Proofs.YtagcfgoofiibfaaGreatDoor
open Go Go.RowKit
def okR (r : Nat) : Bool := (decide (32 ≤ r) && decide (r ≤ 126)) || decide (r = 9) || decide (r = 10) || decide (r = 12) || decide (r = 13)
theorem c145bad (r : Nat) (w : World) (hv : Utf8.valid (r : Int) = true) (hk : okR r = false) : Calls Tryz.prog 145 #[.string ⟨#[9, 10, 12, 13]⟩, .int .i32 (r : Int)] w fun e w' => e = .returned (.bool false) ∧ Below w.heap.size w w' := by
  by_cases h : r < 128
  · refine (Tryz.strings_ContainsRune_ascii ⟨#[9, 10, 12, 13]⟩ (r : Int) w (by omega) (by omega)).mono ?_
    rintro e w' ⟨rfl, rfl⟩
    refine ⟨congrArg (fun b => Ending.returned (Value.bool b)) ?_, Below.refl _ _⟩
    have hall : ((List.range 128).all fun r => okR r || !decide (0 ≤ Lib.indexByte [9, 10, 12, 13] (r : Int).toNat.toUInt8)) = true := by decide +kernel
    have := List.all_eq_true.1 hall r (List.mem_range.2 h)
    rw [hk] at this
    simpa using this
  · have C := Lib.hid (fun X => c189hi (r : Int) X (by omega) hv)
    clear hv hk h
    go_enter Tryz.func145, Tryz.ntmps145
    go_wp2_with (go_at_call 189; ((with_reducible refine (C.out _).mono ?_); rintro e w' ⟨rfl, hb⟩; have HB := Lib.hid hb; clear hb))
    go_ret
    exact ⟨rfl, HB.out⟩
theorem c144g (r : Nat) (w : World) (hv : Utf8.valid (r : Int) = true) : Calls Tryz.prog 144 #[.int .i32 (r : Int)] w fun e w' => e = .returned (.bool (!okR r)) ∧ Below w.heap.size w w' := by
  rcases hk : okR r with _ | _
  · have C := Lib.hid (fun X => c145bad r X hv hk)
    have hb : r < 32 ∨ 126 < r := by unfold okR at hk; simp at hk; omega
    obtain ⟨R, hR⟩ : ∃ R : Int, (r : Int) = R := ⟨_, rfl⟩
    rw [hR] at C ⊢
    by_cases h0 : r < 32
    · have g0 : R < 32 := by omega
      clear hk hv hb h0 hR
      go_enter Tryz.func144, Tryz.ntmps144
      go_wp2_with (go_at_call 145; ((with_reducible refine (C.out _).mono ?_); rintro e w' ⟨rfl, hb⟩; have HB := Lib.hid hb; clear hb))
      go_ret
      exact ⟨rfl, HB.out⟩
    · have g0 : ¬ (R < 32) := by omega
      have g1 : 126 < R := by omega
      clear hk hv hb h0 hR
      go_enter Tryz.func144, Tryz.ntmps144
      go_wp2_with (go_at_call 145; ((with_reducible refine (C.out _).mono ?_); rintro e w' ⟨rfl, hb⟩; have HB := Lib.hid hb; clear hb))
      go_ret
      exact ⟨rfl, HB.out⟩
  · refine (c144 r w (by unfold okR at hk; simp at hk; omega)).mono ?_
    rintro e w' ⟨rfl, rfl⟩
    exact ⟨rfl, Below.refl _ _⟩
theorem okR_byte (b : UInt8) : okR b.toNat = okB b := by unfold okR okB; simp
set_option maxHeartbeats 1600000 in
set_option maxRecDepth 100000 in
theorem c213g (s : ByteArray) (w : World) : Calls Tryz.prog 213 #[.string s, .func (.func 144) #[] #[], .bool true] w fun e w' => (∃ i : Int, e = .returned (.int .i64 i) ∧ decide (0 ≤ i) = !s.data.toList.all okB) ∧ Below w.heap.size w w' := by
  go_enter Tryz.func213, Tryz.ntmps213
  go_wp2
  go_loopg [] s.size (fun gf wx => ∃ pos : Nat, wx.heap[w.heap.size]? = some (.stringIter s pos) ∧ Below w.heap.size w wx ∧ s.size ≤ pos + gf ∧ ∀ j (h : j < s.size), j < pos → okB (s[j]'h) = true)
  case atStart => exact ⟨0, World.iter_heap w s 0, (Below.refl _ w).alloc (Nat.le_refl _) _, by omega, fun j h hj => by omega⟩
  case round =>
    obtain ⟨pos, hit, hbw, hfu, hall⟩ := hrel
    have HALL := Lib.hid hall
    clear hall
    by_cases hps : pos < s.size
    · obtain ⟨g', rfl⟩ : ∃ g', gk = g' + 1 := ⟨gk - 1, by omega⟩
      have hnx : ∀ ty, (Instr.next (.pointer (some ⟨w.heap.size, 0, none⟩)) true ty).run Tryz.prog wr = _ := fun ty => Lib.run_next_any_at wr w.heap.size s pos ty hit hps
      have hv := decode_fine s pos
      have hkk : okR (Utf8.decode s pos).1 = okB (s[pos]'hps) := by
        by_cases h8 : (s[pos]'hps).toNat < 128
        · rw [decode_ascii s pos hps h8]; exact okR_byte _
        · have h1 := (decode_high s pos hps (by omega)).1
          have e1 : okR (Utf8.decode s pos).1 = false := by unfold okR; simp; omega
          have e2 : okB (s[pos]'hps) = false := by unfold okB; simp; omega
          rw [e1, e2]
      have hone : okB (s[pos]'hps) = true → (Utf8.decode s pos).2 = 1 := fun h => by
        have := okB_nat h
        rw [decode_ascii s pos hps (by omega)]
      obtain ⟨R, hR⟩ : ∃ R, (Utf8.decode s pos).1 = R := ⟨_, rfl⟩
      obtain ⟨N, hN⟩ : ∃ N, (Utf8.decode s pos).2 = N := ⟨_, rfl⟩
      rw [hR] at hnx hv hkk
      rw [hN] at hnx hone
      have hit2 := Lib.iterAt_heap wr w.heap.size s pos (pos + N) hit
      have hbw2 := Lib.below_iterAt hbw (k := w.heap.size) (Nat.le_refl _) s (pos + N)
      obtain ⟨W, hWd⟩ : ∃ W, wr.iterAt w.heap.size s (pos + N) = W := ⟨_, rfl⟩
      rw [hWd] at hnx hit2 hbw2
      have KC := Lib.hid (fun X => c144g R X hv)
      have HK := Lib.hid hkk
      have HO := Lib.hid hone
      have hW : w.heap.size < W.heap.size := lt_of_blk hit2
      have HIT := Lib.hid hit2
      have HBW := Lib.hid hbw2
      have HW := Lib.hid hW
      have h0p : (0 : Int) ≤ (pos : Int) := by omega
      clear hv hR hN hkk hone hit2 hbw2 hW hWd
      rcases hk : okR R with _ | _
      · rw [hk] at KC
        have HF := Lib.hid hk
        clear hk
        go_wp2_with (go_at_call 144; ((with_reducible refine (KC.out _).mono ?_); rintro e w1 ⟨rfl, hb⟩; have HB1 := Lib.hid hb; clear hb))
        go_ret
        refine ⟨⟨_, rfl, ?_⟩, HBW.out.trans (HB1.out.mono (by have := HW.out; omega))⟩
        have e1 : s.data.toList.all okB = false := by
          rw [List.all_eq_false]
          exact ⟨s[pos]'hps, Array.mem_toList_iff.2 (Array.getElem_mem (xs := s.data) hps), by rw [← HK.out, HF.out]; simp⟩
        rw [e1]; simp
      · rw [hk] at KC
        have HF := Lib.hid hk
        clear hk
        go_wp2_with (go_at_call 144; ((with_reducible refine (KC.out _).mono ?_); rintro e w1 ⟨rfl, hb⟩; have HB1 := Lib.hid hb; clear hb))
        go_roundg g'
        case measure => omega
        case rel =>
          have hN1 := HO.out (by rw [← HK.out]; exact HF.out)
          exact ⟨pos + 1, by rw [HB1.out.block _ HW.out, HIT.out, hN1], HBW.out.trans (HB1.out.mono (by have := HW.out; omega)), by omega, fun j h hj => by
            rcases Nat.lt_or_ge j pos with q | q
            · exact HALL.out j h q
            · have : j = pos := by omega
              subst this
              rw [← HK.out]; exact HF.out⟩
    · have hnx : ∀ ty, (Instr.next (.pointer (some ⟨w.heap.size, 0, none⟩)) true ty).run Tryz.prog wr = _ := fun ty => Lib.run_next_end_at wr w.heap.size s pos ty hit hps
      have e1 : s.data.toList.all okB = true := by
        rw [List.all_eq_true]
        intro b hb
        obtain ⟨j, hj, rfl⟩ := List.getElem_of_mem hb
        have hj' : j < s.size := by simpa using hj
        exact HALL.out j hj' (by omega)
      have E1 := Lib.hid e1
      clear e1
      go_wp2
      go_ret
      exact ⟨⟨_, rfl, by rw [E1.out]; rfl⟩, hbw⟩
theorem c143g (s : ByteArray) (w : World) : Calls Tryz.prog 143 #[.string s, .func (.func 144) #[] #[]] w fun e w' => e = .returned (.bool (!s.data.toList.all okB)) ∧ Below w.heap.size w w' := by
  have K188 : Hid (∀ X, Calls Tryz.prog 188 #[.string s, .func (.func 144) #[] #[]] X fun e w' => (∃ i : Int, e = .returned (.int .i64 i) ∧ decide (0 ≤ i) = !s.data.toList.all okB) ∧ Below X.heap.size X w') := Lib.hid (fun X => by
    have K213 := Lib.hid (fun X => c213g s X)
    go_enter Tryz.func188, Tryz.ntmps188
    go_wp2_with (go_at_call 213; ((with_reducible refine (K213.out _).mono ?_); rintro e w1 ⟨⟨i, rfl, hi⟩, hbb⟩; have HI := Lib.hid hi; clear hi))
    go_ret
    exact ⟨⟨i, rfl, HI.out⟩, hbb⟩)
  go_enter Tryz.func143, Tryz.ntmps143
  go_wp2_with (go_at_call 188; ((with_reducible refine (K188.out _).mono ?_); rintro e w1 ⟨⟨i, rfl, hi⟩, hbb⟩; have HI := Lib.hid hi; clear hi))
  go_ret
  exact ⟨congrArg (fun b => Ending.returned (.bool b)) HI.out, hbb⟩
end Go.Proofs.YtagcfgoofiibfaaGreatDoor
set_option linter.unusedVariables false
namespace Go.Proofs.YtagcfgoofiibfaaGreatDoor
open Go Go.RowKit
def noneK (t : Gk) : Bool := !t.neg && decide (t.d.length = 0)
def vldK (t : Gk) : Bool :=
  if t.k = 2 then decide (t.s = ByteArray.empty) && okN t.neg t.d && !t.neg
  else if t.k = 1 then noneK t && decide (t.s.size ≤ 40) && decide (kindF t.s = 1)
  else if t.k = 3 then noneK t && decide (t.s.size ≤ 200) && t.s.data.toList.all okB
  else if t.k = 4 then noneK t && isWord t.s
  else if t.k = 5 then noneK t && decide (t.s ≠ ByteArray.empty) && decide (canonOf t.s = some t.s)
  else if t.k = 6 ∨ t.k = 7 then noneK t && decide (t.s = ByteArray.empty)
  else false
abbrev gkO (t : Gk) (dv : Value) : Obj := .cells #[.int .i64 t.k, .string t.s, .bool t.neg, dv, .int .i64 t.x4, .int .i64 t.x5, .int .i64 t.x6, .int .i64 t.x7] 41 (0, 0)
set_option maxRecDepth 100000 in
set_option maxHeartbeats 3200000 in
theorem c97g2 (p : Nat) (s : ByteArray) (n : Bool) (d : List Int) (x4 x5 x6 x7 : Int) (dv : Value) (w : World) (h : IntsG w dv d) :
    Calls Tryz.prog 97 #[.pointer (some ⟨p, 0, none⟩), gkV ⟨2, s, n, d, x4, x5, x6, x7⟩ dv] w fun e w' => e = .returned (.bool (decide (s = ByteArray.empty) && okN n d && !n)) ∧ Below w.heap.size w w' := by
  show Calls Tryz.prog 97 #[_, .agg #[_, _, _, _, _, _, _, _]] w _
  have HB0 : Hid (Below w.heap.size w (w.alloc (gkO ⟨2, s, n, d, x4, x5, x6, x7⟩ dv))) := Lib.hid ((Below.refl _ _).alloc (Nat.le_refl _) _)
  have KW : Hid (∀ X, Below w.heap.size w X → (Calls Tryz.prog 141 #[.agg #[.bool n, dv]] X fun e w' => e = .returned (.int .i64 (if okN n d = true then 0 else 10)) ∧ Below X.heap.size X w')) := Lib.hid (fun X hX => c141g n dv d X (h.below hX))
  obtain ⟨a, cap, rfl, _⟩ := h
  by_cases he : s = ByteArray.empty
  · subst he
    rcases hok : okN n d with _ | _
    · rw [hok] at KW
      simp only [Bool.false_eq_true, if_false] at KW
      have e1 : (decide (ByteArray.empty = ByteArray.empty) && false && !n) = false := by simp
      rw [e1]
      clear hok e1
      go_enter Tryz.func97, Tryz.ntmps97
      go_wp2_with (go_at_call 141; ((with_reducible refine (KW.out _ HB0.out).mono ?_); rintro e w1 ⟨rfl, hbb⟩; have k2 := one_blk w _ 41 hbb 2 _ rfl; have hb1 := HB0.out.trans (hbb.mono HB0.out.size); have HB1 := Lib.hid hb1; clear hb1 hbb))
      go_ret
      exact ⟨rfl, HB1.out⟩
    · rw [hok] at KW
      simp only [if_true] at KW
      have e1 : (decide (ByteArray.empty = ByteArray.empty) && true && !n) = !n := by simp
      rw [e1]
      clear hok e1
      go_enter Tryz.func97, Tryz.ntmps97
      go_wp2_with (go_at_call 141; ((with_reducible refine (KW.out _ HB0.out).mono ?_); rintro e w1 ⟨rfl, hbb⟩; have k2 := one_blk w _ 41 hbb 2 _ rfl; have hb1 := HB0.out.trans (hbb.mono HB0.out.size); have HB1 := Lib.hid hb1; clear hb1 hbb))
      go_ret
      exact ⟨rfl, HB1.out⟩
  · have e1 : (decide (s = ByteArray.empty) && okN n d && !n) = false := by simp [he]
    rw [e1]
    have hne : ¬ s.toList = [] := ba_nonempty he
    have hne2 : s.toList.isEmpty = false := by simpa using hne
    have hne3 : (s.toList == []) = false := by simpa using hne
    clear e1 he KW
    go_enter Tryz.func97, Tryz.ntmps97
    go_wp2
    go_ret
    exact ⟨rfl, HB0.out⟩
set_option maxRecDepth 100000 in
set_option maxHeartbeats 3200000 in
theorem c97g1 (p : Nat) (s : ByteArray) (n : Bool) (d : List Int) (x4 x5 x6 x7 : Int) (dv : Value) (w : World) (hT : TI w) (h : IntsG w dv d) :
    Calls Tryz.prog 97 #[.pointer (some ⟨p, 0, none⟩), gkV ⟨1, s, n, d, x4, x5, x6, x7⟩ dv] w fun e w' => e = .returned (.bool ((!n && decide (d.length = 0)) && decide (s.size ≤ 40) && decide (kindF s = 1))) ∧ Below w.heap.size w w' := by
  show Calls Tryz.prog 97 #[_, .agg #[_, _, _, _, _, _, _, _]] w _
  have HB0 : Hid (Below w.heap.size w (w.alloc (gkO ⟨1, s, n, d, x4, x5, x6, x7⟩ dv))) := Lib.hid ((Below.refl _ _).alloc (Nat.le_refl _) _)
  have KW : Hid (∀ X, Below w.heap.size w X → (Calls Tryz.prog 142 #[.agg #[.bool n, dv]] X fun e w' => e = .returned (.bool (!n && decide (d.length = 0))) ∧ Below X.heap.size X w')) := Lib.hid (fun X hX => c142g n dv d X (h.below hX))
  have HC := Lib.hid (fun X (hX : Below w.heap.size w X) => c27 H24 s X (hT.below hX))
  obtain ⟨a, cap, rfl, _⟩ := h
  obtain ⟨nn, hnn⟩ : ∃ nn, (!n && decide (d.length = 0)) = nn := ⟨_, rfl⟩
  rw [hnn] at KW ⊢
  clear hnn hT
  rcases nn with _ | _
  · simp only [Bool.false_and]
    go_enter Tryz.func97, Tryz.ntmps97
    go_wp2_with (go_at_call 142; ((with_reducible refine (KW.out _ HB0.out).mono ?_); rintro e w1 ⟨rfl, hbb⟩; have hb1 := HB0.out.trans (hbb.mono HB0.out.size); have HB1 := Lib.hid hb1; clear hb1 hbb))
    go_ret
    exact ⟨rfl, HB1.out⟩
  · simp only [Bool.true_and]
    by_cases hs : s.size ≤ 40
    · have hs' : (s.size : Int) ≤ 40 := by omega
      have hs2 : ((s.size : Int) ≤ 40) = True := by simp [hs']
      obtain ⟨kd, hkd⟩ : ∃ kd, kindF s = kd := ⟨_, rfl⟩
      rw [hkd] at HC ⊢
      rw [decide_eq_true hs]
      simp only [Bool.true_and]
      clear hs hkd hs2
      by_cases hk : kd = 1
      · subst hk
        go_enter Tryz.func97, Tryz.ntmps97
        go_wp2_with (first | (go_at_call 142; ((with_reducible refine (KW.out _ HB0.out).mono ?_); rintro e w1 ⟨rfl, hbb⟩; have k1 := one_blk w _ 41 hbb 1 _ rfl; have hb1 := HB0.out.trans (hbb.mono HB0.out.size); have HB1 := Lib.hid hb1; clear hb1 hbb)) | (go_at_call 27; ((with_reducible refine (HC.out _ HB1.out).mono ?_); rintro e w2 ⟨rfl, hb⟩; have HB2 := Lib.hid hb; clear hb)))
        go_ret
        exact ⟨rfl, HB1.out.trans (HB2.out.mono HB1.out.size)⟩
      · have hk2 : (kd == 1) = false := by simpa using hk
        rw [decide_eq_false hk]
        clear hk
        go_enter Tryz.func97, Tryz.ntmps97
        go_wp2_with (first | (go_at_call 142; ((with_reducible refine (KW.out _ HB0.out).mono ?_); rintro e w1 ⟨rfl, hbb⟩; have k1 := one_blk w _ 41 hbb 1 _ rfl; have hb1 := HB0.out.trans (hbb.mono HB0.out.size); have HB1 := Lib.hid hb1; clear hb1 hbb)) | (go_at_call 27; ((with_reducible refine (HC.out _ HB1.out).mono ?_); rintro e w2 ⟨rfl, hb⟩; have HB2 := Lib.hid hb; clear hb)))
        go_ret
        exact ⟨rfl, HB1.out.trans (HB2.out.mono HB1.out.size)⟩
    · have hs' : ¬ (s.size : Int) ≤ 40 := by omega
      rw [decide_eq_false hs]
      simp only [Bool.false_and]
      clear hs HC
      go_enter Tryz.func97, Tryz.ntmps97
      go_wp2_with (go_at_call 142; ((with_reducible refine (KW.out _ HB0.out).mono ?_); rintro e w1 ⟨rfl, hbb⟩; have k1 := one_blk w _ 41 hbb 1 _ rfl; have hb1 := HB0.out.trans (hbb.mono HB0.out.size); have HB1 := Lib.hid hb1; clear hb1 hbb))
      go_ret
      exact ⟨rfl, HB1.out⟩
set_option maxRecDepth 100000 in
set_option maxHeartbeats 3200000 in
theorem c97g3 (p : Nat) (s : ByteArray) (n : Bool) (d : List Int) (x4 x5 x6 x7 : Int) (dv : Value) (w : World) (h : IntsG w dv d) :
    Calls Tryz.prog 97 #[.pointer (some ⟨p, 0, none⟩), gkV ⟨3, s, n, d, x4, x5, x6, x7⟩ dv] w fun e w' => e = .returned (.bool ((!n && decide (d.length = 0)) && decide (s.size ≤ 200) && s.data.toList.all okB)) ∧ Below w.heap.size w w' := by
  show Calls Tryz.prog 97 #[_, .agg #[_, _, _, _, _, _, _, _]] w _
  have HB0 : Hid (Below w.heap.size w (w.alloc (gkO ⟨3, s, n, d, x4, x5, x6, x7⟩ dv))) := Lib.hid ((Below.refl _ _).alloc (Nat.le_refl _) _)
  have KW : Hid (∀ X, Below w.heap.size w X → (Calls Tryz.prog 142 #[.agg #[.bool n, dv]] X fun e w' => e = .returned (.bool (!n && decide (d.length = 0))) ∧ Below X.heap.size X w')) := Lib.hid (fun X hX => c142g n dv d X (h.below hX))
  have HC := Lib.hid (fun X => c143g s X)
  obtain ⟨a, cap, rfl, _⟩ := h
  obtain ⟨nn, hnn⟩ : ∃ nn, (!n && decide (d.length = 0)) = nn := ⟨_, rfl⟩
  rw [hnn] at KW ⊢
  clear hnn
  obtain ⟨bb, hbb⟩ : ∃ bb, s.data.toList.all okB = bb := ⟨_, rfl⟩
  rw [hbb] at HC ⊢
  clear hbb
  rcases nn with _ | _
  · simp only [Bool.false_and]
    go_enter Tryz.func97, Tryz.ntmps97
    go_wp2_with (go_at_call 142; ((with_reducible refine (KW.out _ HB0.out).mono ?_); rintro e w1 ⟨rfl, hbb⟩; have hb1 := HB0.out.trans (hbb.mono HB0.out.size); have HB1 := Lib.hid hb1; clear hb1 hbb))
    go_ret
    exact ⟨rfl, HB1.out⟩
  · simp only [Bool.true_and]
    by_cases hs : s.size ≤ 200
    · have hs' : (s.size : Int) ≤ 200 := by omega
      rw [decide_eq_true hs]
      simp only [Bool.true_and]
      clear hs
      rcases bb with _ | _
      all_goals
        simp only [Bool.not_false, Bool.not_true] at HC
        go_enter Tryz.func97, Tryz.ntmps97
        go_wp2_with (first | (go_at_call 142; ((with_reducible refine (KW.out _ HB0.out).mono ?_); rintro e w1 ⟨rfl, hbb⟩; have k1 := one_blk w _ 41 hbb 1 _ rfl; have hb1 := HB0.out.trans (hbb.mono HB0.out.size); have HB1 := Lib.hid hb1; clear hb1 hbb)) | (go_at_call 143; ((with_reducible refine (HC.out _).mono ?_); rintro e w2 ⟨rfl, hb⟩; have HB2 := Lib.hid hb; clear hb)))
        go_ret
        exact ⟨rfl, HB1.out.trans (HB2.out.mono HB1.out.size)⟩
    · have hs' : ¬ (s.size : Int) ≤ 200 := by omega
      rw [decide_eq_false hs]
      simp only [Bool.false_and]
      clear hs HC
      go_enter Tryz.func97, Tryz.ntmps97
      go_wp2_with (go_at_call 142; ((with_reducible refine (KW.out _ HB0.out).mono ?_); rintro e w1 ⟨rfl, hbb⟩; have k1 := one_blk w _ 41 hbb 1 _ rfl; have hb1 := HB0.out.trans (hbb.mono HB0.out.size); have HB1 := Lib.hid hb1; clear hb1 hbb))
      go_ret
      exact ⟨rfl, HB1.out⟩
set_option maxRecDepth 100000 in
set_option maxHeartbeats 3200000 in
theorem c97g67 (p : Nat) (k : Int) (hk : k = 6 ∨ k = 7) (s : ByteArray) (n : Bool) (d : List Int) (x4 x5 x6 x7 : Int) (dv : Value) (w : World) (h : IntsG w dv d) :
    Calls Tryz.prog 97 #[.pointer (some ⟨p, 0, none⟩), gkV ⟨k, s, n, d, x4, x5, x6, x7⟩ dv] w fun e w' => e = .returned (.bool ((!n && decide (d.length = 0)) && decide (s = ByteArray.empty))) ∧ Below w.heap.size w w' := by
  show Calls Tryz.prog 97 #[_, .agg #[_, _, _, _, _, _, _, _]] w _
  have HB0 : Hid (Below w.heap.size w (w.alloc (gkO ⟨k, s, n, d, x4, x5, x6, x7⟩ dv))) := Lib.hid ((Below.refl _ _).alloc (Nat.le_refl _) _)
  have KW : Hid (∀ X, Below w.heap.size w X → (Calls Tryz.prog 142 #[.agg #[.bool n, dv]] X fun e w' => e = .returned (.bool (!n && decide (d.length = 0))) ∧ Below X.heap.size X w')) := Lib.hid (fun X hX => c142g n dv d X (h.below hX))
  obtain ⟨a, cap, rfl, _⟩ := h
  obtain ⟨nn, hnn⟩ : ∃ nn, (!n && decide (d.length = 0)) = nn := ⟨_, rfl⟩
  rw [hnn] at KW ⊢
  clear hnn
  rcases nn with _ | _
  · simp only [Bool.false_and]
    rcases hk with rfl | rfl
    all_goals
      go_enter Tryz.func97, Tryz.ntmps97
      go_wp2_with (go_at_call 142; ((with_reducible refine (KW.out _ HB0.out).mono ?_); rintro e w1 ⟨rfl, hbb⟩; have hb1 := HB0.out.trans (hbb.mono HB0.out.size); have HB1 := Lib.hid hb1; clear hb1 hbb))
      go_ret
      exact ⟨rfl, HB1.out⟩
  · simp only [Bool.true_and]
    by_cases he : s = ByteArray.empty
    · subst he
      rw [decide_eq_true rfl]
      rcases hk with rfl | rfl
      all_goals
        go_enter Tryz.func97, Tryz.ntmps97
        go_wp2_with (go_at_call 142; ((with_reducible refine (KW.out _ HB0.out).mono ?_); rintro e w1 ⟨rfl, hbb⟩; have k1 := one_blk w _ 41 hbb 1 _ rfl; have hb1 := HB0.out.trans (hbb.mono HB0.out.size); have HB1 := Lib.hid hb1; clear hb1 hbb))
        go_ret
        exact ⟨rfl, HB1.out⟩
    · rw [decide_eq_false he]
      have hne : ¬ s.toList = [] := ba_nonempty he
      have hne2 : s.toList.isEmpty = false := by simpa using hne
      have hne3 : (s.toList == []) = false := by simpa using hne
      clear he
      rcases hk with rfl | rfl
      all_goals
        go_enter Tryz.func97, Tryz.ntmps97
        go_wp2_with (go_at_call 142; ((with_reducible refine (KW.out _ HB0.out).mono ?_); rintro e w1 ⟨rfl, hbb⟩; have k1 := one_blk w _ 41 hbb 1 _ rfl; have hb1 := HB0.out.trans (hbb.mono HB0.out.size); have HB1 := Lib.hid hb1; clear hb1 hbb))
        go_ret
        exact ⟨rfl, HB1.out⟩
set_option maxRecDepth 100000 in
set_option maxHeartbeats 3200000 in
theorem c97g0 (p : Nat) (k : Int) (h1 : k ≠ 1) (h2 : k ≠ 2) (h3 : k ≠ 3) (h4 : k ≠ 4) (h5 : k ≠ 5) (h6 : k ≠ 6) (h7 : k ≠ 7) (s : ByteArray) (n : Bool) (x4 x5 x6 x7 : Int) (d : List Int) (dv : Value) (w : World) :
    Calls Tryz.prog 97 #[.pointer (some ⟨p, 0, none⟩), gkV ⟨k, s, n, d, x4, x5, x6, x7⟩ dv] w fun e w' => e = .returned (.bool false) ∧ Below w.heap.size w w' := by
  show Calls Tryz.prog 97 #[_, .agg #[_, _, _, _, _, _, _, _]] w _
  have HB0 : Hid (Below w.heap.size w (w.alloc (gkO ⟨k, s, n, d, x4, x5, x6, x7⟩ dv))) := Lib.hid ((Below.refl _ _).alloc (Nat.le_refl _) _)
  have e1 : (k == 1) = false := by simpa using h1
  have e2 : (k == 2) = false := by simpa using h2
  have e3 : (k == 3) = false := by simpa using h3
  have e4 : (k == 4) = false := by simpa using h4
  have e5 : (k == 5) = false := by simpa using h5
  have e6 : (k == 6) = false := by simpa using h6
  have e7 : (k == 7) = false := by simpa using h7
  clear h1 h2 h3 h4 h5 h6 h7
  go_enter Tryz.func97, Tryz.ntmps97
  go_wp2
  go_ret
  exact ⟨rfl, HB0.out⟩
end Go.Proofs.YtagcfgoofiibfaaGreatDoor
set_option linter.unusedVariables false
set_option linter.unusedSimpArgs false
namespace Go.Proofs.YtagcfgoofiibfaaGreatDoor
open Go Go.RowKit
set_option maxRecDepth 100000 in
set_option maxHeartbeats 3200000 in
theorem c97g4 (p : Nat) (s : ByteArray) (n : Bool) (d : List Int) (x4 x5 x6 x7 : Int) (dv : Value) (w : World) (hp : TabAt w.heap.size p w) (hsz : s.size ≤ maxLen) (h : IntsG w dv d) :
    Calls Tryz.prog 97 #[.pointer (some ⟨p, 0, none⟩), gkV ⟨4, s, n, d, x4, x5, x6, x7⟩ dv] w fun e w' => e = .returned (.bool ((!n && decide (d.length = 0)) && isWord s)) ∧ Below w.heap.size w w' := by
  show Calls Tryz.prog 97 #[_, .agg #[_, _, _, _, _, _, _, _]] w _
  have KW : Hid (∀ X, Below w.heap.size w X → (Calls Tryz.prog 142 #[.agg #[.bool n, dv]] X fun e w' => e = .returned (.bool (!n && decide (d.length = 0))) ∧ Below X.heap.size X w')) := Lib.hid (fun X hX => c142g n dv d X (h.below hX))
  obtain ⟨a, cap, rfl, _⟩ := h
  obtain ⟨cb, wb, hok⟩ := hp.ok
  obtain ⟨nn, hnn⟩ : ∃ nn, (!n && decide (d.length = 0)) = nn := ⟨_, rfl⟩
  rw [hnn] at KW ⊢
  clear hnn
  obtain ⟨bw, hbw⟩ : ∃ bw, isWord s = bw := ⟨_, rfl⟩
  have KS : Hid (∀ X, Below (w.heap.size + 1) (w.alloc (.cells #[.int .i64 4, .string s, .bool n, .slice a d.length cap, .int .i64 x4, .int .i64 x5, .int .i64 x6, .int .i64 x7] 41 (0, 0))) X → (fun W : World => W.cell? ⟨w.heap.size, 1, none⟩ = some (.string s) ∧ W.cell? ⟨w.heap.size, 2, none⟩ = some (.bool n) ∧ W.cell? ⟨w.heap.size, 3, none⟩ = some (.slice a d.length cap) ∧ W.cell? ⟨p, 1, none⟩ = some (.map (some wb)) ∧ (Instr.lookup 104 (.map (some wb)) (.string s) false).run Tryz.prog W = .ok (.bool bw) W) X) := Lib.hid (fun X hX => by
    have b1 : X.heap[w.heap.size]? = some (.cells #[.int .i64 4, .string s, .bool n, .slice a d.length cap, .int .i64 x4, .int .i64 x5, .int .i64 x6, .int .i64 x7] 41 (0, 0)) := (hX.block _ (by omega)).trans (blk_new _ _ rfl _)
    have hBX : Below w.heap.size w X := ((Below.refl _ _).alloc (Nat.le_refl _) _).trans (hX.mono (by omega))
    have ok := hok X hBX
    have l1 := ok.l1 s hsz
    rw [hbw] at l1
    exact ⟨by rw [cell_of_row _ _ _ _ _ _ b1]; rfl, by rw [cell_of_row _ _ _ _ _ _ b1]; rfl, by rw [cell_of_row _ _ _ _ _ _ b1]; rfl, ok.k1, l1⟩)
  have HB0 : Hid (Below (w.heap.size + 1) (w.alloc (.cells #[.int .i64 4, .string s, .bool n, .slice a d.length cap, .int .i64 x4, .int .i64 x5, .int .i64 x6, .int .i64 x7] 41 (0, 0))) (w.alloc (.cells #[.int .i64 4, .string s, .bool n, .slice a d.length cap, .int .i64 x4, .int .i64 x5, .int .i64 x6, .int .i64 x7] 41 (0, 0)))) := Lib.hid (Below.refl _ _)
  have HW0 : Hid (Below w.heap.size w (w.alloc (.cells #[.int .i64 4, .string s, .bool n, .slice a d.length cap, .int .i64 x4, .int .i64 x5, .int .i64 x6, .int .i64 x7] 41 (0, 0)))) := Lib.hid ((Below.refl _ _).alloc (Nat.le_refl _) _)
  rw [hbw]
  clear hok hp hsz hbw
  rcases nn with _ | _
  · rw [Bool.false_and]
    go_enter Tryz.func97, Tryz.ntmps97
    go_wp2
    refine wp_region_held_drew (S := (fun W : World => W.cell? ⟨w.heap.size, 1, none⟩ = some (.string s) ∧ W.cell? ⟨w.heap.size, 2, none⟩ = some (.bool n) ∧ W.cell? ⟨w.heap.size, 3, none⟩ = some (.slice a d.length cap) ∧ W.cell? ⟨p, 1, none⟩ = some (.map (some wb)) ∧ (Instr.lookup 104 (.map (some wb)) (.string s) false).run Tryz.prog W = .ok (.bool bw) W)) (by kernel_rfl) (KS.out _ HB0.out.drew) (fun hS => ?_)
    refine takeD (i := 0) (d := 60) (v := _) rfl (by rfl) (by kernel_rfl) (by kernel_rfl) (by kernel_rfl) (fun _ _ _ h => h) (Or.inl ⟨by rfl, by (intro w hSw; obtain ⟨q0, q1, q2, q3, q4⟩ := hSw; go_simp; try with_reducible rfl)⟩) hS ?_
    simp only [List.setIfInBounds_toArray, List.set_cons_zero, List.set_cons_succ]
    refine takeD (i := 1) (d := 61) (v := _) rfl (by rfl) (by kernel_rfl) (by kernel_rfl) (by kernel_rfl) (fun _ _ _ h => h) (Or.inl ⟨by rfl, by (intro w hSw; obtain ⟨q0, q1, q2, q3, q4⟩ := hSw; go_simp; try with_reducible rfl)⟩) hS ?_
    simp only [List.setIfInBounds_toArray, List.set_cons_zero, List.set_cons_succ]
    refine wpAnyH_ready (rs := [2]) (by kernel_rfl) (by simp) (AllReadyH.cons rfl (fun K hK => ?_) AllReadyH.nil)
    go_simp
    (go_at_call 142; ((with_reducible refine (KW.out _ (by first | exact HW0.out.trans (HB0.out.mono (by omega)) | exact HW0.out.trans (HB0.out.drew.mono (by omega)))).mono ?_); rintro e w6 ⟨rfl, hbb⟩; replace HB0 : Hid (Below (w.heap.size + 1) (w.alloc (.cells #[.int .i64 4, .string s, .bool n, .slice a d.length cap, .int .i64 x4, .int .i64 x5, .int .i64 x6, .int .i64 x7] 41 (0, 0))) w6) := Lib.hid (by first | exact HB0.out.trans (hbb.mono (by have := HB0.out.size; simp at this ⊢ <;> omega)) | exact HB0.out.drew.trans (hbb.mono (by have := HB0.out.size; simp at this ⊢ <;> omega))); clear hbb))
    refine hK.out _ _ (KS.out _ HB0.out) (fun hS => ?_)
    clear hK K
    try simp only [Act.put, List.setIfInBounds_toArray, List.set_cons_zero, List.set_cons_succ]
    refine takeD (i := 3) (d := 63) (v := _) rfl (by rfl) (by kernel_rfl) (by kernel_rfl) (by kernel_rfl) (fun _ _ _ h => h) (Or.inl ⟨by rfl, by (intro w hSw; obtain ⟨q0, q1, q2, q3, q4⟩ := hSw; go_simp; try with_reducible rfl)⟩) hS ?_
    simp only [List.setIfInBounds_toArray, List.set_cons_zero, List.set_cons_succ]
    refine takeD (i := 4) (d := 64) (v := undef) rfl (by rfl) (by kernel_rfl) (by kernel_rfl) (by kernel_rfl) (fun _ _ _ h => h) (Or.inr ⟨by rfl, rfl⟩) hS ?_
    simp only [List.setIfInBounds_toArray, List.set_cons_zero, List.set_cons_succ]
    refine takeD (i := 5) (d := 65) (v := undef) rfl (by rfl) (by kernel_rfl) (by kernel_rfl) (by kernel_rfl) (fun _ _ _ h => h) (Or.inr ⟨by rfl, rfl⟩) hS ?_
    simp only [List.setIfInBounds_toArray, List.set_cons_zero, List.set_cons_succ]
    refine takeD (i := 6) (d := 66) (v := undef) rfl (by rfl) (by kernel_rfl) (by kernel_rfl) (by kernel_rfl) (fun _ _ _ h => h) (Or.inr ⟨by rfl, rfl⟩) hS ?_
    simp only [List.setIfInBounds_toArray, List.set_cons_zero, List.set_cons_succ]
    refine takeD (i := 7) (d := 67) (v := undef) rfl (by rfl) (by kernel_rfl) (by kernel_rfl) (by kernel_rfl) (fun _ _ _ h => h) (Or.inr ⟨by rfl, rfl⟩) hS ?_
    simp only [List.setIfInBounds_toArray, List.set_cons_zero, List.set_cons_succ]
    refine takeD (i := 8) (d := 68) (v := undef) rfl (by rfl) (by kernel_rfl) (by kernel_rfl) (by kernel_rfl) (fun _ _ _ h => h) (Or.inr ⟨by rfl, rfl⟩) hS ?_
    simp only [List.setIfInBounds_toArray, List.set_cons_zero, List.set_cons_succ]
    refine takeD (i := 9) (d := 69) (v := undef) rfl (by rfl) (by kernel_rfl) (by kernel_rfl) (by kernel_rfl) (fun _ _ _ h => h) (Or.inr ⟨by rfl, rfl⟩) hS ?_
    simp only [List.setIfInBounds_toArray, List.set_cons_zero, List.set_cons_succ]
    refine takeD (i := 10) (d := 70) (v := undef) rfl (by rfl) (by kernel_rfl) (by kernel_rfl) (by kernel_rfl) (fun _ _ _ h => h) (Or.inr ⟨by rfl, rfl⟩) hS ?_
    simp only [List.setIfInBounds_toArray, List.set_cons_zero, List.set_cons_succ]
    refine takeD (i := 11) (d := 71) (v := _) rfl (by rfl) (by kernel_rfl) (by kernel_rfl) (by kernel_rfl) (fun _ _ _ h => h) (Or.inl ⟨by rfl, by (intro w hSw; obtain ⟨q0, q1, q2, q3, q4⟩ := hSw; go_simp; try with_reducible rfl)⟩) hS ?_
    simp only [List.setIfInBounds_toArray, List.set_cons_zero, List.set_cons_succ]
    refine takeD (i := 12) (d := 4) (v := _) rfl (by rfl) (by kernel_rfl) (by kernel_rfl) (by kernel_rfl) (fun _ _ _ h => h) (Or.inl ⟨by rfl, by (intro w hSw; obtain ⟨q0, q1, q2, q3, q4⟩ := hSw; go_simp; try with_reducible rfl)⟩) hS ?_
    simp only [List.setIfInBounds_toArray, List.set_cons_zero, List.set_cons_succ]
    refine wpAnyH_done (by kernel_rfl) ?_ _
    go_wp2
    go_ret
    exact ⟨rfl, HW0.out.trans (HB0.out.mono (by omega))⟩
  · rw [Bool.true_and]
    go_enter Tryz.func97, Tryz.ntmps97
    go_wp2
    refine wp_region_held_drew (S := (fun W : World => W.cell? ⟨w.heap.size, 1, none⟩ = some (.string s) ∧ W.cell? ⟨w.heap.size, 2, none⟩ = some (.bool n) ∧ W.cell? ⟨w.heap.size, 3, none⟩ = some (.slice a d.length cap) ∧ W.cell? ⟨p, 1, none⟩ = some (.map (some wb)) ∧ (Instr.lookup 104 (.map (some wb)) (.string s) false).run Tryz.prog W = .ok (.bool bw) W)) (by kernel_rfl) (KS.out _ HB0.out.drew) (fun hS => ?_)
    refine takeD (i := 0) (d := 60) (v := _) rfl (by rfl) (by kernel_rfl) (by kernel_rfl) (by kernel_rfl) (fun _ _ _ h => h) (Or.inl ⟨by rfl, by (intro w hSw; obtain ⟨q0, q1, q2, q3, q4⟩ := hSw; go_simp; try with_reducible rfl)⟩) hS ?_
    simp only [List.setIfInBounds_toArray, List.set_cons_zero, List.set_cons_succ]
    refine takeD (i := 1) (d := 61) (v := _) rfl (by rfl) (by kernel_rfl) (by kernel_rfl) (by kernel_rfl) (fun _ _ _ h => h) (Or.inl ⟨by rfl, by (intro w hSw; obtain ⟨q0, q1, q2, q3, q4⟩ := hSw; go_simp; try with_reducible rfl)⟩) hS ?_
    simp only [List.setIfInBounds_toArray, List.set_cons_zero, List.set_cons_succ]
    refine wpAnyH_ready (rs := [2]) (by kernel_rfl) (by simp) (AllReadyH.cons rfl (fun K hK => ?_) AllReadyH.nil)
    go_simp
    (go_at_call 142; ((with_reducible refine (KW.out _ (by first | exact HW0.out.trans (HB0.out.mono (by omega)) | exact HW0.out.trans (HB0.out.drew.mono (by omega)))).mono ?_); rintro e w6 ⟨rfl, hbb⟩; replace HB0 : Hid (Below (w.heap.size + 1) (w.alloc (.cells #[.int .i64 4, .string s, .bool n, .slice a d.length cap, .int .i64 x4, .int .i64 x5, .int .i64 x6, .int .i64 x7] 41 (0, 0))) w6) := Lib.hid (by first | exact HB0.out.trans (hbb.mono (by have := HB0.out.size; simp at this ⊢ <;> omega)) | exact HB0.out.drew.trans (hbb.mono (by have := HB0.out.size; simp at this ⊢ <;> omega))); clear hbb))
    refine hK.out _ _ (KS.out _ HB0.out) (fun hS => ?_)
    clear hK K
    try simp only [Act.put, List.setIfInBounds_toArray, List.set_cons_zero, List.set_cons_succ]
    refine takeD (i := 3) (d := 63) (v := _) rfl (by rfl) (by kernel_rfl) (by kernel_rfl) (by kernel_rfl) (fun _ _ _ h => h) (Or.inl ⟨by rfl, by (intro w hSw; obtain ⟨q0, q1, q2, q3, q4⟩ := hSw; go_simp; try with_reducible rfl)⟩) hS ?_
    simp only [List.setIfInBounds_toArray, List.set_cons_zero, List.set_cons_succ]
    refine takeD (i := 4) (d := 64) (v := _) rfl (by rfl) (by kernel_rfl) (by kernel_rfl) (by kernel_rfl) (fun _ _ _ h => h) (Or.inl ⟨by rfl, by (intro w hSw; obtain ⟨q0, q1, q2, q3, q4⟩ := hSw; go_simp; try with_reducible rfl)⟩) hS ?_
    simp only [List.setIfInBounds_toArray, List.set_cons_zero, List.set_cons_succ]
    refine takeD (i := 5) (d := 65) (v := _) rfl (by rfl) (by kernel_rfl) (by kernel_rfl) (by kernel_rfl) (fun _ _ _ h => h) (Or.inl ⟨by rfl, by (intro w hSw; obtain ⟨q0, q1, q2, q3, q4⟩ := hSw; go_simp; try with_reducible rfl)⟩) hS ?_
    simp only [List.setIfInBounds_toArray, List.set_cons_zero, List.set_cons_succ]
    refine takeD (i := 6) (d := 66) (v := _) rfl (by rfl) (by kernel_rfl) (by kernel_rfl) (by kernel_rfl) (fun _ _ _ h => h) (Or.inl ⟨by rfl, by (intro w hSw; obtain ⟨q0, q1, q2, q3, q4⟩ := hSw; go_simp; try with_reducible rfl)⟩) hS ?_
    simp only [List.setIfInBounds_toArray, List.set_cons_zero, List.set_cons_succ]
    refine takeD (i := 7) (d := 67) (v := _) rfl (by rfl) (by kernel_rfl) (by kernel_rfl) (by kernel_rfl) (fun _ _ _ h => h) (Or.inl ⟨by rfl, by (intro w hSw; obtain ⟨q0, q1, q2, q3, q4⟩ := hSw; go_simp; try with_reducible rfl)⟩) hS ?_
    simp only [List.setIfInBounds_toArray, List.set_cons_zero, List.set_cons_succ]
    refine takeD (i := 8) (d := 68) (v := _) rfl (by rfl) (by kernel_rfl) (by kernel_rfl) (by kernel_rfl) (fun _ _ _ h => h) (Or.inl ⟨by rfl, by (intro w hSw; obtain ⟨q0, q1, q2, q3, q4⟩ := hSw; go_simp; try with_reducible rfl)⟩) hS ?_
    simp only [List.setIfInBounds_toArray, List.set_cons_zero, List.set_cons_succ]
    refine takeD (i := 9) (d := 69) (v := _) rfl (by rfl) (by kernel_rfl) (by kernel_rfl) (by kernel_rfl) (fun _ _ _ h => h) (Or.inl ⟨by rfl, by (intro w hSw; obtain ⟨q0, q1, q2, q3, q4⟩ := hSw; go_simp; try with_reducible rfl)⟩) hS ?_
    simp only [List.setIfInBounds_toArray, List.set_cons_zero, List.set_cons_succ]
    refine takeD (i := 10) (d := 70) (v := _) rfl (by rfl) (by kernel_rfl) (by kernel_rfl) (by kernel_rfl) (fun _ _ _ h => h) (Or.inl ⟨by rfl, by (intro w hSw; obtain ⟨q0, q1, q2, q3, q4⟩ := hSw; go_simp; try with_reducible rfl)⟩) hS ?_
    simp only [List.setIfInBounds_toArray, List.set_cons_zero, List.set_cons_succ]
    refine takeD (i := 11) (d := 71) (v := _) rfl (by rfl) (by kernel_rfl) (by kernel_rfl) (by kernel_rfl) (fun _ _ _ h => h) (Or.inl ⟨by rfl, by (intro w hSw; obtain ⟨q0, q1, q2, q3, q4⟩ := hSw; go_simp; try with_reducible rfl)⟩) hS ?_
    simp only [List.setIfInBounds_toArray, List.set_cons_zero, List.set_cons_succ]
    refine takeD (i := 12) (d := 4) (v := _) rfl (by rfl) (by kernel_rfl) (by kernel_rfl) (by kernel_rfl) (fun _ _ _ h => h) (Or.inl ⟨by rfl, by (intro w hSw; obtain ⟨q0, q1, q2, q3, q4⟩ := hSw; go_simp; try with_reducible rfl)⟩) hS ?_
    simp only [List.setIfInBounds_toArray, List.set_cons_zero, List.set_cons_succ]
    refine wpAnyH_done (by kernel_rfl) ?_ _
    go_wp2
    go_ret
    exact ⟨rfl, HW0.out.trans (HB0.out.mono (by omega))⟩
set_option maxRecDepth 100000 in
set_option maxHeartbeats 3200000 in
theorem c97g5 (p : Nat) (s : ByteArray) (n : Bool) (d : List Int) (x4 x5 x6 x7 : Int) (dv : Value) (w : World) (hp : TabAt w.heap.size p w) (hsz : s.size ≤ maxLen) (h : IntsG w dv d) :
    Calls Tryz.prog 97 #[.pointer (some ⟨p, 0, none⟩), gkV ⟨5, s, n, d, x4, x5, x6, x7⟩ dv] w fun e w' => e = .returned (.bool ((!n && decide (d.length = 0)) && decide (s ≠ ByteArray.empty) && decide (canonOf s = some s))) ∧ Below w.heap.size w w' := by
  show Calls Tryz.prog 97 #[_, .agg #[_, _, _, _, _, _, _, _]] w _
  have KW : Hid (∀ X, Below w.heap.size w X → (Calls Tryz.prog 142 #[.agg #[.bool n, dv]] X fun e w' => e = .returned (.bool (!n && decide (d.length = 0))) ∧ Below X.heap.size X w')) := Lib.hid (fun X hX => c142g n dv d X (h.below hX))
  obtain ⟨a, cap, rfl, _⟩ := h
  obtain ⟨cb, wb, hok⟩ := hp.ok
  obtain ⟨nn, hnn⟩ : ∃ nn, (!n && decide (d.length = 0)) = nn := ⟨_, rfl⟩
  rw [hnn] at KW ⊢
  clear hnn
  obtain ⟨V, hV⟩ : ∃ V, (canonOf s).getD ByteArray.empty = V := ⟨_, rfl⟩
  have KS : Hid (∀ X, Below (w.heap.size + 1) (w.alloc (.cells #[.int .i64 5, .string s, .bool n, .slice a d.length cap, .int .i64 x4, .int .i64 x5, .int .i64 x6, .int .i64 x7] 41 (0, 0))) X → (fun W : World => W.cell? ⟨w.heap.size, 1, none⟩ = some (.string s) ∧ W.cell? ⟨w.heap.size, 2, none⟩ = some (.bool n) ∧ W.cell? ⟨w.heap.size, 3, none⟩ = some (.slice a d.length cap) ∧ W.cell? ⟨p, 0, none⟩ = some (.map (some cb)) ∧ (Instr.lookup 103 (.map (some cb)) (.string s) false).run Tryz.prog W = .ok (.string V) W) X) := Lib.hid (fun X hX => by
    have b1 : X.heap[w.heap.size]? = some (.cells #[.int .i64 5, .string s, .bool n, .slice a d.length cap, .int .i64 x4, .int .i64 x5, .int .i64 x6, .int .i64 x7] 41 (0, 0)) := (hX.block _ (by omega)).trans (blk_new _ _ rfl _)
    have hBX : Below w.heap.size w X := ((Below.refl _ _).alloc (Nat.le_refl _) _).trans (hX.mono (by omega))
    have ok := hok X hBX
    have l1 := ok.l3 s hsz
    rw [hV] at l1
    exact ⟨by rw [cell_of_row _ _ _ _ _ _ b1]; rfl, by rw [cell_of_row _ _ _ _ _ _ b1]; rfl, by rw [cell_of_row _ _ _ _ _ _ b1]; rfl, ok.k0, l1⟩)
  have HB0 : Hid (Below (w.heap.size + 1) (w.alloc (.cells #[.int .i64 5, .string s, .bool n, .slice a d.length cap, .int .i64 x4, .int .i64 x5, .int .i64 x6, .int .i64 x7] 41 (0, 0))) (w.alloc (.cells #[.int .i64 5, .string s, .bool n, .slice a d.length cap, .int .i64 x4, .int .i64 x5, .int .i64 x6, .int .i64 x7] 41 (0, 0)))) := Lib.hid (Below.refl _ _)
  have HW0 : Hid (Below w.heap.size w (w.alloc (.cells #[.int .i64 5, .string s, .bool n, .slice a d.length cap, .int .i64 x4, .int .i64 x5, .int .i64 x6, .int .i64 x7] 41 (0, 0)))) := Lib.hid ((Below.refl _ _).alloc (Nat.le_refl _) _)
  clear hok hp hsz
  rcases nn with _ | _
  · rw [Bool.false_and, Bool.false_and]
    clear hV
    go_enter Tryz.func97, Tryz.ntmps97
    go_wp2
    refine wp_region_held_drew (S := (fun W : World => W.cell? ⟨w.heap.size, 1, none⟩ = some (.string s) ∧ W.cell? ⟨w.heap.size, 2, none⟩ = some (.bool n) ∧ W.cell? ⟨w.heap.size, 3, none⟩ = some (.slice a d.length cap) ∧ W.cell? ⟨p, 0, none⟩ = some (.map (some cb)) ∧ (Instr.lookup 103 (.map (some cb)) (.string s) false).run Tryz.prog W = .ok (.string V) W)) (by kernel_rfl) (KS.out _ HB0.out.drew) (fun hS => ?_)
    refine takeD (i := 0) (d := 74) (v := _) rfl (by rfl) (by kernel_rfl) (by kernel_rfl) (by kernel_rfl) (fun _ _ _ h => h) (Or.inl ⟨by rfl, by (intro w hSw; obtain ⟨q0, q1, q2, q3, q4⟩ := hSw; go_simp; try with_reducible rfl)⟩) hS ?_
    simp only [List.setIfInBounds_toArray, List.set_cons_zero, List.set_cons_succ]
    refine takeD (i := 1) (d := 75) (v := _) rfl (by rfl) (by kernel_rfl) (by kernel_rfl) (by kernel_rfl) (fun _ _ _ h => h) (Or.inl ⟨by rfl, by (intro w hSw; obtain ⟨q0, q1, q2, q3, q4⟩ := hSw; go_simp; try with_reducible rfl)⟩) hS ?_
    simp only [List.setIfInBounds_toArray, List.set_cons_zero, List.set_cons_succ]
    refine wpAnyH_ready (rs := [2]) (by kernel_rfl) (by simp) (AllReadyH.cons rfl (fun K hK => ?_) AllReadyH.nil)
    go_simp
    (go_at_call 142; ((with_reducible refine (KW.out _ (by first | exact HW0.out.trans (HB0.out.mono (by omega)) | exact HW0.out.trans (HB0.out.drew.mono (by omega)))).mono ?_); rintro e w6 ⟨rfl, hbb⟩; replace HB0 : Hid (Below (w.heap.size + 1) (w.alloc (.cells #[.int .i64 5, .string s, .bool n, .slice a d.length cap, .int .i64 x4, .int .i64 x5, .int .i64 x6, .int .i64 x7] 41 (0, 0))) w6) := Lib.hid (by first | exact HB0.out.trans (hbb.mono (by have := HB0.out.size; simp at this ⊢ <;> omega)) | exact HB0.out.drew.trans (hbb.mono (by have := HB0.out.size; simp at this ⊢ <;> omega))); clear hbb))
    refine hK.out _ _ (KS.out _ HB0.out) (fun hS => ?_)
    clear hK K
    try simp only [Act.put, List.setIfInBounds_toArray, List.set_cons_zero, List.set_cons_succ]
    refine takeD (i := 3) (d := 77) (v := _) rfl (by rfl) (by kernel_rfl) (by kernel_rfl) (by kernel_rfl) (fun _ _ _ h => h) (Or.inl ⟨by rfl, by (intro w hSw; obtain ⟨q0, q1, q2, q3, q4⟩ := hSw; go_simp; try with_reducible rfl)⟩) hS ?_
    simp only [List.setIfInBounds_toArray, List.set_cons_zero, List.set_cons_succ]
    refine takeD (i := 4) (d := 78) (v := undef) rfl (by rfl) (by kernel_rfl) (by kernel_rfl) (by kernel_rfl) (fun _ _ _ h => h) (Or.inr ⟨by rfl, rfl⟩) hS ?_
    simp only [List.setIfInBounds_toArray, List.set_cons_zero, List.set_cons_succ]
    refine takeD (i := 5) (d := 79) (v := undef) rfl (by rfl) (by kernel_rfl) (by kernel_rfl) (by kernel_rfl) (fun _ _ _ h => h) (Or.inr ⟨by rfl, rfl⟩) hS ?_
    simp only [List.setIfInBounds_toArray, List.set_cons_zero, List.set_cons_succ]
    refine takeD (i := 6) (d := 80) (v := undef) rfl (by rfl) (by kernel_rfl) (by kernel_rfl) (by kernel_rfl) (fun _ _ _ h => h) (Or.inr ⟨by rfl, rfl⟩) hS ?_
    simp only [List.setIfInBounds_toArray, List.set_cons_zero, List.set_cons_succ]
    refine takeD (i := 7) (d := 81) (v := _) rfl (by rfl) (by kernel_rfl) (by kernel_rfl) (by kernel_rfl) (fun _ _ _ h => h) (Or.inl ⟨by rfl, by (intro w hSw; obtain ⟨q0, q1, q2, q3, q4⟩ := hSw; go_simp; try with_reducible rfl)⟩) hS ?_
    simp only [List.setIfInBounds_toArray, List.set_cons_zero, List.set_cons_succ]
    refine takeD (i := 8) (d := 82) (v := _) rfl (by rfl) (by kernel_rfl) (by kernel_rfl) (by kernel_rfl) (fun _ _ _ h => h) (Or.inl ⟨by rfl, by (intro w hSw; obtain ⟨q0, q1, q2, q3, q4⟩ := hSw; go_simp; try with_reducible rfl)⟩) hS ?_
    simp only [List.setIfInBounds_toArray, List.set_cons_zero, List.set_cons_succ]
    refine takeD (i := 9) (d := 83) (v := undef) rfl (by rfl) (by kernel_rfl) (by kernel_rfl) (by kernel_rfl) (fun _ _ _ h => h) (Or.inr ⟨by rfl, rfl⟩) hS ?_
    simp only [List.setIfInBounds_toArray, List.set_cons_zero, List.set_cons_succ]
    refine takeD (i := 10) (d := 84) (v := undef) rfl (by rfl) (by kernel_rfl) (by kernel_rfl) (by kernel_rfl) (fun _ _ _ h => h) (Or.inr ⟨by rfl, rfl⟩) hS ?_
    simp only [List.setIfInBounds_toArray, List.set_cons_zero, List.set_cons_succ]
    refine takeD (i := 11) (d := 85) (v := undef) rfl (by rfl) (by kernel_rfl) (by kernel_rfl) (by kernel_rfl) (fun _ _ _ h => h) (Or.inr ⟨by rfl, rfl⟩) hS ?_
    simp only [List.setIfInBounds_toArray, List.set_cons_zero, List.set_cons_succ]
    refine takeD (i := 12) (d := 86) (v := undef) rfl (by rfl) (by kernel_rfl) (by kernel_rfl) (by kernel_rfl) (fun _ _ _ h => h) (Or.inr ⟨by rfl, rfl⟩) hS ?_
    simp only [List.setIfInBounds_toArray, List.set_cons_zero, List.set_cons_succ]
    refine takeD (i := 13) (d := 87) (v := undef) rfl (by rfl) (by kernel_rfl) (by kernel_rfl) (by kernel_rfl) (fun _ _ _ h => h) (Or.inr ⟨by rfl, rfl⟩) hS ?_
    simp only [List.setIfInBounds_toArray, List.set_cons_zero, List.set_cons_succ]
    refine takeD (i := 14) (d := 88) (v := undef) rfl (by rfl) (by kernel_rfl) (by kernel_rfl) (by kernel_rfl) (fun _ _ _ h => h) (Or.inr ⟨by rfl, rfl⟩) hS ?_
    simp only [List.setIfInBounds_toArray, List.set_cons_zero, List.set_cons_succ]
    refine takeD (i := 15) (d := 89) (v := undef) rfl (by rfl) (by kernel_rfl) (by kernel_rfl) (by kernel_rfl) (fun _ _ _ h => h) (Or.inr ⟨by rfl, rfl⟩) hS ?_
    simp only [List.setIfInBounds_toArray, List.set_cons_zero, List.set_cons_succ]
    refine takeD (i := 16) (d := 90) (v := undef) rfl (by rfl) (by kernel_rfl) (by kernel_rfl) (by kernel_rfl) (fun _ _ _ h => h) (Or.inr ⟨by rfl, rfl⟩) hS ?_
    simp only [List.setIfInBounds_toArray, List.set_cons_zero, List.set_cons_succ]
    refine takeD (i := 17) (d := 91) (v := undef) rfl (by rfl) (by kernel_rfl) (by kernel_rfl) (by kernel_rfl) (fun _ _ _ h => h) (Or.inr ⟨by rfl, rfl⟩) hS ?_
    simp only [List.setIfInBounds_toArray, List.set_cons_zero, List.set_cons_succ]
    refine takeD (i := 18) (d := 92) (v := undef) rfl (by rfl) (by kernel_rfl) (by kernel_rfl) (by kernel_rfl) (fun _ _ _ h => h) (Or.inr ⟨by rfl, rfl⟩) hS ?_
    simp only [List.setIfInBounds_toArray, List.set_cons_zero, List.set_cons_succ]
    refine takeD (i := 19) (d := 93) (v := _) rfl (by rfl) (by kernel_rfl) (by kernel_rfl) (by kernel_rfl) (fun _ _ _ h => h) (Or.inl ⟨by rfl, by (intro w hSw; obtain ⟨q0, q1, q2, q3, q4⟩ := hSw; go_simp; try with_reducible rfl)⟩) hS ?_
    simp only [List.setIfInBounds_toArray, List.set_cons_zero, List.set_cons_succ]
    refine takeD (i := 20) (d := 4) (v := _) rfl (by rfl) (by kernel_rfl) (by kernel_rfl) (by kernel_rfl) (fun _ _ _ h => h) (Or.inl ⟨by rfl, by (intro w hSw; obtain ⟨q0, q1, q2, q3, q4⟩ := hSw; go_simp; try with_reducible rfl)⟩) hS ?_
    simp only [List.setIfInBounds_toArray, List.set_cons_zero, List.set_cons_succ]
    refine wpAnyH_done (by kernel_rfl) ?_ _
    go_wp2
    go_ret
    exact ⟨rfl, HW0.out.trans (HB0.out.mono (by omega))⟩
  · by_cases he : s = ByteArray.empty
    · rw [decide_eq_false (fun h => h he), Bool.and_false, Bool.false_and]
      subst he
      clear hV
      go_enter Tryz.func97, Tryz.ntmps97
      go_wp2
      refine wp_region_held_drew (S := (fun W : World => W.cell? ⟨w.heap.size, 1, none⟩ = some (.string ByteArray.empty) ∧ W.cell? ⟨w.heap.size, 2, none⟩ = some (.bool n) ∧ W.cell? ⟨w.heap.size, 3, none⟩ = some (.slice a d.length cap) ∧ W.cell? ⟨p, 0, none⟩ = some (.map (some cb)) ∧ (Instr.lookup 103 (.map (some cb)) (.string ByteArray.empty) false).run Tryz.prog W = .ok (.string V) W)) (by kernel_rfl) (KS.out _ HB0.out.drew) (fun hS => ?_)
      refine takeD (i := 0) (d := 74) (v := _) rfl (by rfl) (by kernel_rfl) (by kernel_rfl) (by kernel_rfl) (fun _ _ _ h => h) (Or.inl ⟨by rfl, by (intro w hSw; obtain ⟨q0, q1, q2, q3, q4⟩ := hSw; go_simp; try with_reducible rfl)⟩) hS ?_
      simp only [List.setIfInBounds_toArray, List.set_cons_zero, List.set_cons_succ]
      refine takeD (i := 1) (d := 75) (v := _) rfl (by rfl) (by kernel_rfl) (by kernel_rfl) (by kernel_rfl) (fun _ _ _ h => h) (Or.inl ⟨by rfl, by (intro w hSw; obtain ⟨q0, q1, q2, q3, q4⟩ := hSw; go_simp; try with_reducible rfl)⟩) hS ?_
      simp only [List.setIfInBounds_toArray, List.set_cons_zero, List.set_cons_succ]
      refine wpAnyH_ready (rs := [2]) (by kernel_rfl) (by simp) (AllReadyH.cons rfl (fun K hK => ?_) AllReadyH.nil)
      go_simp
      (go_at_call 142; ((with_reducible refine (KW.out _ (by first | exact HW0.out.trans (HB0.out.mono (by omega)) | exact HW0.out.trans (HB0.out.drew.mono (by omega)))).mono ?_); rintro e w6 ⟨rfl, hbb⟩; replace HB0 : Hid (Below (w.heap.size + 1) (w.alloc (.cells #[.int .i64 5, .string ByteArray.empty, .bool n, .slice a d.length cap, .int .i64 x4, .int .i64 x5, .int .i64 x6, .int .i64 x7] 41 (0, 0))) w6) := Lib.hid (by first | exact HB0.out.trans (hbb.mono (by have := HB0.out.size; simp at this ⊢ <;> omega)) | exact HB0.out.drew.trans (hbb.mono (by have := HB0.out.size; simp at this ⊢ <;> omega))); clear hbb))
      refine hK.out _ _ (KS.out _ HB0.out) (fun hS => ?_)
      clear hK K
      try simp only [Act.put, List.setIfInBounds_toArray, List.set_cons_zero, List.set_cons_succ]
      refine takeD (i := 3) (d := 77) (v := _) rfl (by rfl) (by kernel_rfl) (by kernel_rfl) (by kernel_rfl) (fun _ _ _ h => h) (Or.inl ⟨by rfl, by (intro w hSw; obtain ⟨q0, q1, q2, q3, q4⟩ := hSw; go_simp; try with_reducible rfl)⟩) hS ?_
      simp only [List.setIfInBounds_toArray, List.set_cons_zero, List.set_cons_succ]
      refine takeD (i := 4) (d := 78) (v := _) rfl (by rfl) (by kernel_rfl) (by kernel_rfl) (by kernel_rfl) (fun _ _ _ h => h) (Or.inl ⟨by rfl, by (intro w hSw; obtain ⟨q0, q1, q2, q3, q4⟩ := hSw; go_simp; try with_reducible rfl)⟩) hS ?_
      simp only [List.setIfInBounds_toArray, List.set_cons_zero, List.set_cons_succ]
      refine takeD (i := 5) (d := 79) (v := _) rfl (by rfl) (by kernel_rfl) (by kernel_rfl) (by kernel_rfl) (fun _ _ _ h => h) (Or.inl ⟨by rfl, by (intro w hSw; obtain ⟨q0, q1, q2, q3, q4⟩ := hSw; go_simp; try with_reducible rfl)⟩) hS ?_
      simp only [List.setIfInBounds_toArray, List.set_cons_zero, List.set_cons_succ]
      refine takeD (i := 6) (d := 80) (v := _) rfl (by rfl) (by kernel_rfl) (by kernel_rfl) (by kernel_rfl) (fun _ _ _ h => h) (Or.inl ⟨by rfl, by (intro w hSw; obtain ⟨q0, q1, q2, q3, q4⟩ := hSw; go_simp; try with_reducible rfl)⟩) hS ?_
      simp only [List.setIfInBounds_toArray, List.set_cons_zero, List.set_cons_succ]
      refine takeD (i := 7) (d := 81) (v := _) rfl (by rfl) (by kernel_rfl) (by kernel_rfl) (by kernel_rfl) (fun _ _ _ h => h) (Or.inl ⟨by rfl, by (intro w hSw; obtain ⟨q0, q1, q2, q3, q4⟩ := hSw; go_simp; try with_reducible rfl)⟩) hS ?_
      simp only [List.setIfInBounds_toArray, List.set_cons_zero, List.set_cons_succ]
      refine takeD (i := 8) (d := 82) (v := _) rfl (by rfl) (by kernel_rfl) (by kernel_rfl) (by kernel_rfl) (fun _ _ _ h => h) (Or.inl ⟨by rfl, by (intro w hSw; obtain ⟨q0, q1, q2, q3, q4⟩ := hSw; go_simp; try with_reducible rfl)⟩) hS ?_
      simp only [List.setIfInBounds_toArray, List.set_cons_zero, List.set_cons_succ]
      refine takeD (i := 9) (d := 83) (v := undef) rfl (by rfl) (by kernel_rfl) (by kernel_rfl) (by kernel_rfl) (fun _ _ _ h => h) (Or.inr ⟨by rfl, rfl⟩) hS ?_
      simp only [List.setIfInBounds_toArray, List.set_cons_zero, List.set_cons_succ]
      refine takeD (i := 10) (d := 84) (v := undef) rfl (by rfl) (by kernel_rfl) (by kernel_rfl) (by kernel_rfl) (fun _ _ _ h => h) (Or.inr ⟨by rfl, rfl⟩) hS ?_
      simp only [List.setIfInBounds_toArray, List.set_cons_zero, List.set_cons_succ]
      refine takeD (i := 11) (d := 85) (v := undef) rfl (by rfl) (by kernel_rfl) (by kernel_rfl) (by kernel_rfl) (fun _ _ _ h => h) (Or.inr ⟨by rfl, rfl⟩) hS ?_
      simp only [List.setIfInBounds_toArray, List.set_cons_zero, List.set_cons_succ]
      refine takeD (i := 12) (d := 86) (v := undef) rfl (by rfl) (by kernel_rfl) (by kernel_rfl) (by kernel_rfl) (fun _ _ _ h => h) (Or.inr ⟨by rfl, rfl⟩) hS ?_
      simp only [List.setIfInBounds_toArray, List.set_cons_zero, List.set_cons_succ]
      refine takeD (i := 13) (d := 87) (v := undef) rfl (by rfl) (by kernel_rfl) (by kernel_rfl) (by kernel_rfl) (fun _ _ _ h => h) (Or.inr ⟨by rfl, rfl⟩) hS ?_
      simp only [List.setIfInBounds_toArray, List.set_cons_zero, List.set_cons_succ]
      refine takeD (i := 14) (d := 88) (v := undef) rfl (by rfl) (by kernel_rfl) (by kernel_rfl) (by kernel_rfl) (fun _ _ _ h => h) (Or.inr ⟨by rfl, rfl⟩) hS ?_
      simp only [List.setIfInBounds_toArray, List.set_cons_zero, List.set_cons_succ]
      refine takeD (i := 15) (d := 89) (v := undef) rfl (by rfl) (by kernel_rfl) (by kernel_rfl) (by kernel_rfl) (fun _ _ _ h => h) (Or.inr ⟨by rfl, rfl⟩) hS ?_
      simp only [List.setIfInBounds_toArray, List.set_cons_zero, List.set_cons_succ]
      refine takeD (i := 16) (d := 90) (v := undef) rfl (by rfl) (by kernel_rfl) (by kernel_rfl) (by kernel_rfl) (fun _ _ _ h => h) (Or.inr ⟨by rfl, rfl⟩) hS ?_
      simp only [List.setIfInBounds_toArray, List.set_cons_zero, List.set_cons_succ]
      refine takeD (i := 17) (d := 91) (v := undef) rfl (by rfl) (by kernel_rfl) (by kernel_rfl) (by kernel_rfl) (fun _ _ _ h => h) (Or.inr ⟨by rfl, rfl⟩) hS ?_
      simp only [List.setIfInBounds_toArray, List.set_cons_zero, List.set_cons_succ]
      refine takeD (i := 18) (d := 92) (v := undef) rfl (by rfl) (by kernel_rfl) (by kernel_rfl) (by kernel_rfl) (fun _ _ _ h => h) (Or.inr ⟨by rfl, rfl⟩) hS ?_
      simp only [List.setIfInBounds_toArray, List.set_cons_zero, List.set_cons_succ]
      refine takeD (i := 19) (d := 93) (v := _) rfl (by rfl) (by kernel_rfl) (by kernel_rfl) (by kernel_rfl) (fun _ _ _ h => h) (Or.inl ⟨by rfl, by (intro w hSw; obtain ⟨q0, q1, q2, q3, q4⟩ := hSw; go_simp; try with_reducible rfl)⟩) hS ?_
      simp only [List.setIfInBounds_toArray, List.set_cons_zero, List.set_cons_succ]
      refine takeD (i := 20) (d := 4) (v := _) rfl (by rfl) (by kernel_rfl) (by kernel_rfl) (by kernel_rfl) (fun _ _ _ h => h) (Or.inl ⟨by rfl, by (intro w hSw; obtain ⟨q0, q1, q2, q3, q4⟩ := hSw; go_simp; try with_reducible rfl)⟩) hS ?_
      simp only [List.setIfInBounds_toArray, List.set_cons_zero, List.set_cons_succ]
      refine wpAnyH_done (by kernel_rfl) ?_ _
      go_wp2
      go_ret
      exact ⟨rfl, HW0.out.trans (HB0.out.mono (by omega))⟩
    · rw [decide_eq_true he, Bool.and_self, Bool.true_and]
      have hve : decide (canonOf s = some s) = (V.toList == s.toList) := by
        rcases hc : canonOf s with _ | c
        · rw [hc] at hV
          have e1 : V = ByteArray.empty := hV.symm
          subst e1
          have := ba_nonempty he
          simp
          exact this
        · rw [hc] at hV
          have e1 : c = V := hV
          subst e1
          by_cases hcs : c = s
          · subst hcs; simp
          · have : ¬ (c.toList = s.toList) := fun e => hcs (str_eq e)
            simp [this, hcs]
      have hne : ¬ s.toList = [] := ba_nonempty he
      have hne2 : s.toList.isEmpty = false := by simpa using hne
      have hne3 : (s.toList == []) = false := by simpa using hne
      have hne4 : (s.toList != []) = true := by simpa using hne
      obtain ⟨bv, hbv⟩ : ∃ bv, (V.toList == s.toList) = bv := ⟨_, rfl⟩
      rw [hve, hbv]
      clear he hV hve
      go_enter Tryz.func97, Tryz.ntmps97
      go_wp2
      refine wp_region_held_drew (S := (fun W : World => W.cell? ⟨w.heap.size, 1, none⟩ = some (.string s) ∧ W.cell? ⟨w.heap.size, 2, none⟩ = some (.bool n) ∧ W.cell? ⟨w.heap.size, 3, none⟩ = some (.slice a d.length cap) ∧ W.cell? ⟨p, 0, none⟩ = some (.map (some cb)) ∧ (Instr.lookup 103 (.map (some cb)) (.string s) false).run Tryz.prog W = .ok (.string V) W)) (by kernel_rfl) (KS.out _ HB0.out.drew) (fun hS => ?_)
      refine takeD (i := 0) (d := 74) (v := _) rfl (by rfl) (by kernel_rfl) (by kernel_rfl) (by kernel_rfl) (fun _ _ _ h => h) (Or.inl ⟨by rfl, by (intro w hSw; obtain ⟨q0, q1, q2, q3, q4⟩ := hSw; go_simp; try with_reducible rfl)⟩) hS ?_
      simp only [List.setIfInBounds_toArray, List.set_cons_zero, List.set_cons_succ]
      refine takeD (i := 1) (d := 75) (v := _) rfl (by rfl) (by kernel_rfl) (by kernel_rfl) (by kernel_rfl) (fun _ _ _ h => h) (Or.inl ⟨by rfl, by (intro w hSw; obtain ⟨q0, q1, q2, q3, q4⟩ := hSw; go_simp; try with_reducible rfl)⟩) hS ?_
      simp only [List.setIfInBounds_toArray, List.set_cons_zero, List.set_cons_succ]
      refine wpAnyH_ready (rs := [2]) (by kernel_rfl) (by simp) (AllReadyH.cons rfl (fun K hK => ?_) AllReadyH.nil)
      go_simp
      (go_at_call 142; ((with_reducible refine (KW.out _ (by first | exact HW0.out.trans (HB0.out.mono (by omega)) | exact HW0.out.trans (HB0.out.drew.mono (by omega)))).mono ?_); rintro e w6 ⟨rfl, hbb⟩; replace HB0 : Hid (Below (w.heap.size + 1) (w.alloc (.cells #[.int .i64 5, .string s, .bool n, .slice a d.length cap, .int .i64 x4, .int .i64 x5, .int .i64 x6, .int .i64 x7] 41 (0, 0))) w6) := Lib.hid (by first | exact HB0.out.trans (hbb.mono (by have := HB0.out.size; simp at this ⊢ <;> omega)) | exact HB0.out.drew.trans (hbb.mono (by have := HB0.out.size; simp at this ⊢ <;> omega))); clear hbb))
      refine hK.out _ _ (KS.out _ HB0.out) (fun hS => ?_)
      clear hK K
      try simp only [Act.put, List.setIfInBounds_toArray, List.set_cons_zero, List.set_cons_succ]
      refine takeD (i := 3) (d := 77) (v := _) rfl (by rfl) (by kernel_rfl) (by kernel_rfl) (by kernel_rfl) (fun _ _ _ h => h) (Or.inl ⟨by rfl, by (intro w hSw; obtain ⟨q0, q1, q2, q3, q4⟩ := hSw; go_simp; try with_reducible rfl)⟩) hS ?_
      simp only [List.setIfInBounds_toArray, List.set_cons_zero, List.set_cons_succ]
      refine takeD (i := 4) (d := 78) (v := _) rfl (by rfl) (by kernel_rfl) (by kernel_rfl) (by kernel_rfl) (fun _ _ _ h => h) (Or.inl ⟨by rfl, by (intro w hSw; obtain ⟨q0, q1, q2, q3, q4⟩ := hSw; go_simp; try with_reducible rfl)⟩) hS ?_
      simp only [List.setIfInBounds_toArray, List.set_cons_zero, List.set_cons_succ]
      refine takeD (i := 5) (d := 79) (v := _) rfl (by rfl) (by kernel_rfl) (by kernel_rfl) (by kernel_rfl) (fun _ _ _ h => h) (Or.inl ⟨by rfl, by (intro w hSw; obtain ⟨q0, q1, q2, q3, q4⟩ := hSw; go_simp; try with_reducible rfl)⟩) hS ?_
      simp only [List.setIfInBounds_toArray, List.set_cons_zero, List.set_cons_succ]
      refine takeD (i := 6) (d := 80) (v := _) rfl (by rfl) (by kernel_rfl) (by kernel_rfl) (by kernel_rfl) (fun _ _ _ h => h) (Or.inl ⟨by rfl, by (intro w hSw; obtain ⟨q0, q1, q2, q3, q4⟩ := hSw; go_simp; try with_reducible rfl)⟩) hS ?_
      simp only [List.setIfInBounds_toArray, List.set_cons_zero, List.set_cons_succ]
      refine takeD (i := 7) (d := 81) (v := _) rfl (by rfl) (by kernel_rfl) (by kernel_rfl) (by kernel_rfl) (fun _ _ _ h => h) (Or.inl ⟨by rfl, by (intro w hSw; obtain ⟨q0, q1, q2, q3, q4⟩ := hSw; go_simp; try with_reducible rfl)⟩) hS ?_
      simp only [List.setIfInBounds_toArray, List.set_cons_zero, List.set_cons_succ]
      refine takeD (i := 8) (d := 82) (v := _) rfl (by rfl) (by kernel_rfl) (by kernel_rfl) (by kernel_rfl) (fun _ _ _ h => h) (Or.inl ⟨by rfl, by (intro w hSw; obtain ⟨q0, q1, q2, q3, q4⟩ := hSw; go_simp; try with_reducible rfl)⟩) hS ?_
      simp only [List.setIfInBounds_toArray, List.set_cons_zero, List.set_cons_succ]
      refine takeD (i := 9) (d := 83) (v := _) rfl (by rfl) (by kernel_rfl) (by kernel_rfl) (by kernel_rfl) (fun _ _ _ h => h) (Or.inl ⟨by rfl, by (intro w hSw; obtain ⟨q0, q1, q2, q3, q4⟩ := hSw; go_simp; try with_reducible rfl)⟩) hS ?_
      simp only [List.setIfInBounds_toArray, List.set_cons_zero, List.set_cons_succ]
      refine takeD (i := 10) (d := 84) (v := _) rfl (by rfl) (by kernel_rfl) (by kernel_rfl) (by kernel_rfl) (fun _ _ _ h => h) (Or.inl ⟨by rfl, by (intro w hSw; obtain ⟨q0, q1, q2, q3, q4⟩ := hSw; go_simp; try with_reducible rfl)⟩) hS ?_
      simp only [List.setIfInBounds_toArray, List.set_cons_zero, List.set_cons_succ]
      refine takeD (i := 11) (d := 85) (v := _) rfl (by rfl) (by kernel_rfl) (by kernel_rfl) (by kernel_rfl) (fun _ _ _ h => h) (Or.inl ⟨by rfl, by (intro w hSw; obtain ⟨q0, q1, q2, q3, q4⟩ := hSw; go_simp; try with_reducible rfl)⟩) hS ?_
      simp only [List.setIfInBounds_toArray, List.set_cons_zero, List.set_cons_succ]
      refine takeD (i := 12) (d := 86) (v := _) rfl (by rfl) (by kernel_rfl) (by kernel_rfl) (by kernel_rfl) (fun _ _ _ h => h) (Or.inl ⟨by rfl, by (intro w hSw; obtain ⟨q0, q1, q2, q3, q4⟩ := hSw; go_simp; try with_reducible rfl)⟩) hS ?_
      simp only [List.setIfInBounds_toArray, List.set_cons_zero, List.set_cons_succ]
      refine takeD (i := 13) (d := 87) (v := _) rfl (by rfl) (by kernel_rfl) (by kernel_rfl) (by kernel_rfl) (fun _ _ _ h => h) (Or.inl ⟨by rfl, by (intro w hSw; obtain ⟨q0, q1, q2, q3, q4⟩ := hSw; go_simp; try with_reducible rfl)⟩) hS ?_
      simp only [List.setIfInBounds_toArray, List.set_cons_zero, List.set_cons_succ]
      refine takeD (i := 14) (d := 88) (v := _) rfl (by rfl) (by kernel_rfl) (by kernel_rfl) (by kernel_rfl) (fun _ _ _ h => h) (Or.inl ⟨by rfl, by (intro w hSw; obtain ⟨q0, q1, q2, q3, q4⟩ := hSw; go_simp; try with_reducible rfl)⟩) hS ?_
      simp only [List.setIfInBounds_toArray, List.set_cons_zero, List.set_cons_succ]
      refine takeD (i := 15) (d := 89) (v := _) rfl (by rfl) (by kernel_rfl) (by kernel_rfl) (by kernel_rfl) (fun _ _ _ h => h) (Or.inl ⟨by rfl, by (intro w hSw; obtain ⟨q0, q1, q2, q3, q4⟩ := hSw; go_simp; try with_reducible rfl)⟩) hS ?_
      simp only [List.setIfInBounds_toArray, List.set_cons_zero, List.set_cons_succ]
      refine takeD (i := 16) (d := 90) (v := _) rfl (by rfl) (by kernel_rfl) (by kernel_rfl) (by kernel_rfl) (fun _ _ _ h => h) (Or.inl ⟨by rfl, by (intro w hSw; obtain ⟨q0, q1, q2, q3, q4⟩ := hSw; go_simp; try with_reducible rfl)⟩) hS ?_
      simp only [List.setIfInBounds_toArray, List.set_cons_zero, List.set_cons_succ]
      refine takeD (i := 17) (d := 91) (v := _) rfl (by rfl) (by kernel_rfl) (by kernel_rfl) (by kernel_rfl) (fun _ _ _ h => h) (Or.inl ⟨by rfl, by (intro w hSw; obtain ⟨q0, q1, q2, q3, q4⟩ := hSw; go_simp; try with_reducible rfl)⟩) hS ?_
      simp only [List.setIfInBounds_toArray, List.set_cons_zero, List.set_cons_succ]
      refine takeD (i := 18) (d := 92) (v := _) rfl (by rfl) (by kernel_rfl) (by kernel_rfl) (by kernel_rfl) (fun _ _ _ h => h) (Or.inl ⟨by rfl, by (intro w hSw; obtain ⟨q0, q1, q2, q3, q4⟩ := hSw; go_simp; try with_reducible rfl)⟩) hS ?_
      simp only [List.setIfInBounds_toArray, List.set_cons_zero, List.set_cons_succ]
      refine takeD (i := 19) (d := 93) (v := _) rfl (by rfl) (by kernel_rfl) (by kernel_rfl) (by kernel_rfl) (fun _ _ _ h => h) (Or.inl ⟨by rfl, by (intro w hSw; obtain ⟨q0, q1, q2, q3, q4⟩ := hSw; go_simp; try with_reducible rfl)⟩) hS ?_
      simp only [List.setIfInBounds_toArray, List.set_cons_zero, List.set_cons_succ]
      refine takeD (i := 20) (d := 4) (v := _) rfl (by rfl) (by kernel_rfl) (by kernel_rfl) (by kernel_rfl) (fun _ _ _ h => h) (Or.inl ⟨by rfl, by (intro w hSw; obtain ⟨q0, q1, q2, q3, q4⟩ := hSw; go_simp; try with_reducible rfl)⟩) hS ?_
      simp only [List.setIfInBounds_toArray, List.set_cons_zero, List.set_cons_succ]
      refine wpAnyH_done (by kernel_rfl) ?_ _
      go_wp2
      go_ret
      exact ⟨rfl, HW0.out.trans (HB0.out.mono (by omega))⟩
end Go.Proofs.YtagcfgoofiibfaaGreatDoor
set_option linter.unusedVariables false
namespace Go.Proofs.YtagcfgoofiibfaaGreatDoor
open Go Go.RowKit
theorem IntsG.row {w : World} {v : Value} {l : List Int} (h : IntsG w v l) : ∃ a cap, v = .slice a l.length cap := by
  obtain ⟨a, cap, hv, _⟩ := h
  exact ⟨a, cap, hv⟩
theorem okN_of {l : List Int} (hb : InB l) (hz : NoZ l) (hl : l.length ≤ 40) : okN false l = true := by
  unfold okN
  have e : l.any badD = false := by
    rw [List.any_eq_false]
    intro x hx
    have := hb x hx
    unfold badD; simp; omega
  rw [e]
  unfold NoZ at hz
  simp [hl, hz]
theorem c141ok (dv : Value) (l : List Int) (w : World) (h : IntsG w dv l) (hb : InB l) (hz : NoZ l) (hl : l.length ≤ 40) :
    Calls Tryz.prog 141 #[.agg #[.bool false, dv]] w fun e w' => e = .returned (.int .i64 0) ∧ Below w.heap.size w w' := by
  have h2 := c141g false dv l w h
  rw [okN_of hb hz hl] at h2
  exact h2
section
attribute [local go_sem] Oper.semAt_some
set_option maxRecDepth 100000 in
set_option maxHeartbeats 3200000 in
theorem c216g (m : Nat) (Bs : Nat) (a : Option Addr) (cp : Nat) (l : List Int) (hll : l.length ≤ 1000000) (Y : Nat → Prop) (hYb : ¬ Y Bs) (w : World)
    (hs : w.cell? ⟨Bs, 0, none⟩ = some (.slice a l.length cp)) (hx : l ≠ [] → ∃ g o, a = some ⟨g, o, none⟩ ∧ g < w.heap.size ∧ ¬ Y g ∧ ∀ j, j < l.length → w.cell? ⟨g, o + j, none⟩ = some (.int .i64 (atL l j))) :
    SeqO Tryz.prog m 216 #[.pointer (some ⟨Bs, 0, none⟩)] (fun k : Nat => #[.int .i64 (k : Int), .int .i64 (atL l k)]) Y
      (fun xs => xs.length = l.length) (fun _ => True) (fun pre k => k < l.length ∧ pre.length + (k + 1) = l.length) l.length w := by
  intro l0 J Jx W hW hl1 hl2 hJ hJx hY h0
  have hb1 : Bs < w.heap.size := World.block_lt_of_cell? w _ hs
  have hs' : W.cell? ⟨Bs, 0, none⟩ = some (.slice a l.length cp) := (hW.cell (p := ⟨Bs, 0, none⟩) hb1).trans hs
  have hsW := hW.size
  have HX : Hid (l ≠ [] → ∃ g o, a = some ⟨g, o, none⟩ ∧ g < w.heap.size ∧ ¬ Y g ∧ ∀ j, j < l.length → W.cell? ⟨g, o + j, none⟩ = some (.int .i64 (atL l j))) := Lib.hid (fun hne => by
    obtain ⟨g, o, e1, e2, e3, e4⟩ := hx hne
    exact ⟨g, o, e1, e2, e3, fun j hj => (hW.cell (p := ⟨g, o + j, none⟩) e2).trans (e4 j hj)⟩)
  have HY := Lib.hid hY
  have HJ0 := Lib.hid h0
  clear hY hJ h0 hs hJx hW hx
  refine callsIn_of_wp Tryz.func216 rfl trivial ?_ rfl
  simp only [Tryz.ntmps216, List.size_toArray, List.length_cons, List.length_nil, Nat.reduceAdd, Nat.reduceSub, Array.replicate_succ, Array.replicate_zero, List.push_toArray, List.append_toArray, List.nil_append, List.cons_append]
  gi_wp2
  gi_loopw [3] (fun ix wr => ∃ (k : Nat) (pre : List Nat), k ≤ l.length ∧ ix = .int .i64 ((k : Int) - 1) ∧ J pre wr ∧ pre.length + k = l.length ∧ (∀ i, k ≤ i → i < l.length → i ∈ pre) ∧ Keep (fun k => k = l0 ∨ Y k) W wr)
    (fun ix _ => (intOf ix + 1).toNat)
  case atStart =>
    exact ⟨l.length, [], Nat.le_refl _, rfl, HJ0.out, by simp, fun i a b => by omega, Keep.refl _ _⟩
  case round =>
    obtain ⟨k, pre, hk, rfl, hJd, hlen, hmem, hkp⟩ := hrel
    have HJd := Lib.hid hJd
    have HM := Lib.hid hmem
    have HK := Lib.hid hkp
    clear hJd HJ0 hmem hkp
    have nBs : ¬ (Bs = l0 ∨ Y Bs) := fun h => by rcases h with h | h; omega; exact hYb h
    have hsr : wr.cell? ⟨Bs, 0, none⟩ = some (.slice a l.length cp) := HK.out.cell (p := ⟨Bs, 0, none⟩) nBs hs'
    rcases k with _ | k
    · gi_wp2
      go_end0
      exact ⟨⟨_, rfl⟩, .inl ⟨pre, by omega, HJd.out⟩⟩
    · obtain ⟨g, o, rfl, hg1, hg2, hg3⟩ := HX.out (by rintro rfl; simp at hk)
      have ek : ((k + 1 : Nat) : Int) - 1 = (k : Int) := by omega
      rw [ek]
      clear ek
      have ng : ¬ (g = l0 ∨ Y g) := fun h => by rcases h with h | h; omega; exact hg2 h
      have kx : wr.cell? ⟨g, o + k, none⟩ = some (.int .i64 (atL l k)) := HK.out.cell (p := ⟨g, o + k, none⟩) ng (hg3 k (by omega))
      have b1 : (k : Int) < (l.length : Int) := by omega
      have b0 : (0 : Int) ≤ (k : Int) := by omega
      obtain ⟨fn, tmps, assign, body, hy, hR⟩ := HY.out pre k wr HJd.out (by omega) ⟨by omega, by omega⟩
      have HLEN := Lib.hid hlen
      clear hg3 hlen
      gi_wp2
      refine ⟨fun hd => (by cases hd), hR.mono ?_⟩
      rintro e W3 (⟨rfl, hJ3, hk3⟩ | ⟨rfl, hJx3⟩)
      · have HJ3 := Lib.hid hJ3
        have HK3 := Lib.hid hk3
        clear hJ3 hk3 hR hy hsr kx
        gi_wp2
        go_roundw
        case rel =>
          refine ⟨k, pre ++ [k], by omega, rfl, HJ3.out, by have := HLEN.out; simp; omega, fun i a b => ?_, HK.out.trans HK3.out⟩
          rcases Nat.lt_or_ge k i with q | q
          · exact List.mem_append_left _ (HM.out i q b)
          · rw [show i = k by omega]; simp
        case measure => simp [intOf]
      · gi_wp2
        refine bodyPost_ret (results_none rfl _ _ _) rfl ?_
        exact ⟨⟨_, rfl⟩, .inr ⟨_, trivial, hJx3⟩⟩
set_option maxRecDepth 100000 in
set_option maxHeartbeats 3200000 in
theorem c146g (dv : Value) (l : List Int) (w : World) (h : IntsG w dv l) (hb : InB l) (hz : NoZ l) (hl : l.length ≤ 40) (hP : TP w) :
    Calls Tryz.prog 146 #[.agg #[.bool false, dv]] w fun e w' => e = .returned (.string ⟨(Lib.decDigits (numL l)).toArray⟩) ∧ Below w.heap.size w w' := by
  obtain ⟨a1, cp1, rfl⟩ := h.row
  have H := Lib.hid h
  have HB := Lib.hid hb
  have HZ := Lib.hid hz
  have HP := Lib.hid hP
  have HL := Lib.hid hl
  clear h hb hz hP hl
  have hf172 : Fence.wide.fn 172 := trivial
  have hf190 : Fence.wide.fn 190 := trivial
  by_cases hne : l.length = 0
  · have hz2 : ((l.length : Int) == 0) = true := by rw [hne]; rfl
    obtain rfl := List.eq_nil_of_length_eq_zero hne
    have hf65 : Fence.wide.fn 65 := trivial
    clear hne
    refine (callsIn_wide (n := 5)).1 ?_
    refine callsIn_of_wp_marks Tryz.func146 rfl trivial ?_ rfl
    simp only [Tryz.ntmps146, List.size_toArray, List.length_cons, List.length_nil, Nat.reduceAdd, Nat.reduceSub, Array.replicate_succ, Array.replicate_zero, List.push_toArray, List.append_toArray, List.nil_append, List.cons_append]
    gi_wp2_with (gi_at_call 65; refine (callsIn_wide.2 (c65 (w.heap.size + 1) (w.heap.size + 1) [] 48 _ (.inl ⟨Nat.le_refl _, _, blk_new _ _ (by simp) _, ⟨rfl, .inl ⟨rfl, rfl⟩⟩, by intro h; cases h⟩) (by simp) (by simp))).mono ?_; rintro e w1 ⟨rfl, g1, g2, g3⟩; have k0 := (g2.cell (p := ⟨w.heap.size, 0, none⟩) (by show w.heap.size < w.heap.size + 1; omega)).trans (show _ = some (.bool false) by rw [cell_of_row _ _ _ _ _ _ (blk_alloc (blk_new _ _ rfl _) _)]; rfl); have k1 := (g2.cell (p := ⟨w.heap.size, 1, none⟩) (by show w.heap.size < w.heap.size + 1; omega)).trans (show _ = some (.slice a1 0 cp1) by rw [cell_of_row _ _ _ _ _ _ (blk_alloc (blk_new _ _ rfl _) _)]; rfl); have G1 := Lib.hid g1; have G2 := Lib.hid g2; clear g1 g2 g3)
    gi_wp2_with (gi_at_call 172; refine (callsIn_wide.2 (c172 _ _ _)).mono ?_; rintro e w2 ⟨rfl, hb2⟩; have HB2 := Lib.hid hb2; clear hb2)
    gi_wp2_with (gi_at_call 190; refine (callsIn_wide.2 (c190 _ _ _ _)).mono ?_; rintro e w' ⟨rfl, rfl⟩)
    generalize hW : World.alloc w2 _ = W0
    obtain ⟨Bs, hBs⟩ : ∃ Bs, w2.heap.size = Bs := ⟨_, rfl⟩
    rw [hBs]
    have hz0 : W0.heap.size = Bs + 1 := by rw [← hW]; simp; omega
    have hsz2 := HB2.out.size
    have hsz1 := G2.out.size
    simp only [World.size_alloc] at hsz1
    have HZW := Lib.hid (show w.heap.size + 2 ≤ W0.heap.size by omega)
    obtain ⟨w0, hw0⟩ : ∃ w0, w.alloc (.cells #[.bool false, .slice a1 0 cp1] 39 (0, 0)) = w0 := ⟨_, rfl⟩
    have hz : w0.heap.size = w.heap.size + 1 := by rw [← hw0]; simp
    have hbel1 : Below (w.heap.size + 1) w0 w1 := by
      rw [← hw0]
      exact ((Below.refl _ _).alloc (by simp) _).trans G2.out
    have hbel : Below (w.heap.size + 1) w0 W0 := by
      rw [← hW]
      exact (hbel1.trans (HB2.out.mono (by omega))).alloc (by omega) _
    have hww : Below w.heap.size w w0 := by rw [← hw0]; exact (Below.refl _ _).alloc (Nat.le_refl _) _
    have b2 : W0.heap[Bs]? = some (.cells #[.slice a1 0 cp1] 186 (0, 0)) := by rw [← hW]; exact blk_new _ _ hBs _
    have hnb : NB w0 (w.heap.size + 1) Bs (Bs + 2) (.slice a1 0 cp1) [48] W0 := by
      obtain ⟨_, v, g1, g2, g3⟩ := G1.out
      have hown : ∀ k, v.ownBlock = some k → k < w1.heap.size := fun k hk => by
        obtain ⟨c, fz, hc⟩ := own_kind5 g2 hk
        exact lt_of_blk hc
      have hb12 : Below w1.heap.size w1 W0 := by rw [← hW]; exact HB2.out.alloc (by omega) _
      refine ⟨⟨_, v, .inr rfl, (hb12.block _ (lt_of_blk g1)).trans g1, g2.kept hb12.grownBy ?_, g3, fun e => by have := hown _ e; omega⟩, hbel, b2⟩
      rcases v.ownBlock with _ | k
      · exact .inl rfl
      · right; intro e; cases e
    have HWW := Lib.hid hww
    clear hW hw0 hww k0 k1 hbel1 hsz1
    refine rf_law3 (by omega) (gf := 216) (lb := #[.pointer (some ⟨Bs, 0, none⟩)]) (by rfl) (enters_of Tryz.func216 (by kernel_rfl) rfl)
      (c216g _ Bs a1 cp1 [] (by simp) (fun r => w.heap.size + 1 ≤ r ∧ r ≠ Bs ∧ r ≠ Bs + 1 ∧ r ≠ Bs + 2) (by omega) W0 (by rw [cell_of_row _ _ _ _ _ _ b2]; rfl) (fun h => absurd rfl h)) (fun _ => rfl)
      (by intro r hr; omega)
      (fun pre W => NB w0 (w.heap.size + 1) Bs (Bs + 2) (.slice a1 0 cp1) [48] W) (fun _ _ _ => False) ?hI (fun _ _ _ _ _ h => h.elim) hnb (fun _ _ _ _ _ => False) (fun _ _ _ _ _ _ _ _ _ h => h.elim) ?assign (fun _ _ _ _ _ _ _ _ _ h => h.elim) ?done (fun _ _ _ _ _ _ h => h.elim)
    case hI =>
      rintro pre A A' row h2 hg hr
      have := HZW.out
      exact h2.grown (by omega) (by omega) hg (fun r e => by have := hr r e; omega)
    case assign =>
      rintro l' pre x W r hl hlr h2 hlen
      simp at hlen
    case done =>
      rintro D xs W hD hxs h2 hK
      obtain ⟨S, hS⟩ : ∃ S : ByteArray, (⟨(Lib.decDigits (numL [])).toArray⟩ : ByteArray) = S := ⟨_, rfl⟩
      have hJ : JW w0 (w.heap.size + 1) [48] [] (.slice none 0 0) W := ⟨h2.is, World.ownsRow_nil _ _ _ _, h2.bel⟩
      have C64 := Lib.hid (c64 W hJ S (by rw [← hS]; have e : Lib.decDigits (numL []) = [48] := dec_one (by decide); rw [e]))
      have HBL := Lib.hid h2.bel
      have HK := Lib.hid hK
      have HDL := Lib.hid hD
      have hf64 : Fence.wide.fn 64 := trivial
      have HS := Lib.hid hS
      clear h2 hJ hS hK hD hxs b2 hbel hsz2 hnb
      gi_wp2_with (gi_at_call 64; refine (callsIn_wide.2 C64.out).mono ?_; rintro e w8 ⟨rfl, g1, g2, g3⟩; have G2 := Lib.hid g2; have G3 := Lib.hid g3; clear g1 g2 g3)
      have hK8 := G3.out _ _ HK.out (fun e => by injection e with e; have := HDL.out; have := HZW.out; omega) (fun c fz e => by cases e)
      refine ⟨by simp, .inl ⟨_, _, rfl, run_takeDeferred hK8, ?_⟩⟩
      have hbb := HWW.out.trans ((HBL.out.trans G2.out).mono (by omega))
      refine ⟨.string S, ?_, ⟨by rw [← HS.out], hbb.grown (grownBy_putObj' _ D _) hbb.size (fun k e => by cases e; have := HDL.out; have := HZW.out; omega)⟩⟩
      simp [results, Tryz.f146, go_sem]
  · have hz2 : ((l.length : Int) == 0) = false := beq_eq_false_iff_ne.2 (by omega)
    have HNE := Lib.hid hne
    clear hne
    refine (callsIn_wide (n := 5)).1 ?_
    refine callsIn_of_wp_marks Tryz.func146 rfl trivial ?_ rfl
    simp only [Tryz.ntmps146, List.size_toArray, List.length_cons, List.length_nil, Nat.reduceAdd, Nat.reduceSub, Array.replicate_succ, Array.replicate_zero, List.push_toArray, List.append_toArray, List.nil_append, List.cons_append]
    gi_wp2_with (gi_at_call 172; refine (callsIn_wide.2 (c172 _ _ _)).mono ?_; rintro e w2 ⟨rfl, hb2⟩; have HB2 := Lib.hid hb2; clear hb2)
    gi_wp2_with (gi_at_call 190; refine (callsIn_wide.2 (c190 _ _ _ _)).mono ?_; rintro e w' ⟨rfl, rfl⟩)
    generalize hW : World.alloc w2 _ = W0
    obtain ⟨Bs, hBs⟩ : ∃ Bs, w2.heap.size = Bs := ⟨_, rfl⟩
    rw [hBs]
    have hz0 : W0.heap.size = Bs + 1 := by rw [← hW]; simp; omega
    have hsz2 := HB2.out.size
    simp only [World.size_alloc] at hsz2
    have HZW := Lib.hid (show w.heap.size + 2 ≤ W0.heap.size by omega)
    have b1 : W0.heap[w.heap.size + 1]? = some (.cells #[.pointer none, .slice none 0 0] 83 (0, 0)) := by
      rw [← hW]
      refine blk_alloc ?_ _
      rw [HB2.out.block (w.heap.size + 1) (by simp)]
      exact blk_new _ _ (by simp) _
    have b2 : W0.heap[Bs]? = some (.cells #[.slice a1 l.length cp1] 186 (0, 0)) := by rw [← hW]; exact blk_new _ _ hBs _
    obtain ⟨w0, hw0⟩ : ∃ w0, w.alloc (.cells #[.bool false, .slice a1 l.length cp1] 39 (0, 0)) = w0 := ⟨_, rfl⟩
    have hz : w0.heap.size = w.heap.size + 1 := by rw [← hw0]; simp
    have hbel : Below (w.heap.size + 1) w0 W0 := by
      rw [← hW, ← hw0]
      exact ((((Below.refl _ _).alloc (by simp) _).trans (HB2.out.mono (by simp))).alloc (by omega) _)
    have hww : Below w.heap.size w w0 := by rw [← hw0]; exact (Below.refl _ _).alloc (Nat.le_refl _) _
    have hc1 : w0.cell? ⟨w.heap.size, 1, none⟩ = some (.slice a1 l.length cp1) := by rw [← hw0, cell_of_row _ _ _ _ _ _ (blk_new _ _ rfl _)]; rfl
    have hx1 : l ≠ [] → ∃ g o, a1 = some ⟨g, o, none⟩ ∧ g < W0.heap.size ∧ ¬ (w.heap.size + 1 ≤ g ∧ g ≠ Bs ∧ g ≠ Bs + 1 ∧ g ≠ Bs + 2) ∧ ∀ j, j < l.length → W0.cell? ⟨g, o + j, none⟩ = some (.int .i64 (atL l j)) := fun hne => by
      obtain ⟨a', cap', e', _, _, hx'⟩ := H.out
      injection e' with e1 e2 e3
      obtain ⟨g, o, ee, hg, x⟩ := hx' (by rcases l with _ | ⟨y, l⟩; exact absurd rfl hne; simp)
      exact ⟨g, o, e1.trans ee, by omega, by omega, fun j hj => (hbel.cell (p := ⟨g, o + j, none⟩) (by show g < _; omega)).trans ((hww.cell (p := ⟨g, o + j, none⟩) hg).trans (x j _ (atL_get l j hj)))⟩
    have HTP : Hid (TP w0) := Lib.hid (HP.out.below hww)
    have HC1 := Lib.hid hc1
    have HWW := Lib.hid hww
    clear hW hw0 hc1 hww HP
    refine rf_law3 (by omega) (gf := 216) (lb := #[.pointer (some ⟨Bs, 0, none⟩)]) (by rfl) (enters_of Tryz.func216 (by kernel_rfl) rfl)
      (c216g _ Bs a1 cp1 l (by have := HL.out; omega) (fun r => w.heap.size + 1 ≤ r ∧ r ≠ Bs ∧ r ≠ Bs + 1 ∧ r ≠ Bs + 2) (by omega) W0 (by rw [cell_of_row _ _ _ _ _ _ b2]; rfl) hx1) (fun _ => rfl)
      (by intro r hr; omega)
      (fun pre W => ∃ i, pre.length + i = l.length ∧ NB w0 (w.heap.size + 1) Bs (Bs + 2) (.slice a1 l.length cp1) (textL l i) W) (fun _ _ _ => False) ?hI (fun _ _ _ _ _ h => h.elim) ⟨l.length, by simp, ?h0⟩ (NbA l w w0 (w.heap.size + 1) Bs (Bs + 2) a1 cp1) ?hA ?assign ?body ?done (fun _ _ _ _ _ _ h => h.elim)
    case hI =>
      rintro pre A A' row ⟨i, h1, h2⟩ hg hr
      exact ⟨i, h1, h2.grown (by omega) (by omega) hg (fun r e => by have := hr r e; omega)⟩
    case h0 =>
      have e : textL l l.length = [] := by unfold textL; rw [if_pos (Nat.le_refl _)]
      rw [e]
      exact ⟨⟨_, _, .inl rfl, b1, ⟨rfl, .inl ⟨rfl, rfl⟩⟩, by simp [Value.ownBlock], by simp [Value.ownBlock]⟩, hbel, b2⟩
    case hA =>
      rintro l' pre x a' A r o' hl hlr ⟨h1, h2, h3, ha⟩
      exact ⟨h1.put hlr (by omega) o', h2, h3, ha⟩
    case assign =>
      rintro l' pre x W r hl hlr ⟨i, h1, h2⟩ hlen ⟨hgx, hgy⟩
      have hWl := lt_of_blk hlr
      have e : i = x + 1 := by omega
      subst e
      gi_wp2
      exact ⟨Keep.refl _ _, h2, hgx, hgy, rfl⟩
    case body =>
      rintro l' pre x a' W r hl hlr hD ⟨h1, hx, h3, rfl⟩ hlen _
      rw [hz0] at hl hD
      obtain rfl : l' = Bs + 2 := by omega
      obtain ⟨d, hd⟩ : ∃ d, atL l x = d := ⟨_, rfl⟩
      have hdx : l[x]? = some d := by rw [← hd]; unfold atL; rw [List.getD_eq_getElem?_getD, List.getElem?_eq_getElem hx]; rfl
      have hdr := HB.out d (List.mem_of_getElem? hdx)
      have kb : W.cell? ⟨w.heap.size, 1, none⟩ = some (.slice a1 l.length cp1) := (h1.bel.cell (p := ⟨w.heap.size, 1, none⟩) (by show w.heap.size < w.heap.size + 1; omega)).trans HC1.out
      have htw : TP W := HTP.out.below (by rw [hz]; exact h1.bel)
      obtain ⟨T, hT⟩ : ∃ T : ByteArray, (⟨(Lib.itoa d).toArray⟩ : ByteArray) = T := ⟨_, rfl⟩
      have hTl : T.data.toList = Lib.itoa d := by rw [← hT]
      have hTs : T.size = (Lib.itoa d).length := by rw [← hT]; rfl
      have hT9 : T.size ≤ 9 := by rw [hTs, itoa_nat d hdr.1]; exact dec_len9 (by omega)
      have C191 : Hid (∀ X, Below W.heap.size W X → Calls Tryz.prog 191 #[.int .i64 d] X fun e w' => e = .returned (.string T) ∧ Below X.heap.size X w') := Lib.hid (fun X hX => by
        have h := c191 d X hdr.1 hdr.2 (htw.below hX)
        rw [hT] at h; exact h)
      have hf191 : Fence.wide.fn 191 := trivial
      have hf34 : Fence.wide.fn 34 := trivial
      have hf67 : Fence.wide.fn 67 := trivial
      have hNl : (l.length : Int) ≤ 40 := by have := HL.out; omega
      have htl := textL_len l (x + 1) HB.out HL.out
      have H1 := Lib.hid h1
      have HLR := Lib.hid hlr
      have HD := Lib.hid hD
      have HX := Lib.hid hx
      have H3 := Lib.hid h3
      have HDX := Lib.hid hdx
      have HTL := Lib.hid hTl
      have HTX := Lib.hid htl
      have hbs : w.heap.size + 1 < Bs := by omega
      have HBS := Lib.hid hbs
      rw [hd]
      by_cases hlast : x + 1 = l.length
      · have hnl : ¬ ((x : Int) < (l.length : Int) - 1) := by omega
        have HLAST := Lib.hid hlast
        clear h1 hlr hD hx h3 hdx hTl htl hbs hlast hl hd hT hTs htw hdr hx1 b1 b2 hbel hz hz0 hsz2
        gi_wp2_with (first | (gi_at_call 191; refine (callsIn_wide.2 (C191.out _ (Below.refl _ _))).mono ?_; rintro e w5 ⟨rfl, hb5⟩; have kb5 := (hb5.cell (p := ⟨w.heap.size, 1, none⟩) (World.block_lt_of_cell? _ _ kb)).trans kb; have HB5 := Lib.hid hb5; clear hb5) | (gi_at_call 67; refine (callsIn_wide.2 (c67 (w.heap.size + 1) (w.heap.size + 1) (Lib.byteCells (textL l (x + 1))) T _ (nb_is5 H1.out HB5.out HLR.out) (by rw [Lib.byteCells_length]; have := HTX.out; omega) (by have := H1.out.lt; have := HB5.out.size; omega))).mono ?_; rintro e w6 ⟨rfl, g1, g2, g3⟩; have G1 := Lib.hid g1; have G2 := Lib.hid g2; have G3 := Lib.hid g3; clear g1 g2 g3))
        have e1 : Lib.byteCells (textL l (x + 1)) ++ Lib.strCells T = Lib.byteCells (textL l x) := by
          rw [strCells_bytes, ← byteCells_app, HTL.out, ← textL_top l x d HB.out HDX.out HLAST.out]
        have g1 := G1.out
        rw [e1] at g1
        obtain ⟨hk, hn⟩ := nb_round H1.out HBS.out HLR.out HD.out ((HB5.out.mono (Nat.le_of_lt H1.out.lt)).trans G2.out) ((others_below HB5.out).trans G3.out) (.inr g1)
        exact ⟨hk, x, by have := H3.out; simp; omega, hn⟩
      · have hnl : (x : Int) < (l.length : Int) - 1 := by omega
        have hlast2 : x + 1 < l.length := by omega
        have HLAST := Lib.hid hlast2
        obtain ⟨c, hc⟩ : ∃ c, 9 - T.size = c := ⟨_, rfl⟩
        have hcz : (9 : Int) - (T.size : Int) = (c : Int) := by omega
        obtain ⟨R, hR⟩ : ∃ R : ByteArray, (⟨(Lib.repeatL [48] c).toArray⟩ : ByteArray) = R := ⟨_, rfl⟩
        have hRs : R.size = c := by rw [← hR]; show (Lib.repeatL [48] c).length = c; rw [Lib.repeatL_length]; simp
        have hRl : R.data.toList = List.replicate (9 - (Lib.itoa d).length) 48 := by
          rw [← hR, ← hTs, hc]
          show Lib.repeatL [48] c = _
          have : ∀ n, Lib.repeatL [(48 : UInt8)] n = List.replicate n 48 := fun n => by
            induction n with
            | zero => rfl
            | succ n ih => rw [List.replicate_succ, ← ih]; rfl
          exact this c
        have C34 : Hid (∀ X, Calls Tryz.prog 34 #[.string ⟨#[48]⟩, .int .i64 ((9 : Int) - (T.size : Int))] X fun e w' => e = .returned (.string R) ∧ Below X.heap.size X w') := Lib.hid (fun X => by
          exact c34 ⟨#[48]⟩ _ c R X hcz (by rw [← hR]) (by omega) (by decide))
        have hT9z : (T.size : Int) ≤ 9 := by omega
        have HRL := Lib.hid hRl
        have nz : ¬ 9223372036854775807 < R.size + T.size := by omega
        have HRS := Lib.hid (show R.size ≤ 9 ∧ T.size ≤ 9 by omega)
        clear h1 hlr hD hx h3 hdx hTl htl hbs hlast hlast2 hl hd hT hTs htw hdr hx1 b1 b2 hbel hz hz0 hsz2 hc hcz hR hRs hRl hT9
        gi_wp2_with (first | (gi_at_call 191; refine (callsIn_wide.2 (C191.out _ (Below.refl _ _))).mono ?_; rintro e w5 ⟨rfl, hb5⟩; have kb5 := (hb5.cell (p := ⟨w.heap.size, 1, none⟩) (World.block_lt_of_cell? _ _ kb)).trans kb; have HB5 := Lib.hid hb5; clear hb5) | (gi_at_call 34; refine (callsIn_wide.2 (C34.out _)).mono ?_; rintro e w7 ⟨rfl, hb7⟩; have hb5 := HB5.out.trans (hb7.mono HB5.out.size); clear HB5 hb7; have HB5 := Lib.hid hb5; clear hb5) | (gi_at_call 67; refine (callsIn_wide.2 (c67 (w.heap.size + 1) (w.heap.size + 1) (Lib.byteCells (textL l (x + 1))) (R ++ T) _ (nb_is5 H1.out HB5.out HLR.out) (by rw [Lib.byteCells_length, ByteArray.size_append]; have := HTX.out; have := HRS.out; omega) (by have := H1.out.lt; have := HB5.out.size; omega))).mono ?_; rintro e w6 ⟨rfl, g1, g2, g3⟩; have G1 := Lib.hid g1; have G2 := Lib.hid g2; have G3 := Lib.hid g3; clear g1 g2 g3))
        have e1 : Lib.byteCells (textL l (x + 1)) ++ Lib.strCells (R ++ T) = Lib.byteCells (textL l x) := by
          have e2 : (R ++ T).data.toList = R.data.toList ++ T.data.toList := by rw [ByteArray.data_append, Array.toList_append]
          rw [strCells_bytes, ← byteCells_app, e2, HTL.out, HRL.out, ← textL_step l x d HB.out HZ.out HDX.out HLAST.out]
        have g1 := G1.out
        rw [e1] at g1
        obtain ⟨hk, hn⟩ := nb_round H1.out HBS.out HLR.out HD.out ((HB5.out.mono (Nat.le_of_lt H1.out.lt)).trans G2.out) ((others_below HB5.out).trans G3.out) (.inr g1)
        exact ⟨hk, x, by have := H3.out; simp; omega, hn⟩
    case done =>
      rintro D xs W hD hxs ⟨i, h1, h2⟩ hK
      obtain rfl : i = 0 := by omega
      have hne : l ≠ [] := fun e => HNE.out (by rw [e]; rfl)
      rw [textL_all l hne] at h2
      obtain ⟨S, hS⟩ : ∃ S : ByteArray, (⟨(Lib.decDigits (numL l)).toArray⟩ : ByteArray) = S := ⟨_, rfl⟩
      have hJ : JW w0 (w.heap.size + 1) (Lib.decDigits (numL l)) [] (.slice none 0 0) W := ⟨h2.is, World.ownsRow_nil _ _ _ _, h2.bel⟩
      have C64 := Lib.hid (c64 W hJ S hS.symm)
      have HBL := Lib.hid h2.bel
      have HK := Lib.hid hK
      have HDL := Lib.hid hD
      have hf64 : Fence.wide.fn 64 := trivial
      have HS := Lib.hid hS
      clear h2 hJ hS hK hD h1 hxs hne hx1 b1 b2 hbel hsz2
      gi_wp2_with (gi_at_call 64; refine (callsIn_wide.2 C64.out).mono ?_; rintro e w8 ⟨rfl, g1, g2, g3⟩; have G2 := Lib.hid g2; have G3 := Lib.hid g3; clear g1 g2 g3)
      have hK8 := G3.out _ _ HK.out (fun e => by injection e with e; have := HDL.out; have := HZW.out; omega) (fun c fz e => by cases e)
      refine ⟨by simp, .inl ⟨_, _, rfl, run_takeDeferred hK8, ?_⟩⟩
      have hbb := HWW.out.trans ((HBL.out.trans G2.out).mono (by omega))
      refine ⟨.string S, ?_, ⟨by rw [← HS.out], hbb.grown (grownBy_putObj' _ D _) hbb.size (fun k e => by cases e; have := HDL.out; have := HZW.out; omega)⟩⟩
      simp [results, Tryz.f146, go_sem]
end
set_option maxRecDepth 100000 in
set_option maxHeartbeats 3200000 in
theorem c98g (dv : Value) (l : List Int) (w : World) (h : IntsG w dv l) (hb : InB l) (hz : NoZ l) (hl : l.length ≤ 40) (hP : TP w) :
    Calls Tryz.prog 98 #[.agg #[.bool false, dv]] w fun e w' => e = .returned (.tuple #[.string ⟨(Lib.decDigits (numL l)).toArray⟩, .int .i64 0]) ∧ Below w.heap.size w w' := by
  obtain ⟨a, cp, rfl⟩ := h.row
  obtain ⟨S, hS⟩ : ∃ S : ByteArray, (⟨(Lib.decDigits (numL l)).toArray⟩ : ByteArray) = S := ⟨_, rfl⟩
  rw [hS]
  have KW : Hid (∀ X, Below w.heap.size w X → (Calls Tryz.prog 141 #[.agg #[.bool false, .slice a l.length cp]] X fun e w' => e = .returned (.int .i64 0) ∧ Below X.heap.size X w') ∧ (Calls Tryz.prog 146 #[.agg #[.bool false, .slice a l.length cp]] X fun e w' => e = .returned (.string S) ∧ Below X.heap.size X w')) := Lib.hid (fun X hX => by
    have h2 := c146g _ l X (h.below hX) hb hz hl (hP.below hX)
    rw [hS] at h2
    exact ⟨c141ok _ l X (h.below hX) hb hz hl, h2⟩)
  clear h hb hz hl hP hS
  have HB0 : Hid (Below w.heap.size w (w.alloc (.cells #[.bool false, .slice a l.length cp] 39 (0, 0)))) := Lib.hid ((Below.refl _ _).alloc (Nat.le_refl _) _)
  go_enter Tryz.func98, Tryz.ntmps98
  go_wp2_with (first | (go_at_call 141; ((with_reducible refine (KW.out _ HB0.out).1.mono ?_); rintro e w1 ⟨rfl, hbb⟩; have k0 := one_blk w #[.bool false, .slice a l.length cp] 39 hbb 0 _ rfl; have k1 := one_blk w #[.bool false, .slice a l.length cp] 39 hbb 1 _ rfl; have hb1 := HB0.out.trans (hbb.mono HB0.out.size); have HB1 := Lib.hid hb1; clear hb1 hbb)) | (go_at_call 146; ((with_reducible refine (KW.out _ HB1.out).2.mono ?_); rintro e w2 ⟨rfl, hbb⟩; have HB2 := Lib.hid (HB1.out.trans (hbb.mono HB1.out.size)); clear hbb)))
  go_ret2
  exact ⟨rfl, HB2.out⟩
set_option maxRecDepth 100000 in
set_option maxHeartbeats 3200000 in
theorem c62g2 (d : List Int) (x4 x5 x6 x7 : Int) (dv : Value) (w : World) (h : IntsG w dv d) (hb : InB d) (hz : NoZ d) (hl : d.length ≤ 40) (hP : TP w) :
    Calls Tryz.prog 62 #[.agg #[.int .i64 2, .string ByteArray.empty, .bool false, dv, .int .i64 x4, .int .i64 x5, .int .i64 x6, .int .i64 x7]] w fun e w' => e = .returned (.string ⟨(Lib.decDigits (numL d)).toArray⟩) ∧ Below w.heap.size w w' := by
  obtain ⟨a, cp, rfl⟩ := h.row
  obtain ⟨S, hS⟩ : ∃ S : ByteArray, (⟨(Lib.decDigits (numL d)).toArray⟩ : ByteArray) = S := ⟨_, rfl⟩
  rw [hS]
  have KW : Hid (∀ X, Below w.heap.size w X → (Calls Tryz.prog 98 #[.agg #[.bool false, .slice a d.length cp]] X fun e w' => e = .returned (.tuple #[.string S, .int .i64 0]) ∧ Below X.heap.size X w')) := Lib.hid (fun X hX => by
    have h2 := c98g _ d X (h.below hX) hb hz hl (hP.below hX)
    rw [hS] at h2
    exact h2)
  have HB0 : Hid (Below w.heap.size w (w.alloc (gkO ⟨2, ByteArray.empty, false, d, x4, x5, x6, x7⟩ (.slice a d.length cp)))) := Lib.hid ((Below.refl _ _).alloc (Nat.le_refl _) _)
  clear h hb hz hl hP hS
  go_enter Tryz.func62, Tryz.ntmps62
  go_wp2_with (go_at_call 98; ((with_reducible refine (KW.out _ HB0.out).mono ?_); rintro e w1 ⟨rfl, hbb⟩; have hb1 := HB0.out.trans (hbb.mono HB0.out.size); have HB1 := Lib.hid hb1; clear hb1 hbb))
  go_ret
  exact ⟨rfl, HB1.out⟩
set_option maxRecDepth 100000 in
set_option maxHeartbeats 3200000 in
theorem c62strg (ts : ByteArray) (tat ten tl tc : Int) (dv : Value) (w : World) (hs : ts.size ≤ 200) (hb : ∀ b ∈ ts.data.toList, okB b = true) :
    Calls Tryz.prog 62 #[.agg #[.int .i64 3, .string ts, .bool false, dv, .int .i64 tat, .int .i64 ten, .int .i64 tl, .int .i64 tc]] w fun e w' => e = .returned (.string ⟨(34 :: (ts.data.toList.flatMap escB ++ [34])).toArray⟩) ∧ Below w.heap.size w w' := by
  obtain ⟨S, hS⟩ : ∃ S : ByteArray, (⟨(34 :: (ts.data.toList.flatMap escB ++ [34])).toArray⟩ : ByteArray) = S := ⟨_, rfl⟩
  rw [hS]
  have HSS := Lib.hid hS
  have HB := Lib.hid hb
  have HSZ := Lib.hid hs
  have hJ : JW (w.alloc (.cells #[.int .i64 3, .string ts, .bool false, dv, .int .i64 tat, .int .i64 ten, .int .i64 tl, .int .i64 tc] 41 (0, 0))) (w.heap.size + 1) [] [] (.slice none 0 0) ((w.alloc (.cells #[.int .i64 3, .string ts, .bool false, dv, .int .i64 tat, .int .i64 ten, .int .i64 tl, .int .i64 tc] 41 (0, 0))).alloc (.cells #[.pointer none, .slice none 0 0] 83 (0, 0))) := by
    have h := jw_new (w.alloc (.cells #[.int .i64 3, .string ts, .bool false, dv, .int .i64 tat, .int .i64 ten, .int .i64 tl, .int .i64 tc] 41 (0, 0)))
    rw [World.size_alloc] at h
    exact h
  have HJ := Lib.hid hJ
  have KC : Hid (∀ (t : List UInt8) (X : World), JW (w.alloc (.cells #[.int .i64 3, .string ts, .bool false, dv, .int .i64 tat, .int .i64 ten, .int .i64 tl, .int .i64 tc] 41 (0, 0))) (w.heap.size + 1) t [] (.slice none 0 0) X → X.cell? ⟨w.heap.size, 1, none⟩ = some (.string ts)) := Lib.hid (fun t X h => one_blk w _ 41 (by rw [World.size_alloc]; exact h.bel) 1 _ rfl)
  have K99 : Hid (∀ (k : Nat) (h : k < ts.size) (X : World), Calls Tryz.prog 99 #[.int .u8 ((ts[k]'h).toNat : Int)] X fun e w' => e = .returned (.string ⟨(escB (ts[k]'h)).toArray⟩) ∧ w' = X) := Lib.hid (fun k h X => c99 (ts[k]'h) X (hb _ (Array.mem_toList_iff.2 (Array.getElem_mem (xs := ts.data) h))))
  obtain ⟨X0, hX0⟩ : ∃ X, w.alloc (.cells #[.int .i64 3, .string ts, .bool false, dv, .int .i64 tat, .int .i64 ten, .int .i64 tl, .int .i64 tc] 41 (0, 0)) = X := ⟨_, rfl⟩
  have HBX : Hid (Below w.heap.size w X0) := Lib.hid (by rw [← hX0]; exact (Below.refl _ _).alloc (Nat.le_refl _) _)
  have HX0 := Lib.hid hX0
  rw [hX0] at HJ KC
  clear hS hb hs hX0 hJ
  have H01 : Hid (([] : List UInt8).length + 1 ≤ 140737488355328) := Lib.hid (by simp)
  go_enter Tryz.func62, Tryz.ntmps62
  go_upto_region 7 with fail
  rw [HX0.out]
  have h1 := KC.out _ _ HJ.out
  go_wp2_with (go_at_call 65; ((with_reducible refine (c65q _ HJ.out H01.out).mono ?_); rintro e w1 ⟨rfl, hj⟩; have HJ1 := Lib.hid hj; have h2 := KC.out _ _ hj; clear hj))
  go_loopw [24] (fun s24 wr => ∃ k : Nat, k ≤ ts.size ∧ s24 = .int .i64 (k : Int) ∧ JW X0 (w.heap.size + 1) (strT ts k) [] (.slice none 0 0) wr) (fun s24 _ => ts.size - (intOf s24).toNat)
  case atStart => exact ⟨0, Nat.zero_le _, rfl, HJ1.out⟩
  case round =>
    obtain ⟨k, hk, rfl, hj⟩ := hrel
    have h3 := KC.out _ _ hj
    have HJ2 := Lib.hid hj
    clear hj h1 h2
    have hz := HSZ.out
    by_cases hlt : k < ts.size
    · have hl1 := strT_len ts k hk
      have hl2 := escB_len (ts[k]'hlt)
      have b0 : (0 : Int) ≤ (k : Int) := by omega
      have b1 : (k : Int) < (ts.size : Int) := by omega
      obtain ⟨E, hE⟩ : ∃ E : ByteArray, (⟨(escB (ts[k]'hlt)).toArray⟩ : ByteArray) = E := ⟨_, rfl⟩
      have hEs : E.size = (escB (ts[k]'hlt)).length := by rw [← hE]; rfl
      have HEl : Hid (strT ts (k + 1) = strT ts k ++ E.data.toList) := Lib.hid (by rw [strT_succ ts k hlt, ← hE])
      have K99k : Hid (∀ X : World, Calls Tryz.prog 99 #[.int .u8 ((ts[k]'hlt).toNat : Int)] X fun e w' => e = .returned (.string E) ∧ w' = X) := Lib.hid (fun X => by
        have h := K99.out k hlt X
        rw [hE] at h; exact h)
      have HL : Hid ((strT ts k).length + E.size ≤ 140737488355328) := Lib.hid (by omega)
      have hwk : wrap64 ((k : Int) + 1) = (k : Int) + 1 := by unfold wrap64; omega
      clear hl1 hl2 hE hEs
      have HZ := Lib.hid hz
      clear hz
      go_wp2_with (first | (go_at_call 99; ((with_reducible refine (K99k.out _).mono ?_); rintro e w2 ⟨rfl, rfl⟩)) | (go_at_call 67; ((with_reducible refine (c67J _ _ HJ2.out HL.out).mono ?_); rintro e w3 ⟨rfl, hj⟩; have HJ3 := Lib.hid hj; have h4 := KC.out _ _ hj; clear hj)))
      go_roundw
      case rel => exact ⟨k + 1, by omega, by go_num, by rw [HEl.out]; exact HJ3.out⟩
      case measure =>
        rw [hwk]
        show ts.size - ((k : Int) + 1).toNat < ts.size - (k : Int).toNat
        have e1 : ((k : Int) + 1).toNat = k + 1 := by omega
        have e2 : (k : Int).toNat = k := by omega
        rw [e1, e2]; exact Nat.sub_lt_sub_left hlt (Nat.lt_succ_self k)
    · have hke : k = ts.size := by omega
      have HKE := Lib.hid hke
      have b1 : ¬ ((k : Int) < (ts.size : Int)) := by omega
      have hl1 := strT_len ts k hk
      have HL : Hid ((strT ts k).length + 1 ≤ 140737488355328) := Lib.hid (by omega)
      have HS2 : Hid (S = ⟨(strT ts k ++ [34]).toArray⟩) := Lib.hid (by rw [← HSS.out, hke, strT_all]; rfl)
      clear hl1 hke hz
      go_wp2_with (first | (go_at_call 65; ((with_reducible refine (c65q _ HJ2.out HL.out).mono ?_); rintro e w2 ⟨rfl, hj⟩; have HJ3 := Lib.hid hj; have h4 := KC.out _ _ hj; clear hj)) | (go_at_call 64; ((with_reducible refine (c64 _ HJ3.out S HS2.out).mono ?_); rintro e w3 ⟨rfl, _, hbb, _⟩; have HB3 := Lib.hid hbb; clear hbb)))
      go_ret
      exact ⟨rfl, HBX.out.trans ((HJ3.out.bel.trans HB3.out).mono (by omega))⟩
set_option maxRecDepth 100000 in
theorem c62plaing (k : Int) (ts : ByteArray) (tat ten tl tc : Int) (dv : Value) (w : World) (hk : k = 1 ∨ k = 4 ∨ k = 5) : Calls Tryz.prog 62 #[.agg #[.int .i64 k, .string ts, .bool false, dv, .int .i64 tat, .int .i64 ten, .int .i64 tl, .int .i64 tc]] w fun e w' => e = .returned (.string ts) ∧ Below w.heap.size w w' := by
  rcases hk with rfl | rfl | rfl
  all_goals
    go_enter Tryz.func62, Tryz.ntmps62
    go_wp2
    go_ret
    exact ⟨rfl, (Below.refl _ _).alloc (Nat.le_refl _) _⟩
set_option maxRecDepth 100000 in
theorem c62line6g (ts : ByteArray) (tat ten tl tc : Int) (dv : Value) (w : World) : Calls Tryz.prog 62 #[.agg #[.int .i64 6, .string ts, .bool false, dv, .int .i64 tat, .int .i64 ten, .int .i64 tl, .int .i64 tc]] w fun e w' => e = .returned (.string ⟨#[45, 45, 45, 45]⟩) ∧ Below w.heap.size w w' := by
  go_enter Tryz.func62, Tryz.ntmps62
  go_wp2
  go_ret
  exact ⟨rfl, (Below.refl _ _).alloc (Nat.le_refl _) _⟩
set_option maxRecDepth 100000 in
theorem c62line7g (ts : ByteArray) (tat ten tl tc : Int) (dv : Value) (w : World) : Calls Tryz.prog 62 #[.agg #[.int .i64 7, .string ts, .bool false, dv, .int .i64 tat, .int .i64 ten, .int .i64 tl, .int .i64 tc]] w fun e w' => e = .returned (.string ⟨#[61, 61, 61, 61]⟩) ∧ Below w.heap.size w w' := by
  go_enter Tryz.func62, Tryz.ntmps62
  go_wp2
  go_ret
  exact ⟨rfl, (Below.refl _ _).alloc (Nat.le_refl _) _⟩
theorem vldK_ok {t : Gk} (h : vldK t = true) : ValidT t.tk ∧ t.neg = false := by
  unfold vldK noneK at h
  obtain ⟨k, s, n, d, x4, x5, x6, x7⟩ := t
  simp only [] at h
  split at h
  · rename_i hk
    simp only [Bool.and_eq_true, decide_eq_true_eq, Bool.not_eq_true'] at h
    obtain ⟨⟨h1, h2⟩, h3⟩ := h
    subst h3
    obtain ⟨a, b, c⟩ := okN_ok h2
    exact ⟨.num hk h1 a b c, rfl⟩
  split at h
  · rename_i hk
    simp only [Bool.and_eq_true, decide_eq_true_eq, Bool.not_eq_true'] at h
    obtain ⟨⟨⟨h1, h2⟩, h3⟩, h4⟩ := h
    exact ⟨.name hk (List.eq_nil_of_length_eq_zero h2) h3 h4, h1⟩
  split at h
  · rename_i hk
    simp only [Bool.and_eq_true, decide_eq_true_eq, Bool.not_eq_true', List.all_eq_true] at h
    obtain ⟨⟨⟨h1, h2⟩, h3⟩, h4⟩ := h
    exact ⟨.str hk (List.eq_nil_of_length_eq_zero h2) h3 h4, h1⟩
  split at h
  · rename_i hk
    simp only [Bool.and_eq_true, decide_eq_true_eq, Bool.not_eq_true'] at h
    obtain ⟨⟨h1, h2⟩, h3⟩ := h
    exact ⟨.key hk (List.eq_nil_of_length_eq_zero h2) h3, h1⟩
  split at h
  · rename_i hk
    simp only [Bool.and_eq_true, decide_eq_true_eq, Bool.not_eq_true'] at h
    obtain ⟨⟨⟨h1, h2⟩, h3⟩, h4⟩ := h
    exact ⟨.sign hk (List.eq_nil_of_length_eq_zero h2) h3 h4, h1⟩
  split at h
  · rename_i hk
    simp only [Bool.and_eq_true, decide_eq_true_eq, Bool.not_eq_true'] at h
    obtain ⟨⟨h1, h2⟩, h3⟩ := h
    exact ⟨.line hk (List.eq_nil_of_length_eq_zero h2) h3, h1⟩
  · cases h
theorem c97k (t : Gk) (dv : Value) (p : Nat) (w : World) (hT : TI w) (hp : TabAt w.heap.size p w) (ho : GkOk t) (h : IntsG w dv t.d) :
    Calls Tryz.prog 97 #[.pointer (some ⟨p, 0, none⟩), gkV t dv] w fun e w' => e = .returned (.bool (vldK t)) ∧ Below w.heap.size w w' := by
  obtain ⟨k, s, n, d, x4, x5, x6, x7⟩ := t
  simp only [] at h
  unfold vldK noneK
  simp only []
  by_cases h2 : k = 2
  · subst h2; rw [if_pos rfl]; exact c97g2 p s n d x4 x5 x6 x7 dv w h
  rw [if_neg h2]
  by_cases h1 : k = 1
  · subst h1; rw [if_pos rfl]; exact c97g1 p s n d x4 x5 x6 x7 dv w hT h
  rw [if_neg h1]
  by_cases h3 : k = 3
  · subst h3; rw [if_pos rfl]; exact c97g3 p s n d x4 x5 x6 x7 dv w h
  rw [if_neg h3]
  by_cases h4 : k = 4
  · subst h4; rw [if_pos rfl]; exact c97g4 p s n d x4 x5 x6 x7 dv w hp ho h
  rw [if_neg h4]
  by_cases h5 : k = 5
  · subst h5; rw [if_pos rfl]; exact c97g5 p s n d x4 x5 x6 x7 dv w hp ho h
  rw [if_neg h5]
  by_cases h6 : k = 6 ∨ k = 7
  · rw [if_pos h6]; exact c97g67 p k h6 s n d x4 x5 x6 x7 dv w h
  rw [if_neg h6]
  exact c97g0 p k h1 h2 h3 h4 h5 (fun e => h6 (.inl e)) (fun e => h6 (.inr e)) s n x4 x5 x6 x7 d dv w
theorem c62v (t : Gk) (dv : Value) (w : World) (h1 : ValidT t.tk) (h2 : t.neg = false) (h : IntsG w dv t.d) (hP : TP w) :
    Calls Tryz.prog 62 #[gkV t dv] w fun e w' => e = .returned (.string (spellF t.tk)) ∧ Below w.heap.size w w' := by
  obtain ⟨k, s, n, d, x4, x5, x6, x7⟩ := t
  simp only [] at h2 h
  subst h2
  cases h1 with
  | num g1 g2 g3 g4 g5 =>
    simp only [Gk.tk] at g1 g2 g3 g4 g5
    subst g1 g2
    have e : spellF (Gk.tk ⟨2, ByteArray.empty, false, d, x4, x5, x6, x7⟩) = ⟨(Lib.decDigits (numL d)).toArray⟩ := by unfold spellF Gk.tk; rw [if_pos rfl]
    rw [e]
    exact c62g2 d x4 x5 x6 x7 dv w h g3 g4 g5 hP
  | name g1 g2 g3 g4 =>
    simp only [Gk.tk] at g1 g2 g3 g4
    subst g1 g2
    exact c62plaing 1 s x4 x5 x6 x7 dv w (.inl rfl)
  | str g1 g2 g3 g4 =>
    simp only [Gk.tk] at g1 g2 g3 g4
    subst g1 g2
    exact c62strg s x4 x5 x6 x7 dv w g3 g4
  | key g1 g2 g3 =>
    simp only [Gk.tk] at g1 g2 g3
    subst g1 g2
    exact c62plaing 4 s x4 x5 x6 x7 dv w (.inr (.inl rfl))
  | sign g1 g2 g3 g4 =>
    simp only [Gk.tk] at g1 g2 g3 g4
    subst g1 g2
    exact c62plaing 5 s x4 x5 x6 x7 dv w (.inr (.inr rfl))
  | line g1 g2 g3 =>
    simp only [Gk.tk] at g1 g2 g3
    subst g2 g3
    rcases g1 with rfl | rfl
    · exact c62line6g ByteArray.empty x4 x5 x6 x7 dv w
    · exact c62line7g ByteArray.empty x4 x5 x6 x7 dv w
end Go.Proofs.YtagcfgoofiibfaaGreatDoor
set_option linter.unusedVariables false
namespace Go.Proofs.YtagcfgoofiibfaaGreatDoor
open Go Go.RowKit
def ChkG (b : Bool) (w : World) (e : Ending) (w' : World) : Prop := (b = true ∧ ChkTo w e w') ∨ (b = false ∧ e = .returned (.tuple #[.pointer none, .int .i64 25]) ∧ Below w.heap.size w w')
set_option maxRecDepth 100000 in
set_option maxHeartbeats 3200000 in
theorem c61k (v : Value) (ts : List Gk) (w : World) (hT : TI w) (hr : GkSl w v ts) (ho : ∀ t ∈ ts, GkOk t) : Calls Tryz.prog 61 #[v] w (ChkG (ts.all vldK) w) := by
  have HC := Lib.hid (c69 w hT)
  have HR := Lib.hid hr
  obtain ⟨a0, cp0, rfl, hc0, hm0, _⟩ := hr
  have hml : ts.length ≤ 9223372036854775807 := by unfold maxLen at hm0; omega
  have HT := Lib.hid hT
  have HO := Lib.hid ho
  clear hT ho hm0 hc0
  go_enter Tryz.func61, Tryz.ntmps61
  go_wp2_with (go_at_call 69; ((with_reducible refine HC.out.mono ?_); rintro e w1 ⟨p, rfl, hp, hpl, hb1⟩; have HB1 := Lib.hid hb1; have HP := Lib.hid hp; clear hb1 hp))
  go_loopw [10] (fun s10 wr => ∃ k : Nat, k ≤ ts.length ∧ s10 = .int .i64 (k : Int) ∧ (∀ (j : Nat) (t : Gk), j < k → ts[j]? = some t → vldK t = true) ∧ Below w1.heap.size w1 wr) (fun s10 _ => ts.length - (intOf s10).toNat)
  case atStart => exact ⟨0, Nat.zero_le _, rfl, fun j t h => by omega, Below.refl _ _⟩
  case round =>
    obtain ⟨k, hk, rfl, hall, hB⟩ := hrel
    have HB := Lib.hid hB
    have HALL := Lib.hid hall
    clear hB hall
    by_cases hlt : k < ts.length
    · have hw : Below w.heap.size w wr := HB1.out.trans (HB.out.mono HB1.out.size)
      obtain ⟨b, o, t, dv, rfl, hb1, ht, hi, x0, x1, x2, x3, x4, x5, x6, x7⟩ := (HR.out.below hw).at k hlt
      have hvt := HO.out t (List.mem_of_getElem? ht)
      obtain ⟨ad, cpd, rfl⟩ := hi.row
      have hTr := HT.out.below hw
      have hPr := HP.out.up HB.out HB.out.size
      have CC := Lib.hid (fun X (hX : Below wr.heap.size wr X) => c97k t _ p X (hTr.below hX) (hPr.up hX hX.size) hvt (hi.below hX))
      have b0 : (0 : Int) ≤ (k : Int) := by omega
      have b2 : (k : Int) < (ts.length : Int) := by omega
      have HW := Lib.hid hw
      have HTK := Lib.hid ht
      clear hw hi hvt hTr hPr ht
      obtain ⟨q, hq⟩ : ∃ q, vldK t = q := ⟨_, rfl⟩
      rw [hq] at CC
      have HQ := Lib.hid hq
      clear hq
      rcases q with _ | _
      · go_wp2_with (go_at_call 97; ((with_reducible refine (CC.out _ ((Below.refl _ _).alloc (Nat.le_refl _) _)).mono ?_); rintro e w2 ⟨rfl, hbb⟩; have HBB := Lib.hid hbb; clear hbb))
        go_ret2
        refine .inr ⟨?_, rfl, HW.out.trans ((((Below.refl wr.heap.size wr).alloc (Nat.le_refl _) _).trans (HBB.out.mono (by simp))).mono HW.out.size)⟩
        rw [List.all_eq_false]
        exact ⟨t, List.mem_of_getElem? HTK.out, by rw [HQ.out]; simp⟩
      · go_wp2_with (go_at_call 97; ((with_reducible refine (CC.out _ ((Below.refl _ _).alloc (Nat.le_refl _) _)).mono ?_); rintro e w2 ⟨rfl, hbb⟩; have HBB := Lib.hid hbb; clear hbb))
        go_roundw
        case rel =>
          refine ⟨k + 1, by omega, by go_num, fun j u hj hu => ?_, HB.out.trans (((Below.refl wr.heap.size wr).alloc (Nat.le_refl _) _).trans (HBB.out.mono (by simp)) |>.mono HB.out.size)⟩
          rcases Nat.lt_or_ge j k with q | q
          · exact HALL.out j u q hu
          · have : j = k := by omega
            subst this
            rw [HTK.out] at hu
            rw [← Option.some.inj hu]; exact HQ.out
        case measure => simp [intOf]; omega
    · have hd : decide (k < ts.length) = false := by simpa using hlt
      go_wp2
      go_ret2
      refine .inl ⟨?_, p, rfl, HP.out.up HB.out HB.out.size, HB1.out.trans (HB.out.mono HB1.out.size)⟩
      rw [List.all_eq_true]
      intro t ht
      obtain ⟨j, hj, rfl⟩ := List.getElem_of_mem ht
      exact HALL.out j _ (by omega) (List.getElem?_eq_getElem hj)
end Go.Proofs.YtagcfgoofiibfaaGreatDoor
set_option linter.unusedVariables false
namespace Go.Proofs.YtagcfgoofiibfaaGreatDoor
open Go Go.RowKit
theorem IntsG.alloc {w : World} {v : Value} {l : List Int} (h : IntsG w v l) (o : Obj) : IntsG (w.alloc o) v l := h.below ((Below.refl _ _).alloc (Nat.le_refl _) _)
def GtSl (w : World) (v : Value) (ts : List Tk) : Prop := ∃ a cap, v = .slice a ts.length cap ∧ ts.length ≤ cap ∧ cap ≤ maxLen ∧ (0 < ts.length → ∃ b o, a = some ⟨b, o, none⟩ ∧ b < w.heap.size ∧
    ∀ (k : Nat) (t : Tk), ts[k]? = some t → ∃ dv, ∃ z4 z5 z6 z7 : Int, IntsG w dv t.d ∧ w.cell? ⟨b, o + k * 8, none⟩ = some (.int .i64 t.k) ∧ w.cell? ⟨b, o + k * 8 + 1, none⟩ = some (.string t.s) ∧ w.cell? ⟨b, o + k * 8 + 2, none⟩ = some (.bool false) ∧ w.cell? ⟨b, o + k * 8 + 3, none⟩ = some dv ∧
      w.cell? ⟨b, o + k * 8 + 4, none⟩ = some (.int .i64 z4) ∧ w.cell? ⟨b, o + k * 8 + 5, none⟩ = some (.int .i64 z5) ∧ w.cell? ⟨b, o + k * 8 + 6, none⟩ = some (.int .i64 z6) ∧ w.cell? ⟨b, o + k * 8 + 7, none⟩ = some (.int .i64 z7))
theorem GkSl.gt {w : World} {v : Value} {ts : List Gk} (h : GkSl w v ts) (hn : ∀ t ∈ ts, t.neg = false) : GtSl w v (ts.map Gk.tk) := by
  obtain ⟨a, cap, h1, h2, h3, h4⟩ := h
  refine ⟨a, cap, by rw [List.length_map]; exact h1, by rw [List.length_map]; exact h2, h3, fun hp => ?_⟩
  rw [List.length_map] at hp
  obtain ⟨b, o, e, hlt, hc⟩ := h4 hp
  refine ⟨b, o, e, hlt, fun k t ht => ?_⟩
  rw [List.getElem?_map] at ht
  rcases hg : ts[k]? with _ | g
  · rw [hg] at ht; cases ht
  · rw [hg] at ht
    simp only [Option.map_some, Option.some.injEq] at ht
    subst ht
    obtain ⟨dv, i, x0, x1, x2, x3, x4, x5, x6, x7⟩ := hc k g hg
    rw [hn g (List.mem_of_getElem? hg)] at x2
    exact ⟨dv, _, _, _, _, i, x0, x1, x2, x3, x4, x5, x6, x7⟩
theorem GtSl.below {w w' : World} {v : Value} {ts : List Tk} (h : GtSl w v ts) (hb : Below w.heap.size w w') : GtSl w' v ts := by
  obtain ⟨a, cap, h1, h2, h3, h4⟩ := h
  refine ⟨a, cap, h1, h2, h3, fun hp => ?_⟩
  obtain ⟨b, o, e, hlt, hc⟩ := h4 hp
  refine ⟨b, o, e, Nat.lt_of_lt_of_le hlt hb.size, fun k t ht => ?_⟩
  obtain ⟨dv, z4, z5, z6, z7, i, x0, x1, x2, x3, x4, x5, x6, x7⟩ := hc k t ht
  have hbc : ∀ (o : Nat) (u : Value), w.cell? ⟨b, o, none⟩ = some u → w'.cell? ⟨b, o, none⟩ = some u := fun o u h => (hb.cell (p := ⟨b, o, none⟩) hlt).trans h
  exact ⟨dv, z4, z5, z6, z7, i.below hb, hbc _ _ x0, hbc _ _ x1, hbc _ _ x2, hbc _ _ x3, hbc _ _ x4, hbc _ _ x5, hbc _ _ x6, hbc _ _ x7⟩
theorem GtSl.sub {w : World} {a : Option Addr} {n cap : Nat} {ts : List Tk} (h : GtSl w (.slice a n cap) ts) (i j : Nat) (hij : i < j) (hj : j ≤ n) : ∃ b o, a = some ⟨b, o, none⟩ ∧ GtSl w (.slice (some ⟨b, o + i * 8, none⟩) (j - i) (cap - i)) ((ts.drop i).take (j - i)) := by
  obtain ⟨a', cap', h1, h2, h3, h4⟩ := h
  injection h1 with e1 e2 e3
  subst e1 e2 e3
  obtain ⟨b, o, e, hlt, hc⟩ := h4 (by omega)
  have hlen : ((ts.drop i).take (j - i)).length = j - i := by simp; omega
  refine ⟨b, o, e, some ⟨b, o + i * 8, none⟩, cap - i, by rw [hlen], by rw [hlen]; omega, by omega, fun _ => ⟨b, o + i * 8, rfl, hlt, fun k t ht => ?_⟩⟩
  have hk : k < j - i := by
    rcases Nat.lt_or_ge k (j - i) with q | q
    · exact q
    · rw [List.getElem?_eq_none (by rw [hlen]; exact q)] at ht; cases ht
  rw [List.getElem?_take_of_lt hk, List.getElem?_drop] at ht
  have := hc (i + k) t ht
  rw [show o + (i + k) * 8 = o + i * 8 + k * 8 by omega] at this
  exact this
section
attribute [local go_sem] Oper.semAt_some
set_option maxRecDepth 100000 in
set_option maxHeartbeats 3200000 in
theorem c173g (v1 v2 : Value) (l1 l2 : List Int) (w : World) (h1 : IntsAt w v1 l1) (h2 : IntsG w v2 l2) (hl1 : l1.length ≤ 1000000) : Calls Tryz.prog 173 #[v1, v2] w (CmpTo l1 l2 w) := by
  obtain ⟨a1, cp1, rfl⟩ := row_form h1
  obtain ⟨a2, cp2, rfl⟩ := h2.row
  by_cases hl : l1.length = l2.length
  · have hcmp : Lib.compareInt (l1.length : Int) (l2.length : Int) = 0 := (compareInt_zero _ _).2 (by omega)
    have H1 := Lib.hid h1
    have H2 := Lib.hid h2
    have HL := Lib.hid hl
    have HCMP := Lib.hid hcmp
    clear h1 h2 hl hcmp
    have hf203 : Fence.wide.fn 203 := trivial
    have hf190 : Fence.wide.fn 190 := trivial
    refine (callsIn_wide (n := 5)).1 ?_
    refine callsIn_of_wp_marks Tryz.func173 rfl trivial ?_ rfl
    simp only [Tryz.ntmps173, List.size_toArray, List.length_cons, List.length_nil, Nat.reduceAdd, Nat.reduceSub, Array.replicate_succ, Array.replicate_zero, List.push_toArray, List.append_toArray, List.nil_append, List.cons_append]
    gi_wp2_with (gi_at_call 203; refine (callsIn_wide.2 (Tryz.cmp_Compare_int _ _ _)).mono ?_; rintro e w' ⟨rfl, rfl⟩; rw [HCMP.out])
    gi_wp2_with (gi_at_call 190; refine (callsIn_wide.2 (c190 _ _ _ _)).mono ?_; rintro e w' ⟨rfl, rfl⟩)
    generalize hW : World.alloc _ _ = W0
    have hz : W0.heap.size = w.heap.size + 3 := by rw [← hW]; simp
    have hbl : Below w.heap.size w W0 := by rw [← hW]; exact (((Below.refl _ _).alloc (Nat.le_refl _) _).alloc (by simp) _).alloc (by simp; omega) _
    have b0 : W0.heap[w.heap.size]? = some (.cells #[.slice a2 l2.length cp2] 186 (0, 0)) := by rw [← hW]; exact blk_alloc (blk_alloc (blk_new _ _ rfl _) _) _
    have b1 : W0.heap[w.heap.size + 1]? = some (.cells #[.int .i64 0] 3 (0, 0)) := by rw [← hW]; exact blk_alloc (blk_new _ _ (by simp) _) _
    have b2 : W0.heap[w.heap.size + 1 + 1]? = some (.cells #[.slice a1 l1.length cp1] 186 (0, 0)) := by rw [← hW]; exact blk_new _ _ (by simp) _
    clear hW
    have i1 := H1.out.below hbl
    have i2 := H2.out.below hbl
    have hx1 : l1 ≠ [] → ∃ g, a1 = some ⟨g, 0, none⟩ ∧ g < W0.heap.size ∧ ¬ (g = w.heap.size + 1) ∧ ∀ j, j < l1.length → W0.cell? ⟨g, j, none⟩ = some (.int .i64 (atL l1 j)) := fun hne => by
      rcases H1.out.form with ⟨_, h0⟩ | ⟨g, q, e, _, _, hg, x⟩
      · exact absurd h0 hne
      · injection e with e1 e2 e3
        exact ⟨g, e1, by omega, by omega, fun j hj => (hbl.cell (p := ⟨g, j, none⟩) hg).trans (x j hj)⟩
    have hx2 : l2 ≠ [] → ∃ g o, a2 = some ⟨g, o, none⟩ ∧ g < w.heap.size ∧ ∀ j, j < l2.length → w.cell? ⟨g, o + j, none⟩ = some (.int .i64 (atL l2 j)) := fun hne => by
      obtain ⟨a', cap', e', _, _, hx'⟩ := H2.out
      injection e' with e1 e2 e3
      obtain ⟨g, o, ee, hg, x⟩ := hx' (by rcases l2 with _ | ⟨y, l⟩; exact absurd rfl hne; simp)
      exact ⟨g, o, e1.trans ee, hg, fun j hj => x j _ (atL_get l2 j hj)⟩
    have HX2 := Lib.hid hx2
    clear hx2 i1 i2
    refine rf_law (by omega) (gf := 216) (lb := #[.pointer (some ⟨w.heap.size + 1 + 1, 0, none⟩)]) (by rfl) (enters_of Tryz.func216 (by kernel_rfl) rfl)
      (c216 _ _ a1 cp1 l1 hl1 (fun r => r = w.heap.size + 1) (by omega) W0 (by rintro r rfl; omega) (by rw [cell_of_row _ _ _ _ _ _ b2]; rfl) hx1) (fun _ => rfl)
      (fun r h => h.elim) (by rintro r rfl; omega)
      (CmI l1 l2 w w.heap.size a2 cp2) (CmX l1 l2 w w.heap.size) ?hI ?hIx ⟨by simp, b0, b1, hbl⟩ (CmA l1 l2 w (.slice a1 l1.length cp1) (.slice a2 l2.length cp2) a2 cp2) ?hA ?assign ?body ?done ?stop
    case hI =>
      rintro pre A A' row ⟨h1, c0, c1, hB⟩ hg hr
      exact ⟨h1, grown_blk hg hr (by omega) c0, grown_blk hg hr (by omega) c1, hB.grown hg hB.size (fun k e => by rcases hr k e with h | h; exact h.elim; omega)⟩
    case hIx =>
      rintro c pre A A' row ⟨h1, r, h2, h3, c1, hB⟩ hg hr
      exact ⟨h1, r, h2, h3, grown_blk hg hr (by omega) c1, hB.grown hg hB.size (fun k e => by rcases hr k e with h | h; exact h.elim; omega)⟩
    case hA =>
      rintro l pre x a' A r o' hl hlr ⟨⟨h1, c0, c1, hB⟩, hx, ha⟩
      exact ⟨⟨h1, blk_putObj o' hlr c0, blk_putObj o' hlr c1, below_putObj o' hB (by have := hbl.size; omega)⟩, hx, ha⟩
    case assign =>
      rintro l pre x W r hl hlr ⟨h1, c0, c1, hB⟩ hlen hgx
      have hWl := lt_of_blk hlr
      gi_wp2
      exact ⟨Keep.refl _ _, ⟨h1, c0, c1, hB⟩, hgx, rfl⟩
    case body =>
      rintro l pre x a' W r hl hlr ⟨⟨h1, c0, c1, hB⟩, hx, rfl⟩ hlen _
      have hl12 := HL.out
      obtain ⟨g, o, rfl, hg, hxx⟩ := HX2.out (by rintro rfl; rw [List.length_nil] at hl12; omega)
      have k0 : W.cell? ⟨w.heap.size, 0, none⟩ = some (.slice (some ⟨g, o, none⟩) l2.length cp2) := by rw [cell_of_row _ _ _ _ _ _ c0]; rfl
      have k1 : W.cell? ⟨w.heap.size + 1, 0, none⟩ = some (.int .i64 0) := by rw [cell_of_row _ _ _ _ _ _ c1]; rfl
      have f1 : W.frozen? ⟨w.heap.size + 1, 0, none⟩ = false := frozen_of_row _ _ _ _ _ c1
      have kx : W.cell? ⟨g, o + x, none⟩ = some (.int .i64 (atL l2 x)) := (hB.cell (p := ⟨g, o + x, none⟩) hg).trans (hxx x (by omega))
      have q0 : (0 : Int) ≤ (x : Int) := by omega
      have q1 : (x : Int) < (l2.length : Int) := by omega
      have C0 := Lib.hid c0
      have C1 := Lib.hid c1
      have HB := Lib.hid hB
      have HH1 := Lib.hid h1
      have hf203 : Fence.wide.fn 203 := trivial
      clear c0 c1 hB h1 hl12 hxx hx1 b0 b1 b2 hbl hlr
      obtain ⟨q, hq⟩ : ∃ q, Lib.compareInt (atL l1 x) (atL l2 x) = q := ⟨_, rfl⟩
      have HQ := Lib.hid hq
      clear hq
      by_cases hq0 : q = 0
      · subst hq0
        have heq : atL l1 x = atL l2 x := (compareInt_zero _ _).1 HQ.out
        have HEQ := Lib.hid heq
        clear heq
        gi_wp2_with (gi_at_call 203; refine (callsIn_wide.2 (Tryz.cmp_Compare_int _ _ _)).mono ?_; rintro e w' ⟨rfl, rfl⟩; rw [HQ.out])
        exact ⟨Keep.refl _ _, fun j hj => (List.mem_append.1 hj).elim (HH1.out j) (fun e => by simp at e; subst e; exact HEQ.out), C0.out, C1.out, HB.out⟩
      · have hne : l1 ≠ l2 := by
          rintro rfl
          exact hq0 (by rw [← HQ.out]; exact (compareInt_zero _ _).2 rfl)
        have hqb : (q != 0) = true := by simpa using hq0
        have HNE := Lib.hid hne
        have HQ0 := Lib.hid hq0
        clear hne hq0
        gi_wp2_with (gi_at_call 203; refine (callsIn_wide.2 (Tryz.cmp_Compare_int _ _ _)).mono ?_; rintro e w' ⟨rfl, rfl⟩; rw [HQ.out])
        refine ⟨⟨by simp, fun k hk hy => ?_⟩, rfl, q, HQ0.out, HNE.out, blk_set_same C1.out _, ?_⟩
        · rw [heap_setCell_other _ _ _ _ (by rintro rfl; exact hy rfl)]
        · exact HB.out.setCell (p := ⟨w.heap.size + 1, 0, none⟩) (by simp) _
    case done =>
      rintro D xs W hD hxs ⟨h1, c0, c1, hB⟩ hK
      have k1 : W.cell? ⟨w.heap.size + 1, 0, none⟩ = some (.int .i64 0) := by rw [cell_of_row _ _ _ _ _ _ c1]; rfl
      have f1 : W.frozen? ⟨w.heap.size + 1, 0, none⟩ = false := frozen_of_row _ _ _ _ _ c1
      have heq : l1 = l2 := ints_ext HL.out (fun j hj => h1 j (hxs j hj))
      have HEQ := Lib.hid heq
      have C1 := Lib.hid c1
      have HB := Lib.hid hB
      have HK := Lib.hid hK
      clear c0 c1 hB hK b0 b1 b2 hbl hx1 heq h1 hxs
      gi_wp2
      have e1 := blk_set_same C1.out (.int .i64 0)
      have eK := blk_set_other HK.out (b := w.heap.size + 1) (i := 0) (.int .i64 0) (by omega)
      have eB := HB.out.setCell (p := ⟨w.heap.size + 1, 0, none⟩) (by simp) (.int .i64 0)
      refine ⟨by simp, .inl ⟨_, _, rfl, run_takeDeferred eK, ?_⟩⟩
      have r1 : World.cell? _ ⟨w.heap.size + 1, 0, none⟩ = _ := cell_of_row _ _ _ _ _ _ (blk_put_other e1 (.deferred none) (D := D) (by omega))
      refine ⟨.int .i64 0, ?_, ⟨0, rfl, ⟨fun _ => HEQ.out, fun _ => rfl⟩, eB.grown (grownBy_putObj' _ D _) eB.size (fun k e => by cases e; omega)⟩⟩
      simp [results, Tryz.f173, go_sem, r1]
    case stop =>
      rintro D c pre W hD _ ⟨rfl, r, hr0, hne, c1, hB⟩ hK
      gi_wp2
      refine ⟨by simp, .inl ⟨_, _, rfl, run_takeDeferred hK, ?_⟩⟩
      have r1 : World.cell? _ ⟨w.heap.size + 1, 0, none⟩ = _ := cell_of_row _ _ _ _ _ _ (blk_put_other c1 (.deferred none) (D := D) (by omega))
      refine ⟨.int .i64 r, ?_, ⟨r, rfl, ⟨fun h => absurd h hr0, fun h => absurd h hne⟩, hB.grown (grownBy_putObj' _ D _) hB.size (fun k e => by cases e; omega)⟩⟩
      simp [results, Tryz.f173, go_sem, r1]
  · have hcmp : Lib.compareInt (l1.length : Int) (l2.length : Int) ≠ 0 := fun h => hl (by have := (compareInt_zero _ _).1 h; omega)
    have hne : l1 ≠ l2 := by rintro rfl; exact hl rfl
    obtain ⟨r, hr⟩ : ∃ r, Lib.compareInt (l1.length : Int) (l2.length : Int) = r := ⟨_, rfl⟩
    rw [hr] at hcmp
    have hr2 : (r != 0) = true := by simpa using hcmp
    have HR := Lib.hid hr
    have HN := Lib.hid hne
    clear h1 h2 hl hr hne
    go_enter Tryz.func173, Tryz.ntmps173
    go_wp2_with (go_at_call 203; refine (Tryz.cmp_Compare_int _ _ _).mono ?_; rintro e w' ⟨rfl, rfl⟩; rw [HR.out])
    refine bodyPost_ret (v := .int .i64 r) (by simp [results, Tryz.results173, go_sem]) rfl ?_
    exact ⟨r, rfl, ⟨fun h => absurd h hcmp, fun h => absurd h HN.out⟩, ((Below.refl w.heap.size w).alloc (Nat.le_refl _) _).alloc (by simp) _⟩
end
set_option maxRecDepth 100000 in
set_option maxHeartbeats 3200000 in
theorem c111g (v1 v2 : Value) (l1 l2 : List Int) (w : World) (h1 : IntsAt w v1 l1) (h2 : IntsG w v2 l2) (hl1 : l1.length ≤ 1000000) : Calls Tryz.prog 111 #[.agg #[.bool false, v1], .agg #[.bool false, v2]] w (CmpTo l1 l2 w) := by
  obtain ⟨a1, cp1, rfl⟩ := row_form h1
  obtain ⟨a2, cp2, rfl⟩ := h2.row
  have HC := Lib.hid (fun X (hX : Below w.heap.size w X) => c173g _ _ l1 l2 X (h1.below hX) (h2.below hX) hl1)
  clear h1 h2
  have KS : Hid (∀ X, Below (w.heap.size + 2) ((w.alloc (.cells #[.bool false, .slice a1 l1.length cp1] 39)).alloc (.cells #[.bool false, .slice a2 l2.length cp2] 39)) X →
      X.cell? ⟨w.heap.size, 0, none⟩ = some (.bool false) ∧ X.cell? ⟨w.heap.size, 1, none⟩ = some (.slice a1 l1.length cp1) ∧ X.cell? ⟨w.heap.size + 1, 0, none⟩ = some (.bool false) ∧ X.cell? ⟨w.heap.size + 1, 1, none⟩ = some (.slice a2 l2.length cp2)) := Lib.hid (fun X hX => by
    have b1 : X.heap[w.heap.size]? = some (.cells #[.bool false, .slice a1 l1.length cp1] 39 (0, 0)) := (hX.block _ (by omega)).trans (blk_alloc (blk_new _ _ rfl _) _)
    have b2 : X.heap[w.heap.size + 1]? = some (.cells #[.bool false, .slice a2 l2.length cp2] 39 (0, 0)) := (hX.block _ (by omega)).trans (blk_new _ _ (by simp) _)
    exact ⟨by rw [cell_of_row _ _ _ _ _ _ b1]; rfl, by rw [cell_of_row _ _ _ _ _ _ b1]; rfl, by rw [cell_of_row _ _ _ _ _ _ b2]; rfl, by rw [cell_of_row _ _ _ _ _ _ b2]; rfl⟩)
  have hW0 : Below w.heap.size w ((w.alloc (.cells #[.bool false, .slice a1 l1.length cp1] 39)).alloc (.cells #[.bool false, .slice a2 l2.length cp2] 39)) := ((Below.refl _ _).alloc (Nat.le_refl _) _).alloc (by simp) _
  have HW0 := Lib.hid hW0
  clear hW0
  have HB0 : Hid (Below (w.heap.size + 2) ((w.alloc (.cells #[.bool false, .slice a1 l1.length cp1] 39)).alloc (.cells #[.bool false, .slice a2 l2.length cp2] 39)) ((w.alloc (.cells #[.bool false, .slice a1 l1.length cp1] 39)).alloc (.cells #[.bool false, .slice a2 l2.length cp2] 39))) := Lib.hid (Below.refl _ _)
  go_enter Tryz.func111, Tryz.ntmps111
  go_wp2
  go_region_held3 (fun w' : World => w'.cell? ⟨w.heap.size, 0, none⟩ = some (.bool false) ∧ w'.cell? ⟨w.heap.size, 1, none⟩ = some (.slice a1 l1.length cp1) ∧ w'.cell? ⟨w.heap.size + 1, 0, none⟩ = some (.bool false) ∧ w'.cell? ⟨w.heap.size + 1, 1, none⟩ = some (.slice a2 l2.length cp2)) (first | exact KS.out _ HB0.out | exact KS.out _ HB0.out.drew)
    (first | (go_at_call 172; ((with_reducible refine (c172 _ _ _).mono ?_); rintro e w' ⟨rfl, hbb⟩; replace HB0 : Hid (Below (w.heap.size + 2) ((w.alloc (.cells #[.bool false, .slice a1 l1.length cp1] 39)).alloc (.cells #[.bool false, .slice a2 l2.length cp2] 39)) w') := Lib.hid (by first | exact HB0.out.trans (hbb.mono (by have := HB0.out.size; simp at this ⊢ <;> omega)) | exact HB0.out.drew.trans (hbb.mono (by have := HB0.out.size; simp at this ⊢ <;> omega))); clear hbb)) | (go_at_call 173; ((with_reducible refine (HC.out _ (by first | exact HW0.out.trans (HB0.out.mono (by omega)) | exact HW0.out.trans (HB0.out.drew.mono (by omega)))).mono ?_); rintro e w' ⟨r, rfl, hr, hbb⟩; have HR := Lib.hid hr; replace HB0 : Hid (Below (w.heap.size + 2) ((w.alloc (.cells #[.bool false, .slice a1 l1.length cp1] 39)).alloc (.cells #[.bool false, .slice a2 l2.length cp2] 39)) w') := Lib.hid (by first | exact HB0.out.trans (hbb.mono (by have := HB0.out.size; simp at this ⊢ <;> omega)) | exact HB0.out.drew.trans (hbb.mono (by have := HB0.out.size; simp at this ⊢ <;> omega))); clear hr hbb)))
  all_goals
    go_wp2
    go_ret
    exact ⟨r, rfl, HR.out, HW0.out.trans (HB0.out.mono (by omega))⟩
set_option maxRecDepth 100000 in
set_option maxHeartbeats 1600000 in
theorem c72g (a b : Tk) (da db : Value) (z4 z5 z6 z7 : Int) (w : World) (h1 : IntsAt w da a.d) (h2 : IntsG w db b.d) (hl1 : a.d.length ≤ 1000000) : Calls Tryz.prog 72 #[tokV a da, .agg #[.int .i64 b.k, .string b.s, .bool false, db, .int .i64 z4, .int .i64 z5, .int .i64 z6, .int .i64 z7]] w fun e w' => e = .returned (.bool (likeF a b)) ∧ Below w.heap.size w w' := by
  obtain ⟨a1, cp1, rfl⟩ := row_form h1
  obtain ⟨a2, cp2, rfl⟩ := h2.row
  show Calls Tryz.prog 72 #[.agg #[_, _, _, _, _, _, _, _], .agg #[_, _, _, _, _, _, _, _]] w _
  obtain ⟨ak, sa, ad, aat, aen, al, ac⟩ := a
  obtain ⟨bk, sb, bd, bat, ben, bl, bc⟩ := b
  simp only [likeF] at *
  have HC := Lib.hid (fun X Y => c111g _ _ ad bd _ ((h1.alloc X).alloc Y) ((h2.alloc X).alloc Y) hl1)
  clear h1 h2
  by_cases hk : ak = bk
  · by_cases hs : sa = sb
    · subst hk hs
      go_enter Tryz.func72, Tryz.ntmps72
      go_wp2_with (go_at_call 111; ((with_reducible refine (HC.out _ _).mono ?_); rintro e w' ⟨r, rfl, hr, hd⟩; have HD := Lib.hid hd; have HR := Lib.hid hr; clear hd hr))
      go_ret
      refine ⟨ret_bool ?_, (((Below.refl _ _).alloc (Nat.le_refl _) _).alloc (by simp) _).trans (HD.out.mono (by simp; omega))⟩
      have := HR.out
      by_cases h : r = 0
      · have h2 := this.1 h
        subst h h2; simp
      · have h2 : ¬ ad = bd := fun q => h (this.2 q)
        have e1 : (r == 0) = false := by simpa using h
        have e2 : (ad == bd) = false := by simpa using h2
        rw [e1, e2]; simp
    · subst hk
      have hs2 : ¬ sa.toList = sb.toList := fun q => hs (str_eq q)
      go_enter Tryz.func72, Tryz.ntmps72
      go_wp2
      go_ret
      exact ⟨ret_bool (by simp [hs]), (((Below.refl _ _).alloc (Nat.le_refl _) _).alloc (by simp) _)⟩
  · have e1 : (ak == bk) = false := by simpa using hk
    go_enter Tryz.func72, Tryz.ntmps72
    go_wp2
    go_ret
    exact ⟨ret_bool (by rw [e1]; rfl), (((Below.refl _ _).alloc (Nat.le_refl _) _).alloc (by simp) _)⟩
set_option maxRecDepth 100000 in
set_option maxHeartbeats 6400000 in
theorem c63g (h68 : C68) (s : ByteArray) (p : Nat) (v : Value) (l : List Tk) (w : World) (HT : TabAt w.heap.size p w) (hr : GtSl w v l) (hsz : s.size ≤ 1073741824) :
    Calls Tryz.prog 63 #[.pointer (some ⟨p, 0, none⟩), .string s, v] w fun e w' => e = .returned (.bool (readF s l)) ∧ Below w.heap.size w w' := by
  have hc := h68 s p w HT hsz
  obtain ⟨r, hrd⟩ : ∃ r, readF s l = r := ⟨_, rfl⟩
  rw [hrd]
  unfold readF at hrd
  rcases hsc : scan s with ⟨a, er⟩ | ⟨ps, ys⟩
  · rw [hsc] at hc hrd
    have he := scan_err s a er hsc
    have he1 : (er != 0) = true := by simp; omega
    obtain ⟨a2, cp2, rfl, _⟩ := hr
    have HC := Lib.hid hc
    have HRD := Lib.hid hrd
    clear hc hrd hsc he HT
    go_enter Tryz.func63, Tryz.ntmps63
    go_wp2_with (go_at_call 68; ((with_reducible refine HC.out.mono ?_); rintro e w1 ⟨rfl, hb1⟩; have HB1 := Lib.hid hb1; clear hb1))
    go_ret
    exact ⟨ret_bool HRD.out, HB1.out⟩
  · have hd := scan_d hsc
    rw [hsc] at hc hrd
    have hrd' : likeL ps l = r := hrd
    have HC := Lib.hid hc
    have HRD := Lib.hid hrd'
    have HR := Lib.hid hr
    have HD := Lib.hid hd
    obtain ⟨a2, cp2, rfl, hmc, hmx, _⟩ := hr
    have hmxl : l.length ≤ 9223372036854775807 := by unfold maxLen at hmx; omega
    clear hc hrd hrd' hsc hd HT hmc
    by_cases hl : ps.length = l.length
    · by_cases hz : l.length = 0
      · have e1 : ps = [] := List.eq_nil_of_length_eq_zero (by omega)
        have e2 : l = [] := List.eq_nil_of_length_eq_zero hz
        subst e1 e2
        clear hl hz
        go_enter Tryz.func63, Tryz.ntmps63
        go_wp2_with (go_at_call 68; ((with_reducible refine HC.out.mono ?_); rintro e w1 ⟨g, i, rfl, hg, hS, hb1⟩; obtain ⟨vo, ko, hvo⟩ := hS.row; obtain ⟨ao, co, rfl, _⟩ := hvo.shape; have HB1 := Lib.hid hb1; clear hb1 hS hvo))
        go_loopw [32] (fun s32 wr => s32 = .int .i64 0 ∧ wr = w1) (fun _ _ => 0)
        case atStart => exact ⟨rfl, rfl⟩
        case round =>
          obtain ⟨rfl, rfl⟩ := hrel
          go_wp2
          go_ret
          exact ⟨ret_bool HRD.out, HB1.out⟩
      · have hn3 : ((ps.length : Int) != (l.length : Int)) = false := by simp [hl]
        have hn4 : ((l.length : Int) != (l.length : Int)) = false := by simp
        have hn : l.length ≤ 9223372036854775807 := hmxl
        have hpos : 0 < l.length := by omega
        have HL := Lib.hid hl
        obtain ⟨a2', q2, e2, _, _, hcell⟩ := HR.out
        injection e2 with e2a e2b e2c
        subst e2a e2c
        obtain ⟨g2, o2, rfl, hg2, _⟩ := hcell hpos
        clear hl hz hmx e2b
        go_enter Tryz.func63, Tryz.ntmps63
        go_wp2_with (go_at_call 68; ((with_reducible refine HC.out.mono ?_); rintro e w1 ⟨g, i, rfl, hg, hS, hb1⟩; obtain ⟨vo, ko, hvo⟩ := hS.row; obtain ⟨g1, cp1, rfl, _, _, hg1, hA⟩ := hvo.cells (by have := HL.out; omega); have HB1 := Lib.hid hb1; have HA := Lib.hid hA; rw [HL.out] at ko; have hgl := World.block_lt_of_cell? w1 _ ko; clear hb1 hS hvo hA))
        go_loopw [32] (RdL ps l w1) (fun s32 _ => l.length - (intOf s32).toNat)
        case atStart => exact ⟨0, Nat.zero_le _, rfl, fun j x y h => by omega, Below.refl _ _⟩
        case round =>
          obtain ⟨k, hk, rfl, heq, hbl⟩ := hrel
          have HEQ := Lib.hid heq
          have HBL := Lib.hid hbl
          clear heq hbl
          by_cases hlt : k < l.length
          · obtain ⟨x, hx⟩ : ∃ x, ps[k]? = some x := ⟨_, List.getElem?_eq_getElem (by have := HL.out; omega)⟩
            obtain ⟨y, hy⟩ : ∃ y, l[k]? = some y := ⟨_, List.getElem?_eq_getElem hlt⟩
            obtain ⟨dx, ix, x0, x1, x2, x3, x4, x5, x6, x7⟩ := HA.out k x hx
            obtain ⟨_, _, e3, _, _, hB⟩ := HR.out.below HB1.out
            injection e3 with e3a e3b e3c
            subst e3a e3c
            obtain ⟨_, _, e4, _, hB⟩ := hB hpos
            injection e4 with e4; injection e4 with e4a e4b e4c
            subst e4a e4b
            obtain ⟨dy, z4, z5, z6, z7, iy, y0, y1, y2, y3, y4, y5, y6, y7⟩ := hB k y hy
            have hg2' : g2 < w1.heap.size := by have := HB1.out.size; omega
            have CC := Lib.hid (fun X (hX : Below w1.heap.size w1 X) => c72g x y dx dy z4 z5 z6 z7 X (ix.below hX) (iy.below hX) (HD.out x (List.mem_of_getElem? hx)))
            have HX := Lib.hid hx
            have HY := Lib.hid hy
            have b0 : (0 : Int) ≤ (k : Int) := by omega
            have b1 : (k : Int) < (l.length : Int) := by omega
            have KS : Hid (∀ W, Below w1.heap.size w1 W → W.cell? ⟨g, 3, none⟩ = some (.slice (some ⟨g1, 0, none⟩) l.length cp1) ∧ W.cell? ⟨g1, k * 8, none⟩ = some (.int .i64 x.k) ∧ W.cell? ⟨g1, k * 8 + 1, none⟩ = some (.string x.s) ∧ W.cell? ⟨g1, k * 8 + 2, none⟩ = some (.bool false) ∧ W.cell? ⟨g1, k * 8 + 3, none⟩ = some dx ∧ W.cell? ⟨g1, k * 8 + 4, none⟩ = some (.int .i64 (x.at_ : Int)) ∧ W.cell? ⟨g1, k * 8 + 5, none⟩ = some (.int .i64 (x.en : Int)) ∧ W.cell? ⟨g1, k * 8 + 6, none⟩ = some (.int .i64 x.line) ∧ W.cell? ⟨g1, k * 8 + 7, none⟩ = some (.int .i64 x.col) ∧ W.cell? ⟨g2, o2 + k * 8, none⟩ = some (.int .i64 y.k) ∧ W.cell? ⟨g2, o2 + k * 8 + 1, none⟩ = some (.string y.s) ∧ W.cell? ⟨g2, o2 + k * 8 + 2, none⟩ = some (.bool false) ∧ W.cell? ⟨g2, o2 + k * 8 + 3, none⟩ = some dy ∧ W.cell? ⟨g2, o2 + k * 8 + 4, none⟩ = some (.int .i64 z4) ∧ W.cell? ⟨g2, o2 + k * 8 + 5, none⟩ = some (.int .i64 z5) ∧ W.cell? ⟨g2, o2 + k * 8 + 6, none⟩ = some (.int .i64 z6) ∧ W.cell? ⟨g2, o2 + k * 8 + 7, none⟩ = some (.int .i64 z7)) := Lib.hid (fun W hX => by
              have hbc : ∀ (g o : Nat) (u : Value), g < w1.heap.size → w1.cell? ⟨g, o, none⟩ = some u → W.cell? ⟨g, o, none⟩ = some u := fun g o u hg h => (hX.cell (p := ⟨g, o, none⟩) hg).trans h
              exact ⟨hbc _ _ _ hgl ko, hbc _ _ _ hg1 x0, hbc _ _ _ hg1 x1, hbc _ _ _ hg1 x2, hbc _ _ _ hg1 x3, hbc _ _ _ hg1 x4, hbc _ _ _ hg1 x5, hbc _ _ _ hg1 x6, hbc _ _ _ hg1 x7, hbc _ _ _ hg2' y0, hbc _ _ _ hg2' y1, hbc _ _ _ hg2' y2, hbc _ _ _ hg2' y3, hbc _ _ _ hg2' y4, hbc _ _ _ hg2' y5, hbc _ _ _ hg2' y6, hbc _ _ _ hg2' y7⟩)
            have hb2 : k < l.length := hlt
            clear ix iy hx hy x0 x1 x2 x3 x4 x5 x6 x7 y0 y1 y2 y3 y4 y5 y6 y7 e3b e4c hB ko
            obtain ⟨q, hq⟩ : ∃ q, likeF x y = q := ⟨_, rfl⟩
            rw [hq] at CC
            have HQ := Lib.hid hq
            clear hq
            rcases q with _ | _
            · have hno : r = false := by
                rw [← HRD.out]
                rcases hl : likeL ps l with _ | _
                · rfl
                · have := ((likeL_iff ps l).1 hl).2 k x y HX.out HY.out
                  rw [HQ.out] at this; cases this
              have HNO := Lib.hid hno
              clear hno
              go_wp2
              go_region_held3 (fun W : World => W.cell? ⟨g, 3, none⟩ = some (.slice (some ⟨g1, 0, none⟩) l.length cp1) ∧ W.cell? ⟨g1, k * 8, none⟩ = some (.int .i64 x.k) ∧ W.cell? ⟨g1, k * 8 + 1, none⟩ = some (.string x.s) ∧ W.cell? ⟨g1, k * 8 + 2, none⟩ = some (.bool false) ∧ W.cell? ⟨g1, k * 8 + 3, none⟩ = some dx ∧ W.cell? ⟨g1, k * 8 + 4, none⟩ = some (.int .i64 (x.at_ : Int)) ∧ W.cell? ⟨g1, k * 8 + 5, none⟩ = some (.int .i64 (x.en : Int)) ∧ W.cell? ⟨g1, k * 8 + 6, none⟩ = some (.int .i64 x.line) ∧ W.cell? ⟨g1, k * 8 + 7, none⟩ = some (.int .i64 x.col) ∧ W.cell? ⟨g2, o2 + k * 8, none⟩ = some (.int .i64 y.k) ∧ W.cell? ⟨g2, o2 + k * 8 + 1, none⟩ = some (.string y.s) ∧ W.cell? ⟨g2, o2 + k * 8 + 2, none⟩ = some (.bool false) ∧ W.cell? ⟨g2, o2 + k * 8 + 3, none⟩ = some dy ∧ W.cell? ⟨g2, o2 + k * 8 + 4, none⟩ = some (.int .i64 z4) ∧ W.cell? ⟨g2, o2 + k * 8 + 5, none⟩ = some (.int .i64 z5) ∧ W.cell? ⟨g2, o2 + k * 8 + 6, none⟩ = some (.int .i64 z6) ∧ W.cell? ⟨g2, o2 + k * 8 + 7, none⟩ = some (.int .i64 z7)) (first | exact KS.out _ HBL.out | exact KS.out _ HBL.out.drew | exact KS.out _ HBN.out | exact KS.out _ HBN.out.drew)
                ((go_at_call 72; ((with_reducible refine (CC.out _ (by first | exact HBL.out | exact HBL.out.drew)).mono ?_); rintro e w' ⟨rfl, hbb⟩; have HBN : Hid (Below w1.heap.size w1 w') := Lib.hid (by first | exact HBL.out.trans (hbb.mono HBL.out.size) | exact HBL.out.drew.trans (hbb.mono HBL.out.size)); clear hbb)))
              go_wp2
              go_ret
              exact ⟨ret_bool HNO.out.symm, HB1.out.trans (HBN.out.mono HB1.out.size)⟩
            · skip
              go_wp2
              go_region_held3 (fun W : World => W.cell? ⟨g, 3, none⟩ = some (.slice (some ⟨g1, 0, none⟩) l.length cp1) ∧ W.cell? ⟨g1, k * 8, none⟩ = some (.int .i64 x.k) ∧ W.cell? ⟨g1, k * 8 + 1, none⟩ = some (.string x.s) ∧ W.cell? ⟨g1, k * 8 + 2, none⟩ = some (.bool false) ∧ W.cell? ⟨g1, k * 8 + 3, none⟩ = some dx ∧ W.cell? ⟨g1, k * 8 + 4, none⟩ = some (.int .i64 (x.at_ : Int)) ∧ W.cell? ⟨g1, k * 8 + 5, none⟩ = some (.int .i64 (x.en : Int)) ∧ W.cell? ⟨g1, k * 8 + 6, none⟩ = some (.int .i64 x.line) ∧ W.cell? ⟨g1, k * 8 + 7, none⟩ = some (.int .i64 x.col) ∧ W.cell? ⟨g2, o2 + k * 8, none⟩ = some (.int .i64 y.k) ∧ W.cell? ⟨g2, o2 + k * 8 + 1, none⟩ = some (.string y.s) ∧ W.cell? ⟨g2, o2 + k * 8 + 2, none⟩ = some (.bool false) ∧ W.cell? ⟨g2, o2 + k * 8 + 3, none⟩ = some dy ∧ W.cell? ⟨g2, o2 + k * 8 + 4, none⟩ = some (.int .i64 z4) ∧ W.cell? ⟨g2, o2 + k * 8 + 5, none⟩ = some (.int .i64 z5) ∧ W.cell? ⟨g2, o2 + k * 8 + 6, none⟩ = some (.int .i64 z6) ∧ W.cell? ⟨g2, o2 + k * 8 + 7, none⟩ = some (.int .i64 z7)) (first | exact KS.out _ HBL.out | exact KS.out _ HBL.out.drew | exact KS.out _ HBN.out | exact KS.out _ HBN.out.drew)
                ((go_at_call 72; ((with_reducible refine (CC.out _ (by first | exact HBL.out | exact HBL.out.drew)).mono ?_); rintro e w' ⟨rfl, hbb⟩; have HBN : Hid (Below w1.heap.size w1 w') := Lib.hid (by first | exact HBL.out.trans (hbb.mono HBL.out.size) | exact HBL.out.drew.trans (hbb.mono HBL.out.size)); clear hbb)))
              go_wp2
              go_roundw
              case rel => exact ⟨k + 1, by omega, by go_num, fun j x' y' hj hx' hy' => by
                rcases Nat.lt_or_ge j k with h | h
                · exact HEQ.out j x' y' h hx' hy'
                · obtain rfl : j = k := by omega
                  rw [HX.out] at hx'; rw [HY.out] at hy'
                  injection hx' with hx'; injection hy' with hy'
                  subst hx' hy'; exact HQ.out, HBN.out⟩
              case measure => simp [intOf]; omega
          · have hd : decide (k < l.length) = false := by simpa using hlt
            go_wp2
            go_ret
            refine ⟨ret_bool ?_, HB1.out.trans (HBL.out.mono HB1.out.size)⟩
            rw [← HRD.out]
            refine ((likeL_iff ps l).2 ⟨HL.out, fun j x y hx hy => HEQ.out j x y ?_ hx hy⟩).symm
            have : j < l.length := by
              rcases Nat.lt_or_ge j l.length with h | h
              · exact h
              · rw [List.getElem?_eq_none h] at hy; cases hy
            omega
    · have e1 : ((ps.length : Int) != (l.length : Int)) = true := by simp; omega
      have hno : r = false := by rw [← HRD.out]; exact likeL_no hl
      have HNO := Lib.hid hno
      clear hl hno
      go_enter Tryz.func63, Tryz.ntmps63
      go_wp2_with (go_at_call 68; ((with_reducible refine HC.out.mono ?_); rintro e w1 ⟨g, i, rfl, hg, hS, hb1⟩; obtain ⟨vo, ko, hvo⟩ := hS.row; obtain ⟨ao, co, rfl, _⟩ := hvo.shape; have HB1 := Lib.hid hb1; clear hb1 hS hvo))
      go_ret
      exact ⟨ret_bool HNO.out.symm, HB1.out⟩
end Go.Proofs.YtagcfgoofiibfaaGreatDoor
set_option linter.unusedVariables false
namespace Go.Proofs.YtagcfgoofiibfaaGreatDoor
open Go Go.RowKit
set_option maxRecDepth 100000 in
set_option maxHeartbeats 1600000 in
theorem c168g (v1 v2 : Value) (l1 l2 : List Int) (w : World) (h1 : IntsAt w v1 l1) (h2 : IntsG w v2 l2) (hl1 : l1.length ≤ 1000000) : Calls Tryz.prog 168 #[v1, v2] w (SzTo l1 l2 w) := by
  obtain ⟨a1, cp1, rfl⟩ := row_form h1
  obtain ⟨a2, cp2, rfl⟩ := h2.row
  by_cases c1 : l1.length < l2.length
  · have H1 := Lib.hid h1
    clear h1 h2
    go_enter Tryz.func168, Tryz.ntmps168
    go_wp2
    go_ret
    exact SzTo.mk _ (by constructor; intro h; cases h; rintro rfl; omega) (Dr.refl _)
  by_cases c2 : l2.length < l1.length
  · clear h1 h2
    go_enter Tryz.func168, Tryz.ntmps168
    go_wp2
    go_ret
    exact SzTo.mk _ (by constructor; intro h; cases h; rintro rfl; omega) (Dr.refl _)
  have hl : l2.length = l1.length := by omega
  clear c1 c2
  by_cases hz : l1.length = 0
  · have e : l1 = l2 := by rw [List.eq_nil_of_length_eq_zero hz, List.eq_nil_of_length_eq_zero (by omega : l2.length = 0)]
    subst e
    rw [hz]
    have HE := Lib.hid hl
    clear h1 h2 hl hz
    go_enter Tryz.func168, Tryz.ntmps168
    go_wp2
    go_loopw [5] (fun s5 wr => s5 = .int .i64 (-1) ∧ wr = w) (fun _ _ => 0)
    case atStart => exact ⟨rfl, rfl⟩
    case round =>
      obtain ⟨rfl, rfl⟩ := hrel
      go_wp2
      go_ret
      exact SzTo.mk _ (by simp) (Dr.refl _)
  · rcases h1.form with ⟨_, h0⟩ | ⟨g1, q1, e1, _, _, _, x1⟩
    · rw [h0] at hz; exact absurd rfl hz
    obtain ⟨a2', q2, e2, _, _, hx2⟩ := h2
    obtain ⟨g2, o2, rfl, _, x2'⟩ := hx2 (by omega)
    have x2 : ∀ j, j < l2.length → w.cell? ⟨g2, o2 + j, none⟩ = some (.int .i64 (atL l2 j)) := fun j hj => x2' j _ (atL_get l2 j hj)
    injection e1 with e1a e1b e1c
    injection e2 with e2a e2b e2c
    subst e1a e1c e2a e2c
    rw [hl] at x2 ⊢
    have X1 := Lib.hid x1
    have X2 := Lib.hid x2
    have HL := Lib.hid hl
    have hpos : 0 < l1.length := by omega
    clear h1 x1 x2 hl hz e1b e2b hx2 x2'
    go_enter Tryz.func168, Tryz.ntmps168
    go_wp2
    go_loopw [5] (SzL l1 l2 w) (fun s5 _ => (intOf s5 + 1).toNat)
    case atStart => exact ⟨l1.length, Nat.le_refl _, rfl, fun j a b => by omega, Dr.refl _⟩
    case round =>
      obtain ⟨k, hk, rfl, heq, hdr⟩ := hrel
      have HEQ := Lib.hid heq
      have HDR := Lib.hid hdr
      clear heq hdr
      rcases k with _ | k
      · go_wp2
        go_ret
        exact SzTo.mk _ (by simp; exact ints_ext HL.out.symm (fun j hj => HEQ.out j (Nat.zero_le _) hj)) HDR.out
      · have ek : ((k + 1 : Nat) : Int) - 1 = (k : Int) := by omega
        rw [ek]
        clear ek
        have k1 := dr_cell HDR.out (X1.out k (by omega))
        have k2 := dr_cell HDR.out (X2.out k (by omega))
        have b1 : (k : Int) < (l1.length : Int) := by omega
        have b0 : (0 : Int) ≤ (k : Int) := by omega
        rcases Int.lt_trichotomy (atL l1 k) (atL l2 k) with hc | hc | hc
        · go_wp2
          go_quiet (fail)
          go_wp2
          go_ret
          exact SzTo.mk _ (by constructor; intro h; cases h; rintro rfl; omega) (HDR.out.drewN _)
        · have n1 : ¬ atL l1 k < atL l2 k := by omega
          have n2 : ¬ atL l2 k < atL l1 k := by omega
          have HC := Lib.hid hc
          clear hc
          go_wp2
          go_quiet (fail)
          go_wp2
          go_quiet (fail)
          go_wp2
          go_roundw
          case rel => exact ⟨k, by omega, rfl, fun j a b => by
            rcases Nat.lt_or_ge k j with q | q
            · exact HEQ.out j q b
            · rw [show j = k by omega]; exact HC.out, HDR.out.drewN _⟩
          case measure => simp [intOf]
        · have n1 : ¬ atL l1 k < atL l2 k := by omega
          go_wp2
          go_quiet (fail)
          go_wp2
          go_quiet (fail)
          go_wp2
          go_ret
          exact SzTo.mk _ (by constructor; intro h; cases h; rintro rfl; omega) ((HDR.out.drewN _).drewN _)
set_option maxRecDepth 100000 in
set_option maxHeartbeats 1600000 in
theorem c108g (v1 v2 : Value) (l1 l2 : List Int) (w : World) (h1 : IntsAt w v1 l1) (h2 : IntsG w v2 l2) (hl1 : l1.length ≤ 1000000) : Calls Tryz.prog 108 #[.agg #[.bool false, v1], .agg #[.bool false, v2]] w (CmpTo l1 l2 w) := by
  obtain ⟨a1, cp1, rfl⟩ := row_form h1
  obtain ⟨a2, cp2, rfl⟩ := h2.row
  have HC := Lib.hid (c168g _ _ l1 l2 _ ((h1.alloc (.cells #[.bool false, .slice a1 l1.length cp1] 39)).alloc (.cells #[.bool false, .slice a2 l2.length cp2] 39)) ((h2.alloc (.cells #[.bool false, .slice a1 l1.length cp1] 39)).alloc (.cells #[.bool false, .slice a2 l2.length cp2] 39)) hl1)
  clear h1 h2
  go_enter Tryz.func108, Tryz.ntmps108
  go_wp2_with (go_at_call 168; ((with_reducible refine HC.out.mono ?_); rintro e w' ⟨r, rfl, hr, hd⟩; have HR := Lib.hid hr; have HD := Lib.hid hd; clear hr hd))
  go_ret
  exact ⟨r, rfl, HR.out, (((Below.refl _ _).alloc (Nat.le_refl _) _).alloc (by simp) _).trans (Dr.below HD.out _)⟩
theorem c70g (v1 v2 : Value) (l1 l2 : List Int) (w : World) (h1 : IntsAt w v1 l1) (h2 : IntsG w v2 l2) (hl1 : l1.length ≤ 1000000) : Calls Tryz.prog 70 #[.agg #[.bool false, v1], .agg #[.bool false, v2]] w fun e w' => e = .returned (.bool (l1 == l2)) ∧ Below w.heap.size w w' := by
  obtain ⟨a1, cp1, rfl⟩ := row_form h1
  obtain ⟨a2, cp2, rfl⟩ := h2.row
  have HC := Lib.hid (c108g _ _ l1 l2 _ ((h1.alloc (.cells #[.bool false, .slice a1 l1.length cp1] 39)).alloc (.cells #[.bool false, .slice a2 l2.length cp2] 39)) ((h2.alloc (.cells #[.bool false, .slice a1 l1.length cp1] 39)).alloc (.cells #[.bool false, .slice a2 l2.length cp2] 39)) hl1)
  clear h1 h2
  go_enter Tryz.func70, Tryz.ntmps70
  go_wp2_with (go_at_call 108; ((with_reducible refine HC.out.mono ?_); rintro e w' ⟨r, rfl, hr, hd⟩; have HR := Lib.hid hr; have HD := Lib.hid hd; clear hr hd))
  go_ret
  refine ⟨ret_bool ?_, (((Below.refl _ _).alloc (Nat.le_refl _) _).alloc (by simp) _).trans (HD.out.mono (by simp; omega))⟩
  have := HR.out
  by_cases h : r = 0
  · have h2 := this.1 h
    subst h h2; simp
  · have h2 : ¬ l1 = l2 := fun q => h (this.2 q)
    have e1 : (r == 0) = false := by simpa using h
    have e2 : (l1 == l2) = false := by simpa using h2
    rw [e1, e2]
set_option maxRecDepth 100000 in
set_option maxHeartbeats 1600000 in
theorem c26g (a b : Tk) (da db : Value) (z4 z5 z6 z7 : Int) (w : World) (h1 : IntsAt w da a.d) (h2 : IntsG w db b.d) (hl1 : a.d.length ≤ 1000000) : Calls Tryz.prog 26 #[tokV a da, .agg #[.int .i64 b.k, .string b.s, .bool false, db, .int .i64 z4, .int .i64 z5, .int .i64 z6, .int .i64 z7]] w fun e w' => e = .returned (.bool (likeF a b)) ∧ Below w.heap.size w w' := by
  obtain ⟨a1, cp1, rfl⟩ := row_form h1
  obtain ⟨a2, cp2, rfl⟩ := h2.row
  show Calls Tryz.prog 26 #[.agg #[_, _, _, _, _, _, _, _], .agg #[_, _, _, _, _, _, _, _]] w _
  obtain ⟨ak, sa, ad, aat, aen, al, ac⟩ := a
  obtain ⟨bk, sb, bd, bat, ben, bl, bc⟩ := b
  simp only [likeF] at *
  have HC := Lib.hid (fun X Y => c70g _ _ ad bd _ ((h1.alloc X).alloc Y) ((h2.alloc X).alloc Y) hl1)
  clear h1 h2
  by_cases hk : ak = bk
  · by_cases hs : sa = sb
    · subst hk hs
      go_enter Tryz.func26, Tryz.ntmps26
      go_wp2_with (go_at_call 70; ((with_reducible refine (HC.out _ _).mono ?_); rintro e w' ⟨rfl, hd⟩; have HD := Lib.hid hd; clear hd))
      go_ret
      exact ⟨ret_bool (by simp), (((Below.refl _ _).alloc (Nat.le_refl _) _).alloc (by simp) _).trans (HD.out.mono (by simp; omega))⟩
    · subst hk
      have hs2 : ¬ sa.toList = sb.toList := fun q => hs (str_eq q)
      go_enter Tryz.func26, Tryz.ntmps26
      go_wp2
      go_ret
      exact ⟨ret_bool (by simp [hs]), (((Below.refl _ _).alloc (Nat.le_refl _) _).alloc (by simp) _)⟩
  · have e1 : (ak == bk) = false := by simpa using hk
    go_enter Tryz.func26, Tryz.ntmps26
    go_wp2
    go_ret
    exact ⟨ret_bool (by rw [e1]; rfl), (((Below.refl _ _).alloc (Nat.le_refl _) _).alloc (by simp) _)⟩
set_option maxRecDepth 100000 in
set_option maxHeartbeats 3200000 in
theorem c25g (va vb : Value) (a b : List Tk) (w : World) (ha : TokSl w va a) (hb : GtSl w vb b) (hd : DLim a) : Calls Tryz.prog 25 #[va, vb] w fun e w' => e = .returned (.bool (likeL a b)) ∧ Below w.heap.size w w' := by
  by_cases hl : a.length = b.length
  · have hll := (likeL_iff a b).1
    by_cases hz : a.length = 0
    · have e1 := List.eq_nil_of_length_eq_zero hz
      have e2 : b = [] := List.eq_nil_of_length_eq_zero (by omega)
      subst e1 e2
      obtain ⟨a1, cp1, rfl, _⟩ := ha
      obtain ⟨a2, cp2, rfl, _⟩ := hb
      clear hd hl hll hz
      go_enter Tryz.func25, Tryz.ntmps25
      go_wp2
      go_loopw [5] (fun s5 wr => s5 = .int .i64 0 ∧ wr = w) (fun _ _ => 0)
      case atStart => exact ⟨rfl, rfl⟩
      case round =>
        obtain ⟨rfl, rfl⟩ := hrel
        go_wp2
        go_ret
        exact ⟨rfl, Below.refl _ _⟩
    · have hpa : 0 < a.length := by omega
      have hpb : 0 < b.length := by omega
      obtain ⟨_, cp1, rfl, hc1, hm1, hA⟩ := ha
      obtain ⟨_, cp2, rfl, hc2, hm2, hB⟩ := hb
      obtain ⟨g1, o1, rfl, hg1, hA⟩ := hA hpa
      obtain ⟨g2, o2, rfl, hg2, hB⟩ := hB hpb
      have hmx : (maxLen : Nat) = 9223372036854775807 := rfl
      have hn : a.length ≤ 9223372036854775807 := by omega
      have hn2 : ((a.length : Int) != (b.length : Int)) = false := by simp [hl]
      have HL := Lib.hid hl
      have HA := Lib.hid hA
      have HB := Lib.hid hB
      have HD := Lib.hid hd
      rw [← hl]
      have hn3 : ((a.length : Int) != (a.length : Int)) = false := by simp
      clear hpa hpb hd hl hz hA hB hll hn2 hc1 hc2 hm1 hm2 hmx
      go_enter Tryz.func25, Tryz.ntmps25
      go_wp2
      go_loopw [5] (LkL a b w) (fun s5 _ => a.length - (intOf s5).toNat)
      case atStart => exact ⟨0, Nat.zero_le _, rfl, fun j x y h => by omega, Below.refl _ _⟩
      case round =>
        obtain ⟨k, hk, rfl, heq, hbl⟩ := hrel
        have HEQ := Lib.hid heq
        have HBL := Lib.hid hbl
        clear heq hbl
        by_cases hlt : k < a.length
        · obtain ⟨x, hx⟩ : ∃ x, a[k]? = some x := ⟨_, List.getElem?_eq_getElem hlt⟩
          obtain ⟨y, hy⟩ : ∃ y, b[k]? = some y := ⟨_, List.getElem?_eq_getElem (by have := HL.out; omega)⟩
          obtain ⟨dx, ix, x0, x1, x2, x3, x4, x5, x6, x7⟩ := HA.out k x hx
          obtain ⟨dy, z4, z5, z6, z7, iy, y0, y1, y2, y3, y4, y5, y6, y7⟩ := HB.out k y hy
          have CC := Lib.hid (fun X (hX : Below w.heap.size w X) => c26g x y dx dy z4 z5 z6 z7 X (ix.below hX) (iy.below hX) (HD.out x (List.mem_of_getElem? hx)))
          have HX := Lib.hid hx
          have HY := Lib.hid hy
          have b0 : (0 : Int) ≤ (k : Int) := by omega
          have b1 : (k : Int) < (a.length : Int) := by omega
          have hb2 : k < a.length := hlt
          have KS : Hid (∀ X, Below w.heap.size w X → X.cell? ⟨g1, o1 + k * 8, none⟩ = some (.int .i64 x.k) ∧ X.cell? ⟨g1, o1 + k * 8 + 1, none⟩ = some (.string x.s) ∧ X.cell? ⟨g1, o1 + k * 8 + 2, none⟩ = some (.bool false) ∧ X.cell? ⟨g1, o1 + k * 8 + 3, none⟩ = some dx ∧ X.cell? ⟨g1, o1 + k * 8 + 4, none⟩ = some (.int .i64 (x.at_ : Int)) ∧ X.cell? ⟨g1, o1 + k * 8 + 5, none⟩ = some (.int .i64 (x.en : Int)) ∧ X.cell? ⟨g1, o1 + k * 8 + 6, none⟩ = some (.int .i64 x.line) ∧ X.cell? ⟨g1, o1 + k * 8 + 7, none⟩ = some (.int .i64 x.col) ∧ X.cell? ⟨g2, o2 + k * 8, none⟩ = some (.int .i64 y.k) ∧ X.cell? ⟨g2, o2 + k * 8 + 1, none⟩ = some (.string y.s) ∧ X.cell? ⟨g2, o2 + k * 8 + 2, none⟩ = some (.bool false) ∧ X.cell? ⟨g2, o2 + k * 8 + 3, none⟩ = some dy ∧ X.cell? ⟨g2, o2 + k * 8 + 4, none⟩ = some (.int .i64 z4) ∧ X.cell? ⟨g2, o2 + k * 8 + 5, none⟩ = some (.int .i64 z5) ∧ X.cell? ⟨g2, o2 + k * 8 + 6, none⟩ = some (.int .i64 z6) ∧ X.cell? ⟨g2, o2 + k * 8 + 7, none⟩ = some (.int .i64 z7)) := Lib.hid (fun X hX => by
            have hbc : ∀ (g o : Nat) (u : Value), g < w.heap.size → w.cell? ⟨g, o, none⟩ = some u → X.cell? ⟨g, o, none⟩ = some u := fun g o u hg h => (hX.cell (p := ⟨g, o, none⟩) hg).trans h
            exact ⟨hbc _ _ _ hg1 x0, hbc _ _ _ hg1 x1, hbc _ _ _ hg1 x2, hbc _ _ _ hg1 x3, hbc _ _ _ hg1 x4, hbc _ _ _ hg1 x5, hbc _ _ _ hg1 x6, hbc _ _ _ hg1 x7, hbc _ _ _ hg2 y0, hbc _ _ _ hg2 y1, hbc _ _ _ hg2 y2, hbc _ _ _ hg2 y3, hbc _ _ _ hg2 y4, hbc _ _ _ hg2 y5, hbc _ _ _ hg2 y6, hbc _ _ _ hg2 y7⟩)
          clear ix iy hx hy x0 x1 x2 x3 x4 x5 x6 x7 y0 y1 y2 y3 y4 y5 y6 y7
          obtain ⟨q, hq⟩ : ∃ q, likeF x y = q := ⟨_, rfl⟩
          rw [hq] at CC
          have HQ := Lib.hid hq
          clear hq
          rcases q with _ | _
          · have hno : likeL a b = false := by
              rcases hl : likeL a b with _ | _
              · rfl
              · have := ((likeL_iff a b).1 hl).2 k x y HX.out HY.out
                rw [HQ.out] at this; cases this
            have HNO := Lib.hid hno
            clear hno
            go_wp2
            go_region_held3 (fun w' : World => w'.cell? ⟨g1, o1 + k * 8, none⟩ = some (.int .i64 x.k) ∧ w'.cell? ⟨g1, o1 + k * 8 + 1, none⟩ = some (.string x.s) ∧ w'.cell? ⟨g1, o1 + k * 8 + 2, none⟩ = some (.bool false) ∧ w'.cell? ⟨g1, o1 + k * 8 + 3, none⟩ = some dx ∧ w'.cell? ⟨g1, o1 + k * 8 + 4, none⟩ = some (.int .i64 (x.at_ : Int)) ∧ w'.cell? ⟨g1, o1 + k * 8 + 5, none⟩ = some (.int .i64 (x.en : Int)) ∧ w'.cell? ⟨g1, o1 + k * 8 + 6, none⟩ = some (.int .i64 x.line) ∧ w'.cell? ⟨g1, o1 + k * 8 + 7, none⟩ = some (.int .i64 x.col) ∧ w'.cell? ⟨g2, o2 + k * 8, none⟩ = some (.int .i64 y.k) ∧ w'.cell? ⟨g2, o2 + k * 8 + 1, none⟩ = some (.string y.s) ∧ w'.cell? ⟨g2, o2 + k * 8 + 2, none⟩ = some (.bool false) ∧ w'.cell? ⟨g2, o2 + k * 8 + 3, none⟩ = some dy ∧ w'.cell? ⟨g2, o2 + k * 8 + 4, none⟩ = some (.int .i64 z4) ∧ w'.cell? ⟨g2, o2 + k * 8 + 5, none⟩ = some (.int .i64 z5) ∧ w'.cell? ⟨g2, o2 + k * 8 + 6, none⟩ = some (.int .i64 z6) ∧ w'.cell? ⟨g2, o2 + k * 8 + 7, none⟩ = some (.int .i64 z7)) (first | exact KS.out _ HBL.out | exact KS.out _ HBL.out.drew | exact KS.out _ HBN.out | exact KS.out _ HBN.out.drew)
              ((go_at_call 26; ((with_reducible refine (CC.out _ (by first | exact HBL.out | exact HBL.out.drew)).mono ?_); rintro e w' ⟨rfl, hbb⟩; have HBN : Hid (Below w.heap.size w w') := Lib.hid (by first | exact HBL.out.trans (hbb.mono HBL.out.size) | exact HBL.out.drew.trans (hbb.mono HBL.out.size)); clear hbb)))
            go_wp2
            go_ret
            exact ⟨ret_bool HNO.out.symm, HBN.out⟩
          · skip
            go_wp2
            go_region_held3 (fun w' : World => w'.cell? ⟨g1, o1 + k * 8, none⟩ = some (.int .i64 x.k) ∧ w'.cell? ⟨g1, o1 + k * 8 + 1, none⟩ = some (.string x.s) ∧ w'.cell? ⟨g1, o1 + k * 8 + 2, none⟩ = some (.bool false) ∧ w'.cell? ⟨g1, o1 + k * 8 + 3, none⟩ = some dx ∧ w'.cell? ⟨g1, o1 + k * 8 + 4, none⟩ = some (.int .i64 (x.at_ : Int)) ∧ w'.cell? ⟨g1, o1 + k * 8 + 5, none⟩ = some (.int .i64 (x.en : Int)) ∧ w'.cell? ⟨g1, o1 + k * 8 + 6, none⟩ = some (.int .i64 x.line) ∧ w'.cell? ⟨g1, o1 + k * 8 + 7, none⟩ = some (.int .i64 x.col) ∧ w'.cell? ⟨g2, o2 + k * 8, none⟩ = some (.int .i64 y.k) ∧ w'.cell? ⟨g2, o2 + k * 8 + 1, none⟩ = some (.string y.s) ∧ w'.cell? ⟨g2, o2 + k * 8 + 2, none⟩ = some (.bool false) ∧ w'.cell? ⟨g2, o2 + k * 8 + 3, none⟩ = some dy ∧ w'.cell? ⟨g2, o2 + k * 8 + 4, none⟩ = some (.int .i64 z4) ∧ w'.cell? ⟨g2, o2 + k * 8 + 5, none⟩ = some (.int .i64 z5) ∧ w'.cell? ⟨g2, o2 + k * 8 + 6, none⟩ = some (.int .i64 z6) ∧ w'.cell? ⟨g2, o2 + k * 8 + 7, none⟩ = some (.int .i64 z7)) (first | exact KS.out _ HBL.out | exact KS.out _ HBL.out.drew | exact KS.out _ HBN.out | exact KS.out _ HBN.out.drew)
              ((go_at_call 26; ((with_reducible refine (CC.out _ (by first | exact HBL.out | exact HBL.out.drew)).mono ?_); rintro e w' ⟨rfl, hbb⟩; have HBN : Hid (Below w.heap.size w w') := Lib.hid (by first | exact HBL.out.trans (hbb.mono HBL.out.size) | exact HBL.out.drew.trans (hbb.mono HBL.out.size)); clear hbb)))
            go_wp2
            go_roundw
            case rel => exact ⟨k + 1, by omega, by go_num, fun j x' y' hj hx' hy' => by
              rcases Nat.lt_or_ge j k with h | h
              · exact HEQ.out j x' y' h hx' hy'
              · obtain rfl : j = k := by omega
                rw [HX.out] at hx'; rw [HY.out] at hy'
                injection hx' with hx'; injection hy' with hy'
                subst hx' hy'; exact HQ.out, HBN.out⟩
            case measure => simp [intOf]; omega
        · have hd : decide (k < a.length) = false := by simpa using hlt
          go_wp2
          go_ret
          refine ⟨ret_bool ((likeL_iff a b).2 ⟨HL.out, fun j x y hx hy => HEQ.out j x y ?_ hx hy⟩).symm, HBL.out⟩
          have : j < a.length := by
            rcases Nat.lt_or_ge j a.length with h | h
            · exact h
            · rw [List.getElem?_eq_none h] at hx; cases hx
          omega
  · have e1 : ((a.length : Int) != (b.length : Int)) = true := by simp; omega
    rw [likeL_no hl]
    obtain ⟨a1, cp1, rfl, _⟩ := ha
    obtain ⟨a2, cp2, rfl, _⟩ := hb
    clear hd hl
    go_enter Tryz.func25, Tryz.ntmps25
    go_wp2
    go_ret
    exact ⟨rfl, Below.refl _ _⟩
end Go.Proofs.YtagcfgoofiibfaaGreatDoor
