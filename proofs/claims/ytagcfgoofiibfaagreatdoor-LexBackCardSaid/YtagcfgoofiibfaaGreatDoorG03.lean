/- The lexer and what it reaches: part 3 of 41: B0, B1, C0. -/
import Derived.Test.YtagcfgoofiibfaaGreatDoorG01
import Derived.Test.YtagcfgoofiibfaaGreatDoorG02
import Derived.Deep.RegionHeld3
import Derived.Deep.AppendLies
import Derived.Deep.DrawnRows
set_option linter.unusedVariables false
set_option linter.unusedSimpArgs false
namespace Go.Proofs.YtagcfgoofiibfaaGreatDoor
open Go.RowKit

/-- w' is w behind some draws -/
def Dr (w w' : World) : Prop := ∃ n, w' = w.drewN n
theorem Dr.refl (w : World) : Dr w w := ⟨0, rfl⟩
theorem Dr.drewN {w w' : World} (h : Dr w w') (n : Nat) : Dr w (w'.drewN n) := by
  obtain ⟨m, rfl⟩ := h; exact ⟨m + n, World.drewN_drewN ..⟩
theorem Dr.drew {w w' : World} (h : Dr w w') : Dr w w'.drew := h.drewN 1
theorem Dr.trans {w w' w'' : World} (h : Dr w w') (g : Dr w' w'') : Dr w w'' := by
  obtain ⟨m, rfl⟩ := g; exact h.drewN m
theorem quiet_dr {P : Program} {f : FuncId} {args : Array Value} {w : World} {n : Nat} {v : Value}
    (h : Calls P f args (w.drewN n) fun e w' => e = .returned v ∧ Dr (w.drewN n) w') : Calls P f args (w.drewN n) fun e w'' => e = .returned v ∧ ∃ m, w'' = w.drewN m :=
  h.mono fun _ _ ⟨he, m, hm⟩ => ⟨he, n + m, by rw [hm, World.drewN_drewN]⟩
theorem quiet_eq {P : Program} {f : FuncId} {args : Array Value} {w : World} {n : Nat} {v : Value}
    (h : Calls P f args (w.drewN n) fun e w' => e = .returned v ∧ w.drewN n = w') : Calls P f args (w.drewN n) fun e w'' => e = .returned v ∧ ∃ m, w'' = w.drewN m :=
  h.mono fun _ _ ⟨he, hm⟩ => ⟨he, n, hm.symm⟩
theorem Dr.here (w : World) (a : Nat) : Dr w (w.drewN a) := ⟨a, rfl⟩
theorem Dr.here2 (w : World) (a b : Nat) : Dr w ((w.drewN a).drewN b) := (Dr.here w a).drewN b
theorem Dr.here3 (w : World) (a b c : Nat) : Dr w (((w.drewN a).drewN b).drewN c) := (Dr.here2 w a b).drewN c

/-- byte k of a text, 0 behind its end -/
def bt (s : ByteArray) (k : Nat) : Int := ((s.data.toList.getD k 0).toNat : Int)
theorem bt_get (s : ByteArray) (k : Nat) (h : k < s.size) : ((s[k]'h).toNat : Int) = bt s k := by
  unfold bt
  have h' : k < s.data.toList.length := by simpa using h
  simp only [List.getD_eq_getElem?_getD, List.getElem?_eq_getElem h', Option.getD_some]
  rfl
theorem bt_lo (s : ByteArray) (k : Nat) : 0 ≤ bt s k := by unfold bt; omega
theorem bt_hi (s : ByteArray) (k : Nat) : bt s k ≤ 255 := by unfold bt; have := (s.data.toList.getD k 0).toNat_lt; omega
theorem ext_drop (s : ByteArray) (i : Nat) : (s.extract i s.size).data.toList = s.data.toList.drop i := by
  simp [ByteArray.data_extract, Array.toList_extract, List.extract_eq_take_drop]
  rw [List.take_of_length_le (by simp)]

theorem c149 (g : Nat) (s pre : ByteArray) (i : Nat) (w : World) (hs : w.cell? ⟨g, 0, none⟩ = some (.string s)) (ha : w.cell? ⟨g, 1, none⟩ = some (.int .i64 (i : Int)))
    (hle : i ≤ s.size) (hsz : s.size ≤ 140737488355328) :
    Calls Tryz.prog 149 #[.pointer (some ⟨g, 0, none⟩), .string pre] w fun e w' => e = .returned (.bool (Lib.hasPrefix (s.data.toList.drop i) pre.data.toList)) ∧ Dr w w' := by
  go_enter Tryz.func149, Tryz.ntmps149
  go_wp2
  go_quiet ((go_at_call 76; exact Calls.quiet_of_same (Tryz.strings_HasPrefix _ _ _)))
  go_wp2
  go_ret
  exact ⟨ret_bool (by rw [ext_drop]), Dr.here _ _⟩

theorem c153_in (g : Nat) (s : ByteArray) (i k : Nat) (w : World) (hs : w.cell? ⟨g, 0, none⟩ = some (.string s)) (ha : w.cell? ⟨g, 1, none⟩ = some (.int .i64 (i : Int)))
    (hsz : s.size ≤ 140737488355328) (hi : i ≤ 140737488355328) (hk : k ≤ 140737488355328) (hlt : i + k < s.size) :
    Calls Tryz.prog 153 #[.pointer (some ⟨g, 0, none⟩), .int .i64 (k : Int)] w fun e w' => e = .returned (.int .u8 (bt s (i + k))) ∧ Dr w w' := by
  have q1 : IntKind.i64.wrap ((i : Int) + (k : Int)) = (i : Int) + (k : Int) := IntWalk.i64_in _ (by omega)
  have q2 : 0 ≤ (i : Int) + (k : Int) := by omega
  have q3 : ((i : Int) + (k : Int)).toNat = i + k := by omega
  go_enter Tryz.func153, Tryz.ntmps153
  go_wp2
  go_quiet (fail)
  go_wp2
  go_quiet (fail)
  go_wp2
  go_ret
  exact ⟨ret_int (bt_get _ _ hlt), Dr.here2 _ _ _⟩

theorem bt_out (s : ByteArray) (k : Nat) (h : s.size ≤ k) : bt s k = 0 := by
  unfold bt
  simp only [List.getD_eq_getElem?_getD]
  rw [List.getElem?_eq_none (by simpa using h)]
  rfl

theorem c153_out (g : Nat) (s : ByteArray) (i k : Nat) (w : World) (hs : w.cell? ⟨g, 0, none⟩ = some (.string s)) (ha : w.cell? ⟨g, 1, none⟩ = some (.int .i64 (i : Int)))
    (hsz : s.size ≤ 140737488355328) (hi : i ≤ 140737488355328) (hk : k ≤ 140737488355328) (hlt : s.size ≤ i + k) :
    Calls Tryz.prog 153 #[.pointer (some ⟨g, 0, none⟩), .int .i64 (k : Int)] w fun e w' => e = .returned (.int .u8 (bt s (i + k))) ∧ Dr w w' := by
  have q1 : IntKind.i64.wrap ((i : Int) + (k : Int)) = (i : Int) + (k : Int) := IntWalk.i64_in _ (by omega)
  go_enter Tryz.func153, Tryz.ntmps153
  go_wp2
  go_quiet (fail)
  go_wp2
  go_ret
  exact ⟨ret_int (bt_out _ _ hlt).symm, Dr.here _ _⟩

theorem c153 (g : Nat) (s : ByteArray) (i k : Nat) (w : World) (hs : w.cell? ⟨g, 0, none⟩ = some (.string s)) (ha : w.cell? ⟨g, 1, none⟩ = some (.int .i64 (i : Int)))
    (hsz : s.size ≤ 140737488355328) (hi : i ≤ 140737488355328) (hk : k ≤ 140737488355328) :
    Calls Tryz.prog 153 #[.pointer (some ⟨g, 0, none⟩), .int .i64 (k : Int)] w fun e w' => e = .returned (.int .u8 (bt s (i + k))) ∧ Dr w w' := by
  by_cases h : i + k < s.size
  · exact c153_in g s i k w hs ha hsz hi hk h
  · exact c153_out g s i k w hs ha hsz hi hk (by omega)
end Go.Proofs.YtagcfgoofiibfaaGreatDoor
namespace Go.Proofs.YtagcfgoofiibfaaGreatDoor
open Go.RowKit

/-- how many bytes of a text from j on satisfy p -/
def cnt (p : Int → Bool) (s : ByteArray) (j : Nat) : Nat := ((s.data.toList.drop j).takeWhile (fun b => p (b.toNat : Int))).length

theorem takeWhile_le (p : UInt8 → Bool) : ∀ l : List UInt8, (l.takeWhile p).length ≤ l.length
  | [] => by simp
  | a :: l => by
    have := takeWhile_le p l
    simp only [List.takeWhile_cons]
    split <;> simp <;> omega
theorem cnt_le (p : Int → Bool) (s : ByteArray) (j : Nat) : cnt p s j ≤ s.size - j := by
  unfold cnt
  have h := takeWhile_le (fun b : UInt8 => p (b.toNat : Int)) (s.data.toList.drop j)
  simp at h ⊢
  exact h
theorem drop_bt (s : ByteArray) (k : Nat) (h : k < s.size) : s.data.toList.drop k = s.data.toList.getD k 0 :: s.data.toList.drop (k + 1) := by
  have h' : k < s.data.toList.length := by simpa using h
  rw [List.drop_eq_getElem_cons h', List.getD_eq_getElem?_getD, List.getElem?_eq_getElem h', Option.getD_some]
theorem cnt_end (p : Int → Bool) (s : ByteArray) (j : Nat) (h : s.size ≤ j) : cnt p s j = 0 := by
  have := cnt_le p s j; omega
theorem cnt_no (p : Int → Bool) (s : ByteArray) (j : Nat) (h : p (bt s j) = false) : cnt p s j = 0 := by
  by_cases hj : j < s.size
  · unfold cnt; rw [drop_bt s j hj]; unfold bt at h; simp only [List.takeWhile_cons, h]; rfl
  · exact cnt_end p s j (by omega)
theorem cnt_yes (p : Int → Bool) (s : ByteArray) (j : Nat) (hj : j < s.size) (h : p (bt s j) = true) : cnt p s j = cnt p s (j + 1) + 1 := by
  unfold cnt; rw [drop_bt s j hj]; unfold bt at h; simp only [List.takeWhile_cons, h, if_true, List.length_cons]

/-- what a function value over bytes is asked -/
def PredU8 (g : Nat) (p : Int → Bool) : Prop :=
  (∀ args w, (callFunc g args).run Tryz.prog w = .ok (.enter g args) w) ∧
  ∀ (b : Int) (w : World), 0 ≤ b → b ≤ 255 → Calls Tryz.prog g #[.int .u8 b] w fun e w' => e = .returned (.bool (p b)) ∧ w = w'

set_option maxHeartbeats 800000 in
theorem c150 (f : Nat) (p : Int → Bool) (hp : PredU8 f p) (g : Nat) (s : ByteArray) (i m : Nat) (w : World) (hs : w.cell? ⟨g, 0, none⟩ = some (.string s)) (ha : w.cell? ⟨g, 1, none⟩ = some (.int .i64 (i : Int)))
    (hsz : s.size ≤ 140737488355328) (hi : i ≤ 140737488355328) (hm : m ≤ 140737488355328) :
    Calls Tryz.prog 150 #[.pointer (some ⟨g, 0, none⟩), .int .i64 (m : Int), .func (.func f) #[] #[]] w fun e w' => e = .returned (.int .i64 (cnt p s (i + m) : Int)) ∧ Dr w w' := by
  obtain ⟨eg, hc⟩ := hp
  have HC := Lib.hid hc
  clear hc
  go_enter Tryz.func150, Tryz.ntmps150
  go_wp2
  go_loopw [7] (fun n wr => ∃ k : Nat, k ≤ s.size ∧ n = .int .i64 (k : Int) ∧ cnt p s (i + m) = k + cnt p s (i + m + k) ∧ Dr w wr) (fun n _ => s.size + 1 - (intOf n).toNat)
  case atStart => exact ⟨0, Nat.zero_le _, rfl, by simp, Dr.refl _⟩
  case round =>
    obtain ⟨k, hk, rfl, hcnt, hdr⟩ := hrel
    have HCn := Lib.hid hcnt
    clear hcnt
    have hs' : wr.cell? ⟨g, 0, none⟩ = some (.string s) := by obtain ⟨n, rfl⟩ := hdr; exact hs
    have ha' : wr.cell? ⟨g, 1, none⟩ = some (.int .i64 (i : Int)) := by obtain ⟨n, rfl⟩ := hdr; exact ha
    have HD := Lib.hid hdr
    clear hdr hs ha
    have q1 : IntKind.i64.wrap ((i : Int) + (m : Int)) = (i : Int) + (m : Int) := IntWalk.i64_in _ (by omega)
    have q2 : IntKind.i64.wrap ((i : Int) + (m : Int) + (k : Int)) = (i : Int) + (m : Int) + (k : Int) := IntWalk.i64_in _ (by omega)
    have q3 : 0 ≤ (i : Int) + (m : Int) + (k : Int) := by omega
    have q4 : ((i : Int) + (m : Int) + (k : Int)).toNat = i + m + k := by omega
    by_cases hlt : i + m + k < s.size
    · have hlt' : (i : Int) + (m : Int) + (k : Int) < (s.size : Int) := by omega
      have hb0 : (0 : Int) ≤ ((s[i + m + k]'hlt).toNat : Int) := by omega
      have hb1 : ((s[i + m + k]'hlt).toNat : Int) ≤ 255 := by have := (s[i + m + k]'hlt).toNat_lt; omega
      rcases hpv : p ((s[i + m + k]'hlt).toNat : Int) with _ | _
      · go_wp2
        go_quiet ((first | exact quiet_eq (HC.out _ _ hb0 hb1)))
        go_wp2
        go_ret
        refine ⟨ret_int ?_, (HD.out).drewN _⟩
        have := HCn.out
        rw [cnt_no p s (i + m + k) (by rw [← bt_get _ _ hlt]; exact hpv)] at this
        omega
      · go_wp2
        go_quiet ((first | exact quiet_eq (HC.out _ _ hb0 hb1)))
        go_wp2
        go_roundw
        case rel =>
          refine ⟨k + 1, by omega, by go_num, ?_, (HD.out).drewN _⟩
          have := HCn.out
          rw [cnt_yes p s (i + m + k) hlt (by rw [← bt_get _ _ hlt]; exact hpv)] at this
          rw [← Nat.add_assoc]
          omega
        case measure => simp [intOf]; omega
    · have hd : decide ((i : Int) + (m : Int) + (k : Int) < (s.size : Int)) = false := by simp; omega
      go_wp2
      go_quiet (fail)
      go_wp2
      go_ret
      refine ⟨ret_int ?_, (HD.out).drewN _⟩
      have := HCn.out
      rw [cnt_end p s (i + m + k) (by omega)] at this
      omega
end Go.Proofs.YtagcfgoofiibfaaGreatDoor
namespace Go.Proofs.YtagcfgoofiibfaaGreatDoor
open Go.RowKit

/-- a block of whole numbers -/
def isI (w : World) (k : Nat) : Prop := ∃ c, w.heap[k]? = some (Obj.cells c 3 (0, 0))

/-- below g nothing has turned, and no block of whole numbers has -/
structure Modd (g : Nat) (w w' : World) : Prop where
  below : Below g w w'
  ints : ∀ (k : Nat) (c : Array Value), w.heap[k]? = some (Obj.cells c 3 (0, 0)) → w'.heap[k]? = some (Obj.cells c 3 (0, 0))

theorem Modd.refl (g : Nat) (w : World) : Modd g w w := ⟨Below.refl _ _, fun _ _ h => h⟩
theorem Modd.trans {g : Nat} {a b c : World} (h : Modd g a b) (k : Modd g b c) : Modd g a c := ⟨h.below.trans k.below, fun i x hx => k.ints i x (h.ints i x hx)⟩
theorem Modd.mono {g g' : Nat} {a b : World} (h : Modd g a b) (hg : g' ≤ g) : Modd g' a b := ⟨h.below.mono hg, h.ints⟩
theorem Below.modd {w w' : World} (h : Below w.heap.size w w') (g : Nat) (hg : g ≤ w.heap.size) : Modd g w w' :=
  ⟨h.mono hg, fun k c hk => by
    have : k < w.heap.size := by
      rcases Nat.lt_or_ge k w.heap.size with h | h
      · exact h
      · rw [Array.getElem?_eq_none h] at hk; cases hk
    rw [h.block k this]; exact hk⟩
theorem Dr.below {w w' : World} (h : Dr w w') (B : Nat) : Below B w w' := by
  obtain ⟨n, rfl⟩ := h; exact ⟨rfl, rfl, rfl, Nat.le_refl _, fun _ _ => rfl⟩
theorem Dr.heap {w w' : World} (h : Dr w w') : w'.heap = w.heap := by obtain ⟨n, rfl⟩ := h; rfl
theorem Dr.cell {w w' : World} (h : Dr w w') (a : Addr) : w'.cell? a = w.cell? a := by obtain ⟨n, rfl⟩ := h; rfl

theorem Tryz.underlying30 : Tryz.prog.underlying 30 = some (.slice 41) := by kernel_rfl
theorem Tryz.info41 : (Tryz.prog.info? 41).map (fun i => (i.zero, i.size, i.bytes)) = some (some (.agg #[.int .i64 0, .string ByteArray.empty, .bool false, .slice none 0 0, .int .i64 0, .int .i64 0, .int .i64 0, .int .i64 0]), 8, 88) := by kernel_rfl

theorem World.grownBy.modd {g : Nat} {w w' : World} {row : Option Nat} (hg : w.grownBy w' row) (hgs : g ≤ w.heap.size) (hr : ∀ k, row = some k → g ≤ k)
    (hi : ∀ k, row = some k → ∀ c, w.heap[k]? ≠ some (Obj.cells c 3 (0, 0))) : Modd g w w' :=
  ⟨(Below.refl g w).grown hg hgs hr, fun k c hk => by
    have hl : k < w.heap.size := by
      rcases Nat.lt_or_ge k w.heap.size with h | h
      · exact h
      · rw [Array.getElem?_eq_none h] at hk; cases hk
    rw [hg.block k hl (fun e => hi k e.symm c hk)]; exact hk⟩

/-- the scanner's block, and the rows of tokens and of comments that it owns -/
structure Scn (g : Nat) (s : ByteArray) (i : Nat) (tb vo vc : Value) (m : Nat) (xs : List Value) (c : Nat) (ys : List Value) (w : World) : Prop where
  blk : w.heap[g]? = some (.cells #[.string s, .int .i64 (i : Int), tb, vo, vc] 100 (0, 0))
  ro : w.ownsRow (g + 1) 41 8 vo m xs
  rc : w.ownsRow (g + 1) 124 2 vc c ys

section
variable {g : Nat} {s : ByteArray} {i : Nat} {tb vo vc : Value} {m : Nat} {xs : List Value} {c : Nat} {ys : List Value} {w : World}
theorem Scn.hs (H : Scn g s i tb vo vc m xs c ys w) : w.cell? ⟨g, 0, none⟩ = some (.string s) := by rw [cell_of_row _ _ _ _ _ _ H.blk]; rfl
theorem Scn.ha (H : Scn g s i tb vo vc m xs c ys w) : w.cell? ⟨g, 1, none⟩ = some (.int .i64 (i : Int)) := by rw [cell_of_row _ _ _ _ _ _ H.blk]; rfl
theorem Scn.ht (H : Scn g s i tb vo vc m xs c ys w) : w.cell? ⟨g, 2, none⟩ = some tb := by rw [cell_of_row _ _ _ _ _ _ H.blk]; rfl
theorem Scn.ho (H : Scn g s i tb vo vc m xs c ys w) : w.cell? ⟨g, 3, none⟩ = some vo := by rw [cell_of_row _ _ _ _ _ _ H.blk]; rfl
theorem Scn.hc (H : Scn g s i tb vo vc m xs c ys w) : w.cell? ⟨g, 4, none⟩ = some vc := by rw [cell_of_row _ _ _ _ _ _ H.blk]; rfl
theorem Scn.hf (H : Scn g s i tb vo vc m xs c ys w) (k : Nat) : w.frozen? ⟨g, k, none⟩ = false := frozen_of_row _ _ _ _ _ H.blk
theorem Scn.lt (H : Scn g s i tb vo vc m xs c ys w) : g < w.heap.size := World.block_lt_of_cell? w _ H.hs
end

theorem lt_of_blk {w : World} {k : Nat} {o : Obj} (h : w.heap[k]? = some o) : k < w.heap.size := by
  rcases Nat.lt_or_ge k w.heap.size with hl | hl
  · exact hl
  · rw [Array.getElem?_eq_none hl] at h; cases h

theorem ownsRow_elem {w : World} {B : Nat} {e : TypeId} {sz : Nat} {v : Value} {n : Nat} {xs : List Value} (h : w.ownsRow B e sz v n xs) {k : Nat} (hk : v.ownBlock = some k) :
    ∃ cur, w.heap[k]? = some (.cells cur e (0, 0)) := by
  rcases h.2 with ⟨rfl, _⟩ | ⟨g, cap, cur, rfl, _, hg, _⟩
  · cases hk
  · simp only [Value.ownBlock, Option.some.injEq] at hk; subst hk; exact ⟨cur, hg⟩

theorem rows_apart {w : World} {B B' : Nat} {e e' : TypeId} {sz sz' : Nat} {v v' : Value} {n n' : Nat} {xs xs' : List Value} (h : w.ownsRow B e sz v n xs) (h' : w.ownsRow B' e' sz' v' n' xs') (he : e ≠ e') :
    v'.ownBlock = none ∨ v'.ownBlock ≠ v.ownBlock := by
  rcases hk : v'.ownBlock with _ | k
  · exact .inl rfl
  · right
    intro hv
    obtain ⟨c1, h1⟩ := ownsRow_elem h hv.symm
    obtain ⟨c2, h2⟩ := ownsRow_elem h' hk
    rw [h1] at h2
    injection h2 with h2
    injection h2 with _ h2
    exact he h2

theorem _root_.Go.RowKit.Below.grownBy {w w' : World} (h : Below w.heap.size w w') : w.grownBy w' none := ⟨h.os, h.tape, h.output, h.size, fun k hk _ => h.block k hk⟩

theorem Modd.setCell {g : Nat} {a w : World} (h : Modd g a w) {p : Addr} (hp : g ≤ p.block) (hi : ∀ c, w.heap[p.block]? ≠ some (Obj.cells c 3 (0, 0))) (u : Value) : Modd g a (w.setCell p u) :=
  h.trans ⟨(Below.refl _ _).setCell hp u, fun k c hk => by
    by_cases e : k = p.block
    · subst e; exact absurd hk (hi c)
    · rw [heap_setCell_other _ _ _ _ e]; exact hk⟩

theorem ownsRow_modd {g : Nat} {w w' : World} (h : Modd g w w') {B : Nat} {v : Value} {n : Nat} {xs : List Value} (ho : w.ownsRow B 3 1 v n xs) : w'.ownsRow B 3 1 v n xs := by
  refine ⟨ho.1, ?_⟩
  rcases ho.2 with h1 | ⟨b, cap, cur, hv, hb, hg, h2⟩
  · exact .inl h1
  · exact .inr ⟨b, cap, cur, hv, hb, h.ints b cur hg, h2⟩

/-- behind an append to the tokens, and a step on -/
theorem Scn.putEnd {g : Nat} {s : ByteArray} {i : Nat} {tb vo vc : Value} {m : Nat} {xs : List Value} {c : Nat} {ys : List Value} {w : World} (H : Scn g s i tb vo vc m xs c ys w)
    {w0 w1 : World} (hb : Below w.heap.size w w0) (hg : w0.grownBy w1 vo.ownBlock) {gg cap k : Nat} {news : List Value}
    (hown : w1.ownsRow (g + 1) 41 8 (.slice (some ⟨gg, 0, none⟩) k cap) k (xs ++ news)) (hat : vo.ownBlock = some gg ∨ w0.heap.size ≤ gg) {z : Int} {j : Nat} (hz : z = (j : Int)) :
    Scn g s j tb (.slice (some ⟨gg, 0, none⟩) k cap) vc k (xs ++ news) c ys ((w1.setCell ⟨g, 3, none⟩ (.slice (some ⟨gg, 0, none⟩) k cap)).setCell ⟨g, 1, none⟩ (.int .i64 z)) ∧
    Modd g w ((w1.setCell ⟨g, 3, none⟩ (.slice (some ⟨gg, 0, none⟩) k cap)).setCell ⟨g, 1, none⟩ (.int .i64 z)) := by
  have lg := H.lt
  have hn : some g ≠ vo.ownBlock := by intro h; have := H.ro.lt g h.symm; omega
  have hs0 := hb.size
  have b1 : w1.heap[g]? = some (.cells #[.string s, .int .i64 (i : Int), tb, vo, vc] 100 (0, 0)) := by rw [hg.block g (by omega) hn, hb.block g lg]; exact H.blk
  have b2 := heap_setCell_same w1 g 3 _ _ (.slice (some ⟨gg, 0, none⟩) k cap) b1
  have b3 := heap_setCell_same _ g 1 _ _ (.int .i64 z) b2
  have rc0 := H.rc.kept hb.grownBy (by rcases h : vc.ownBlock with _ | q <;> simp)
  have hap := rows_apart H.ro H.rc (by decide)
  refine ⟨⟨by rw [b3, hz]; rfl, ?_, ?_⟩, ?_⟩
  · exact ownsRow_setCell_below (ownsRow_setCell_below hown (by simp) _) (by simp) _
  · exact ownsRow_setCell_below (ownsRow_setCell_below (rc0.kept hg hap) (by simp) _) (by simp) _
  · have m0 : Modd g w w0 := Below.modd hb g (by omega)
    have m1 : Modd g w0 w1 := World.grownBy.modd hg (by omega) (fun q hq => by have := H.ro.lt q hq; omega) (fun q hq cc hcc => by
      obtain ⟨c1, h1⟩ := ownsRow_elem H.ro hq
      have hlq := lt_of_blk h1
      rw [hb.block q hlq, h1] at hcc
      injection hcc with hcc; injection hcc with _ hcc; exact absurd hcc (by decide))
    refine ((m0.trans m1).setCell (Nat.le_refl _) (fun cc hcc => ?_) _).setCell (Nat.le_refl _) (fun cc hcc => ?_) _
    · simp only [b1] at hcc; injection hcc with hcc; injection hcc with _ hcc; exact absurd hcc (by decide)
    · simp only [b2] at hcc; injection hcc with hcc; injection hcc with _ hcc; exact absurd hcc (by decide)

/-- behind a step of the scanner -/
def ScnPut (g : Nat) (s : ByteArray) (i : Nat) (tb vc : Value) (m : Nat) (xs : List Value) (c : Nat) (ys : List Value) (w : World) (e : Ending) (w' : World) : Prop :=
  e = .returned (.tuple #[]) ∧ (∃ vo, Scn g s i tb vo vc m xs c ys w') ∧ Modd g w w'

set_option maxRecDepth 100000 in
set_option maxHeartbeats 3200000 in
theorem c158 (g : Nat) (s : ByteArray) (i : Nat) (tb vo vc : Value) (kd : Int) (ts : ByteArray) (ng : Bool) (dv : Value) (a0 e0 l0 c0 : Int) (n : Nat) (m : Nat) (xs : List Value) (c : Nat) (ys : List Value) (w : World)
    (H : Scn g s i tb vo vc m xs c ys w) (hm : m ≤ 1073741824) (hi : i ≤ 140737488355328) (hn : n ≤ 140737488355328) (hd : dv.oneCell' = true)  :
    Calls Tryz.prog 158 #[.pointer (some ⟨g, 0, none⟩), .agg #[.int .i64 kd, .string ts, .bool ng, dv, .int .i64 a0, .int .i64 e0, .int .i64 l0, .int .i64 c0], .int .i64 (n : Int)] w
      (ScnPut g s (i + n) tb vc (m + 1) (xs ++ [.int .i64 kd, .string ts, .bool ng, dv, .int .i64 (i : Int), .int .i64 (i + n : Int), .int .i64 l0, .int .i64 c0]) c ys w) := by
  obtain ⟨i0, hi0, hz0, hz1, hz2⟩ := info_parts Tryz.info41
  have hs := H.hs
  have ha := H.ha
  have ho := H.ho
  have hown := H.ro
  have lg := H.lt
  have hf3 := H.hf 3
  have hf1 := H.hf 1
  have q1 : IntKind.i64.wrap ((i : Int) + (n : Int)) = (i : Int) + (n : Int) := IntWalk.i64_in _ (by omega)
  have hnb : vo.ownBlock ≠ some g := by
    intro h; have := hown.lt g h; omega
  have hnw : vo.ownBlock ≠ some w.heap.size := by
    intro h; have := hown.lt _ h; omega
  have h1 : ∀ u ∈ [Value.int .i64 kd, .string ts, .bool ng, dv, .int .i64 (i : Int), .int .i64 (i + n : Int), .int .i64 l0, .int .i64 c0], u.oneCell' = true := by
    intro u hu
    simp only [List.mem_cons, List.not_mem_nil, or_false] at hu
    rcases hu with rfl | rfl | rfl | rfl | rfl | rfl | rfl | rfl <;> first | rfl | exact hd
  have H1 := Lib.hid h1
  clear h1 hd
  go_enter Tryz.func158, Tryz.ntmps158
  go_wp2_with fail
  go_region_held3 (fun w' => w'.cell? ⟨g, 1, none⟩ = some (.int .i64 (i : Int)) ∧ w'.cell? ⟨g, 3, none⟩ = some vo) (go_keep) (fail)
  go_wp2
  go_region_law
    ((refine step_append_lies _ (by rfl) _ _ _ (by rfl) (g + 1) 41 i0 _ 8 88 Tryz.underlying30 hi0 hz0 hz1 hz2 rfl (by omega) vo m xs (by rfl) ((((hown.alloc _).drew).alloc _).drew) ⟨w.heap.size + 1, 0, none⟩ 1 1 [.int .i64 kd, .string ts, .bool ng, dv, .int .i64 (i : Int), .int .i64 (i + n : Int), .int .i64 l0, .int .i64 c0] (by rfl) (by rfl) (World.news_of_block (cs := #[.int .i64 kd, .string ts, .bool ng, dv, .int .i64 (i : Int), .int .i64 (i + n : Int), .int .i64 l0, .int .i64 c0]) (t := 41) (fr := (0, 0)) (heap_alloc2_new w _ _)) H1.out (by omega) (by unfold maxLen; omega) (by omega) (by simp; omega) (w.heap.size + 2) (by simp) ?_
      intro gg cap w1 hown1 hgrow hat hlt
      have k0 := hgrow.cell_far ⟨g, 3, none⟩ (by simp; omega) (Ne.symm hnb)
      have k1 := hgrow.cell_far ⟨g, 1, none⟩ (by simp; omega) (Ne.symm hnb)
      have k2 := hgrow.frozen_far ⟨g, 3, none⟩ (by simp; omega) (Ne.symm hnb)
      have k3 := hgrow.frozen_far ⟨g, 1, none⟩ (by simp; omega) (Ne.symm hnb)
      simp [*, World.cell?_alloc_some, frozen?_alloc_cells] at k0 k1 k2 k3))
  all_goals go_wp2
  all_goals
    have hE := H.putEnd (((((Below.refl _ _).alloc (Nat.le_refl _) _).drew).alloc (by simp) _).drew) hgrow hown1 (by rcases hat with h | h; exact .inl h; exact .inr (by simp; omega)) (j := i + n) (z := (i : Int) + (n : Int)) (by omega)
    go_end0
    exact ⟨rfl, ⟨_, hE.1⟩, hE.2⟩
end Go.Proofs.YtagcfgoofiibfaaGreatDoor
