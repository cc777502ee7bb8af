/- The lexer and what it reaches: part 9 of 41: C7. -/
import Derived.Test.YtagcfgoofiibfaaGreatDoorG07
import Derived.Test.YtagcfgoofiibfaaGreatDoorG06
import Derived.Laws.BytesArg
set_option linter.unusedVariables false
set_option linter.unusedSimpArgs false
namespace Go.Proofs.YtagcfgoofiibfaaGreatDoor
open Go.RowKit Go.ChangeMaps

theorem Tryz.underlying205 : Tryz.prog.underlying 205 = some (.map 5 5) := by kernel_rfl
theorem Tryz.underlying5 : Tryz.prog.underlying 5 = some (.int .u8) := by kernel_rfl
theorem Tryz.info5 : (Tryz.prog.info? 5).map (fun i => (i.zero, i.size, i.bytes)) = some (some (.int .u8 0), 1, 1) := by kernel_rfl
theorem Tryz.underlying81 : Tryz.prog.underlying 81 = some (.slice 5) := by kernel_rfl
theorem zero5 (w : World) : (zeroValue 5).run Tryz.prog w = .ok (.int .u8 0) w := by kernel_rfl

theorem checkInt (P : Program) (k : TypeId) (q : IntKind) (hk : P.underlying k = some (.int q)) (em : Bool) (n : Nat) (v : Int) (w : World) : (Instr.checkKey em (n + 1) k (.int q v)).run P w = .ok () w := by
  simp [Instr.checkKey, run_underlying hk, Result.andThen]

theorem setBlock_new (w : World) (a b : Obj) : setBlock (w.alloc a) w.heap.size b = w.alloc b := by
  show { w with heap := (w.heap.push a).setIfInBounds w.heap.size b } = { w with heap := w.heap.push b }
  congr 1
  apply Array.ext'
  simp [Array.toList_setIfInBounds, List.set_append]

theorem put_push (P : Program) (t k e : TypeId) (q : IntKind) (ht : P.underlying t = some (.map k e)) (hk : P.underlying k = some (.int q)) (w : World) (es : Array MapEntry) (c : Nat) (x : Int) (val : Value)
    (hf : Instr.findNow (.int q) (.int q x) es.toList 0 = some none) :
    (Instr.mapUpdate t (.map (some w.heap.size)) (.int q x) val).run P (w.alloc (.map es c)) = .ok () (w.alloc (.map (es.push { key := .int q x, val := val, born := c }) (c + 1))) := by
  have hb : (w.alloc (.map es c)).heap[w.heap.size]? = some (.map es c) := heap_alloc_new w _
  have hck : (Instr.checkKey false 10000 k (.int q x)).run P (w.alloc (.map es c)) = .ok () (w.alloc (.map es c)) := checkInt P k q hk _ 9999 x _
  have hs : setBlock (w.alloc (.map es c)) w.heap.size (.map (es.push { key := .int q x, val := val, born := c }) (c + 1)) = w.alloc (.map (es.push { key := .int q x, val := val, born := c }) (c + 1)) := by
    exact setBlock_new w _ _
  rw [← hs]
  simp [Instr.mapUpdate, run_underlying ht, MapKept.run_getObj_map hb, hck, Instr.findKey, run_underlying hk, hf, MapKept.run_setObj_map _ hb, Result.andThen, setBlock]

/-- the map of what stands behind a backslash -/
def escEs : List (Int × Int) := [(34, 34), (92, 92), (116, 9), (110, 10), (102, 12), (114, 13)]
def escArr (l : List (Int × Int)) (c : Nat) : List MapEntry := match l with
  | [] => []
  | p :: l => { key := .int .u8 p.1, val := .int .u8 p.2, born := c } :: escArr l (c + 1)

theorem escFind (b : Int) : ∃ j, Instr.findNow (.int .u8) (.int .u8 b) (escArr escEs 0) 0 = some ((escF b).map fun v => (j, Value.int .u8 v)) := by
  unfold escF
  by_cases h1 : b = 34
  · subst h1; exact ⟨0, rfl⟩
  by_cases h2 : b = 92
  · subst h2; exact ⟨1, rfl⟩
  by_cases h3 : b = 116
  · subst h3; exact ⟨2, rfl⟩
  by_cases h4 : b = 110
  · subst h4; exact ⟨3, rfl⟩
  by_cases h5 : b = 102
  · subst h5; exact ⟨4, rfl⟩
  by_cases h6 : b = 114
  · subst h6; exact ⟨5, rfl⟩
  have g1 : (b == 34) = false := by simpa using h1
  have g2 : (b == 92) = false := by simpa using h2
  have g3 : (b == 116) = false := by simpa using h3
  have g4 : (b == 110) = false := by simpa using h4
  have g5 : (b == 102) = false := by simpa using h5
  have g6 : (b == 114) = false := by simpa using h6
  refine ⟨0, ?_⟩
  simp [g1, g2, g3, g4, g5, g6, Instr.findNow, Instr.sameNow, escArr, escEs, h1, h2, h3, h4, h5, h6]

theorem look_int (P : Program) (t k e : TypeId) (q : IntKind) (ht : P.underlying t = some (.map k e)) (hk : P.underlying k = some (.int q)) (z : Value) (w : World) (hz : (zeroValue e).run P w = .ok z w) (b : Nat) (es : Array MapEntry) (c : Nat)
    (hb : w.heap[b]? = some (.map es c)) (x : Int) (r : Option (Nat × Value)) (hr : Instr.findNow (.int q) (.int q x) es.toList 0 = some r) (ok : Bool) :
    (Instr.lookup t (.map (some b)) (.int q x) ok).run P w = .ok (let x := (match r with | some (_, v) => (v, true) | none => (z, false)); if ok then .tuple #[x.1, .bool x.2] else x.1) w := by
  have hck : (Instr.checkKey es.isEmpty 10000 k (.int q x)).run P w = .ok () w := checkInt P k q hk _ 9999 x w
  rcases r with _ | ⟨j, v⟩ <;>
  simp [Instr.lookup, run_underlying ht, MapKept.run_getObj_map hb, hck, Instr.findKey, run_underlying hk, hr, hz, Result.andThen]

/-- bytes as cells -/
def byteVals (o : List UInt8) : List Value := o.map fun b => .int .u8 (b.toNat : Int)

theorem strOf_bytes (o : List UInt8) : strOfNums (o.map fun b => (b.toNat : Int)) = ⟨o.toArray⟩ := by
  unfold strOfNums
  congr 2
  rw [List.map_map]
  have : ((fun n : Int => UInt8.ofNat n.toNat) ∘ fun b : UInt8 => (b.toNat : Int)) = id := by funext b; simp
  rw [this, List.map_id]

theorem conv_row (w : World) (B : Nat) (v : Value) (o : List UInt8) (h : w.ownsRow B 5 1 v o.length (byteVals o)) : (convert 81 9 v).run Tryz.prog w = .ok (.string ⟨o.toArray⟩) w := by
  have hrow := h
  rcases h.2 with ⟨rfl, h0⟩ | ⟨b, cap, cur, rfl, _⟩
  · have : o = [] := List.eq_nil_of_length_eq_zero h0
    subst this
    exact run_convert_bytes_nil w 81 5 Tryz.underlying81 Tryz.underlying5 0 0 9 Tryz.underlying9
  · rw [run_convert_bytes_arg w 81 5 Tryz.underlying81 Tryz.underlying5 b 0 o.length cap (o.map fun b => (b.toNat : Int)) (by simp) (fun j hj => ?_) 9 Tryz.underlying9, strOf_bytes]
    have hc := hrow.cells (g := b) rfl j (.int .u8 ((o.map fun b => (b.toNat : Int)).getD j 0)) (by simp [byteVals, List.getElem?_eq_getElem hj])
    have e : (⟨b, 0, none⟩ : Addr).add j = ⟨b, 0 + j, none⟩ := by unfold Addr.add; split <;> simp_all
    rw [← e]; exact hc

theorem row_form {w : World} {B : Nat} {e : TypeId} {sz : Nat} {v : Value} {n : Nat} {xs : List Value} (h : w.ownsRow B e sz v n xs) : ∃ a cap, v = .slice a n cap := by
  rcases h.2 with ⟨rfl, rfl⟩ | ⟨b, cap, cur, rfl, _⟩
  · exact ⟨_, _, rfl⟩
  · exact ⟨_, _, rfl⟩

theorem escF_bd (b c : Int) (h : escF b = some c) : 0 ≤ c ∧ c ≤ 255 := by
  unfold escF at h
  (repeat' split at h) <;> first | (injection h with h; omega) | cases h

theorem byteVals_snoc (o : List UInt8) (x : Int) (h0 : 0 ≤ x) (h1 : x ≤ 255) : byteVals (o ++ [x.toNat.toUInt8]) = byteVals o ++ [.int .u8 x] := by
  have : ((x.toNat.toUInt8).toNat : Int) = x := by
    rw [Nat.toUInt8, UInt8.toNat_ofNat']
    omega
  have e : byteVals [x.toNat.toUInt8] = [.int .u8 x] := by show [Value.int .u8 ((x.toNat.toUInt8).toNat : Int)] = _; rw [this]
  rw [← e]; simp [byteVals]

theorem row_push {w wr w1 : World} {so : Value} {m : Nat} {xs : List Value} {n : Nat} {ob E : Obj} (HR : wr.ownsRow (w.heap.size + 1) 5 1 so m xs) (HM : wr.heap[w.heap.size]? = some E) (HB : Below w.heap.size w wr)
    (hg : ((wr.drewN n).alloc ob).grownBy w1 so.ownBlock) : w1.heap[w.heap.size]? = some E ∧ Below w.heap.size w w1 := by
  have hl := lt_of_blk HM
  refine ⟨?_, ?_⟩
  · rw [hg.block w.heap.size (by simp; omega) (fun e => by have := HR.lt _ e.symm; omega), Below.heap_alloc _ _ _ (by simpa using hl)]
    exact HM
  · have h2 : Below w.heap.size w ((wr.drewN n).alloc ob) := (HB.trans (Dr.below (Dr.here wr n) _)).alloc (by simpa using HB.size) _
    exact h2.grown hg h2.size (fun k hk => by have := HR.lt k hk; omega)

set_option maxRecDepth 100000 in
set_option maxHeartbeats 3200000 in
theorem c157 (g : Nat) (s : ByteArray) (i : Nat) (tb : Value) (ps : List Tk) (ys : List (Nat × Nat)) (w : World)
    (H : SC g s i tb ps ys w) (hi : i < s.size) (hp : ps.length ≤ i) (hsz : s.size ≤ 1073741824) :
    Calls Tryz.prog 157 #[.pointer (some ⟨g, 0, none⟩)] w (ScTok g s i tb (quo s i (s.size + 1 - i) 1 []) ps ys w) := by
  obtain ⟨ii, hi0, hz0, hz1, hz2⟩ := info_parts Tryz.info5
  have HH := Lib.hid H
  clear H
  have hmm := @run_makeMap Tryz.prog 205 w
  have u1 := put_push Tryz.prog 205 5 5 .u8 Tryz.underlying205 Tryz.underlying5 w #[] 0 34 (.int .u8 34) rfl
  have u2 := put_push Tryz.prog 205 5 5 .u8 Tryz.underlying205 Tryz.underlying5 w (escArr (escEs.take 1) 0).toArray 1 92 (.int .u8 92) rfl
  have u3 := put_push Tryz.prog 205 5 5 .u8 Tryz.underlying205 Tryz.underlying5 w (escArr (escEs.take 2) 0).toArray 2 116 (.int .u8 9) rfl
  have u4 := put_push Tryz.prog 205 5 5 .u8 Tryz.underlying205 Tryz.underlying5 w (escArr (escEs.take 3) 0).toArray 3 110 (.int .u8 10) rfl
  have u5 := put_push Tryz.prog 205 5 5 .u8 Tryz.underlying205 Tryz.underlying5 w (escArr (escEs.take 4) 0).toArray 4 102 (.int .u8 12) rfl
  have u6 := put_push Tryz.prog 205 5 5 .u8 Tryz.underlying205 Tryz.underlying5 w (escArr (escEs.take 5) 0).toArray 5 114 (.int .u8 13) rfl
  change _ = Result.ok () (w.alloc (.map (escArr (escEs.take 1) 0).toArray 1)) at u1
  change _ = Result.ok () (w.alloc (.map (escArr (escEs.take 2) 0).toArray 2)) at u2
  change _ = Result.ok () (w.alloc (.map (escArr (escEs.take 3) 0).toArray 3)) at u3
  change _ = Result.ok () (w.alloc (.map (escArr (escEs.take 4) 0).toArray 4)) at u4
  change _ = Result.ok () (w.alloc (.map (escArr (escEs.take 5) 0).toArray 5)) at u5
  change _ = Result.ok () (w.alloc (.map (escArr escEs 0).toArray 6)) at u6
  generalize e1 : (escArr (escEs.take 1) 0).toArray = E1 at u1 u2
  generalize e2 : (escArr (escEs.take 2) 0).toArray = E2 at u2 u3
  generalize e3 : (escArr (escEs.take 3) 0).toArray = E3 at u3 u4
  generalize e4 : (escArr (escEs.take 4) 0).toArray = E4 at u4 u5
  generalize e5 : (escArr (escEs.take 5) 0).toArray = E5 at u5 u6
  generalize e6 : (escArr escEs 0).toArray = E6 at u6
  have e6 := Lib.hid e6
  clear e1 e2 e3 e4 e5
  go_enter Tryz.func157, Tryz.ntmps157
  go_wp2
  go_loopw [3, 4] (fun so sk wr => ∃ (k f : Nat) (o : List UInt8), 1 ≤ k ∧ i + k ≤ s.size + 1 ∧ o.length ≤ k ∧ s.size + 2 ≤ i + f + k ∧ sk = .int .i64 (k : Int) ∧ wr.ownsRow (w.heap.size + 1) 5 1 so o.length (byteVals o) ∧
      wr.heap[w.heap.size]? = some (.map E6 6) ∧ Below w.heap.size w wr ∧ quo s i (s.size + 1 - i) 1 [] = quo s i f k o) (fun _ sk _ => s.size + 2 - (intOf sk).toNat)
  case atStart => exact ⟨1, s.size + 1 - i, [], by omega, by omega, by simp, by omega, rfl, World.ownsRow_nil _ _ _ _, heap_alloc_new w _, (Below.refl _ _).alloc (Nat.le_refl _) _, rfl⟩
  case round =>
    obtain ⟨k, f, o, hk1, hk2, ho, hf, rfl, hrow, hmap, hB, HI⟩ := hrel
    have HS2 := (HH.out).below hB
    have hs := HS2.hs
    have ha := HS2.ha
    have hsD : ∀ n, (wr.drewN n).cell? ⟨g, 0, none⟩ = some (.string s) := fun _ => hs
    have haD : ∀ n, (wr.drewN n).cell? ⟨g, 1, none⟩ = some (.int .i64 (i : Int)) := fun _ => ha
    obtain ⟨sa, cap, rfl⟩ := row_form hrow
    have hcv := fun n => conv_row (wr.drewN n) _ _ _ (show (wr.drewN n).ownsRow (w.heap.size + 1) 5 1 (.slice sa o.length cap) o.length (byteVals o) from hrow)
    have HI := Lib.hid HI
    have HB := Lib.hid hB
    have HS := Lib.hid HS2
    have HR := Lib.hid hrow
    have HM := Lib.hid hmap
    have HO := Lib.hid ho
    clear hB HS2 hrow hmap ho
    have q1 : IntKind.i64.wrap ((i : Int) + (k : Int)) = (i : Int) + (k : Int) := IntWalk.i64_in _ (by omega)
    have q2 : IntKind.i64.wrap ((k : Int) + 1) = (k : Int) + 1 := IntWalk.i64_in _ (by omega)
    by_cases h0 : i + k < s.size
    · have h0' : decide ((s.size : Int) ≤ (i : Int) + (k : Int)) = false := by simp; omega
      obtain ⟨f, rfl⟩ : ∃ f', f = f' + 1 := ⟨f - 1, by omega⟩
      rcases h1 : (bt s (i + k) == 34) with _ | _
      · rcases h2 : (bt s (i + k) == 92) with _ | _
        · rcases h3 : decide (bt s (i + k) < 32) with _ | _
          · rcases h4 : decide (126 < bt s (i + k)) with _ | _
            · go_wp2
              go_quiet (fail)
              go_wp2_with (first | (go_at_call 153; (with_reducible refine (c153L g s i k (i + k) (k : Int) _ (by omega) (by omega) (by first | exact hs | exact hsD _) (by first | exact ha | exact haD _) (by omega) (by omega) (by omega)).mono ?_); rintro e w' ⟨rfl, n1, rfl⟩) | (at_builtin; refine wpList_append_lies _ rfl _ _ _ rfl (w.heap.size + 1) 5 ii _ 1 1 Tryz.underlying81 hi0 hz0 hz1 hz2 rfl (by omega) _ o.length (byteVals o) rfl ((HR.out).alloc _) ⟨wr.heap.size, 0, none⟩ 1 1 [.int .u8 (bt s (i + k))] rfl rfl (World.news_of_block (cs := #[.int .u8 (bt s (i + k))]) (t := 5) (fr := (0, 0)) (heap_alloc_new _ _)) (by simp [Value.oneCell']) (by omega) (by have := HO.out; unfold maxLen; omega) (by have := HO.out; omega) (by have := (HB.out).size; simp; omega) _ rfl ?_; intro gg cap1 w1 hown1 hgrow hat hlt; have hown1 := Lib.hid hown1; have hgrow := Lib.hid hgrow; have hat := Lib.hid hat))
              go_roundw
              case rel =>
                have hp := row_push HR.out HM.out HB.out hgrow.out
                refine ⟨k + 1, f, o ++ [(bt s (i + k)).toNat.toUInt8], by omega, by omega, by have := HO.out; simp; omega, by omega, by go_num, ?_, hp.1, hp.2, ?_⟩
                · rw [byteVals_snoc _ _ (bt_lo _ _) (bt_hi _ _), List.length_append]; exact hown1.out
                · rw [HI.out, quo, if_neg (by omega), if_neg (by simpa using h1), if_neg (by simpa using h2), if_neg (by simp at h3 h4; omega)]
              case measure => simp [intOf]; omega
            · go_wp2
              go_quiet (fail)
              go_wp2_with (first | (go_at_call 153; (with_reducible refine (c153L g s i k (i + k) (k : Int) _ (by omega) (by omega) (by first | exact hs | exact hsD _) (by first | exact ha | exact haD _) (by omega) (by omega) (by omega)).mono ?_); rintro e w' ⟨rfl, n1, rfl⟩) | (go_at_call 192; (with_reducible refine (c192 _ _ _).mono ?_); rintro e w' ⟨rfl, rfl⟩))
              refine ⟨rfl, ?_⟩
              rw [HI.out, quo, if_neg (by omega), if_neg (by simpa using h1), if_neg (by simpa using h2), if_pos (by simp at *; omega)]
              exact ⟨rfl, Below.modd ((HB.out).trans (Dr.below (Dr.here _ _) _)) g (Nat.le_of_lt (HH.out).lt)⟩
          · go_wp2
            go_quiet (fail)
            go_wp2_with (first | (go_at_call 153; (with_reducible refine (c153L g s i k (i + k) (k : Int) _ (by omega) (by omega) (by first | exact hs | exact hsD _) (by first | exact ha | exact haD _) (by omega) (by omega) (by omega)).mono ?_); rintro e w' ⟨rfl, n1, rfl⟩) | (go_at_call 192; (with_reducible refine (c192 _ _ _).mono ?_); rintro e w' ⟨rfl, rfl⟩))
            refine ⟨rfl, ?_⟩
            rw [HI.out, quo, if_neg (by omega), if_neg (by simpa using h1), if_neg (by simpa using h2), if_pos (by simp at *; omega)]
            exact ⟨rfl, Below.modd ((HB.out).trans (Dr.below (Dr.here _ _) _)) g (Nat.le_of_lt (HH.out).lt)⟩
        · obtain ⟨j, hj⟩ := escFind (bt s (i + (k + 1)))
          have hlk := fun n => look_int Tryz.prog 205 5 5 .u8 Tryz.underlying205 Tryz.underlying5 (.int .u8 0) (wr.drewN n) (zero5 _) w.heap.size E6 6 (show (wr.drewN n).heap[w.heap.size]? = _ from HM.out) (bt s (i + (k + 1))) _ (by rw [← e6.out]; exact hj) true
          have q3 : IntKind.i64.wrap ((i : Int) + ((k : Int) + 1)) = (i : Int) + ((k : Int) + 1) := IntWalk.i64_in _ (by omega)
          have q4 : IntKind.i64.wrap ((k : Int) + 1 + 1) = (k : Int) + 1 + 1 := IntWalk.i64_in _ (by omega)
          rcases he : escF (bt s (i + (k + 1))) with _ | c
          · rw [he] at hlk
            replace he := Lib.hid he
            clear hj
            simp only [Option.map_none, if_true] at hlk
            go_wp2
            go_quiet (fail)
            go_wp2_with (first | (go_at_call 153; (with_reducible refine (c153L g s i k (i + k) (k : Int) _ (by omega) (by omega) (by first | exact hs | exact hsD _) (by first | exact ha | exact haD _) (by omega) (by omega) (by omega)).mono ?_); rintro e w' ⟨rfl, n1, rfl⟩) | (go_at_call 153; (with_reducible refine (c153L g s i (k + 1) (i + (k + 1)) ((k : Int) + 1) _ (by omega) (by omega) (by first | exact hs | exact hsD _) (by first | exact ha | exact haD _) (by omega) (by omega) (by omega)).mono ?_); rintro e w' ⟨rfl, n1, rfl⟩))
            go_quiet (fail)
            go_wp2_with (go_at_call 192; (with_reducible refine (c192 _ _ _).mono ?_); rintro e w' ⟨rfl, rfl⟩)
            refine ⟨rfl, ?_⟩
            rw [HI.out, quo, if_neg (by omega), if_neg (by simpa using h1), if_pos (by simpa using h2), he.out]
            exact ⟨rfl, Below.modd ((HB.out).trans (Dr.below (Dr.here _ _) _)) g (Nat.le_of_lt (HH.out).lt)⟩
          · have hin : i + (k + 1) < s.size := by
              by_cases hh : i + (k + 1) < s.size
              · exact hh
              · rw [bt_out s _ (by omega)] at he; exact absurd he (by rw [show escF 0 = none from by decide]; simp)
            have hcb := escF_bd _ _ he
            have hin' : decide ((s.size : Int) ≤ (i : Int) + ((k : Int) + 1)) = false := by simp; omega
            rw [he] at hlk
            replace he := Lib.hid he
            clear hj
            simp only [Option.map_some, if_true] at hlk
            go_wp2
            go_quiet (fail)
            go_wp2_with (first | (go_at_call 153; (with_reducible refine (c153L g s i k (i + k) (k : Int) _ (by omega) (by omega) (by first | exact hs | exact hsD _) (by first | exact ha | exact haD _) (by omega) (by omega) (by omega)).mono ?_); rintro e w' ⟨rfl, n1, rfl⟩) | (go_at_call 153; (with_reducible refine (c153L g s i (k + 1) (i + (k + 1)) ((k : Int) + 1) _ (by omega) (by omega) (by first | exact hs | exact hsD _) (by first | exact ha | exact haD _) (by omega) (by omega) (by omega)).mono ?_); rintro e w' ⟨rfl, n1, rfl⟩))
            go_quiet (fail)
            go_wp2_with (first | (at_builtin; refine wpList_append_lies _ rfl _ _ _ rfl (w.heap.size + 1) 5 ii _ 1 1 Tryz.underlying81 hi0 hz0 hz1 hz2 rfl (by omega) _ o.length (byteVals o) rfl ((HR.out).alloc _) ⟨wr.heap.size, 0, none⟩ 1 1 [.int .u8 c] rfl rfl (World.news_of_block (cs := #[.int .u8 c]) (t := 5) (fr := (0, 0)) (heap_alloc_new _ _)) (by simp [Value.oneCell']) (by omega) (by have := HO.out; unfold maxLen; omega) (by have := HO.out; omega) (by have := (HB.out).size; simp; omega) _ rfl ?_; intro gg cap1 w1 hown1 hgrow hat hlt; have hown1 := Lib.hid hown1; have hgrow := Lib.hid hgrow; have hat := Lib.hid hat))
            go_roundw
            case rel =>
              have hp := row_push HR.out HM.out HB.out hgrow.out
              refine ⟨k + 2, f, o ++ [c.toNat.toUInt8], by omega, by omega, by have := HO.out; simp; omega, by omega, by go_num, ?_, hp.1, hp.2, ?_⟩
              · rw [byteVals_snoc _ _ hcb.1 hcb.2, List.length_append]; exact hown1.out
              · rw [HI.out, quo, if_neg (by omega), if_neg (by simpa using h1), if_pos (by simpa using h2), he.out]; simp only []; rw [if_neg (by omega)]
            case measure => simp [intOf]; omega
      · by_cases h5 : 200 < o.length
        · have h5' : (200 : Int) < (o.length : Int) := by omega
          go_wp2
          go_quiet (fail)
          go_wp2_with (first | (go_at_call 153; (with_reducible refine (c153L g s i k (i + k) (k : Int) _ (by omega) (by omega) (by first | exact hs | exact hsD _) (by first | exact ha | exact haD _) (by omega) (by omega) (by omega)).mono ?_); rintro e w' ⟨rfl, n1, rfl⟩) | (go_at_call 192; (with_reducible refine (c192 _ _ _).mono ?_); rintro e w' ⟨rfl, rfl⟩))
          refine ⟨rfl, ?_⟩
          rw [HI.out, quo, if_neg (by omega), if_pos (by simpa using h1), if_pos h5]
          exact ⟨rfl, Below.modd ((HB.out).trans (Dr.below (Dr.here _ _) _)) g (Nat.le_of_lt (HH.out).lt)⟩
        · have h5' : decide ((200 : Int) < (o.length : Int)) = false := by simp; omega
          go_wp2
          go_quiet (fail)
          go_wp2_with (first | (go_at_call 153; (with_reducible refine (c153L g s i k (i + k) (k : Int) _ (by omega) (by omega) (by first | exact hs | exact hsD _) (by first | exact ha | exact haD _) (by omega) (by omega) (by omega)).mono ?_); rintro e w' ⟨rfl, n1, rfl⟩) | (go_at_call 158; (with_reducible refine (c158L g s i _ ps ys _ _ _ [] (k + 1) _ _ (by omega) (SC.heap HS.out (by with_unfolding_all rfl)) (IntsAt.nil _) (by omega) (by omega) (by omega)).mono ?_); rintro e w5 ⟨rfl, hS, hM⟩))
          go_end0
          rw [HI.out, quo, if_neg (by omega), if_pos (by simpa using h1), if_neg h5]
          exact ⟨rfl, hS, (Below.modd ((HB.out).trans (Dr.below (Dr.here _ _) _)) g (Nat.le_of_lt (HH.out).lt)).trans hM⟩
    · have h0' : decide ((s.size : Int) ≤ (i : Int) + (k : Int)) = true := by simp; omega
      go_wp2
      go_quiet (fail)
      go_wp2_with (go_at_call 192; (with_reducible refine (c192 _ _ _).mono ?_); rintro e w' ⟨rfl, rfl⟩)
      refine ⟨rfl, ?_⟩
      rw [HI.out]
      have hq : quo s i f k o = .error 21 := by
        rcases f with _ | f
        · rfl
        · simp only [quo]; rw [if_pos (by omega)]
      rw [hq]
      exact ⟨rfl, Below.modd ((HB.out).trans (Dr.below (Dr.here _ _) _)) g (Nat.le_of_lt (HH.out).lt)⟩
end Go.Proofs.YtagcfgoofiibfaaGreatDoor
