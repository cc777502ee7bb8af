/- The lexer and what it reaches: part 4 of 41: S0, S1, T0. -/
import Derived.Test.YtagcfgoofiibfaaGreatDoorG03
import Derived.Shelf.GgClosure.StringsIndexFunc
import Derived.Maps.OwnSet
import Derived.Sort.KeysCollected
set_option linter.unusedVariables false
set_option linter.unusedSimpArgs false
namespace Go.Proofs.YtagcfgoofiibfaaGreatDoor
open Go.RowKit

theorem quiet_dr2 {P : Program} {f : FuncId} {args : Array Value} {w : World} {a n : Nat} {v : Value}
    (h : Calls P f args (w.drewN (a + n)) fun e w' => e = .returned v ∧ Dr (w.drewN (a + n)) w') : Calls P f args (w.drewN (a + n)) fun e w'' => e = .returned v ∧ ∃ m, w'' = w.drewN (a + m) :=
  h.mono fun _ _ ⟨he, m, hm⟩ => ⟨he, n + m, by rw [hm, World.drewN_drewN, Nat.add_assoc]⟩
theorem quiet_eq2 {P : Program} {f : FuncId} {args : Array Value} {w : World} {a n : Nat} {v : Value}
    (h : Calls P f args (w.drewN (a + n)) fun e w' => e = .returned v ∧ w.drewN (a + n) = w') : Calls P f args (w.drewN (a + n)) fun e w'' => e = .returned v ∧ ∃ m, w'' = w.drewN (a + m) :=
  h.mono fun _ _ ⟨he, hm⟩ => ⟨he, n, hm.symm⟩

/-- a text stands at a byte -/
def sees (s : ByteArray) (i : Nat) (p : ByteArray) : Bool := Lib.hasPrefix (s.data.toList.drop i) p.data.toList

theorem isPrefixOf_len : ∀ (p l : List UInt8), p.isPrefixOf l = true → p.length ≤ l.length
  | [], _, _ => by simp
  | _ :: _, [], h => by simp [List.isPrefixOf] at h
  | a :: p, b :: l, h => by
    simp only [List.isPrefixOf, Bool.and_eq_true] at h
    have := isPrefixOf_len p l h.2
    simpa using this

theorem sees_le (s : ByteArray) (i : Nat) (p : ByteArray) (h : sees s i p = true) (hp : 0 < p.size) : i + p.size ≤ s.size := by
  have h1 := isPrefixOf_len _ _ (by simpa [sees, Lib.hasPrefix] using h)
  simp at h1
  omega

theorem sees_len (s : ByteArray) (i : Nat) (p : ByteArray) (n : Nat) (hn : p.size = n + 1) (h : sees s i p = true) : i + (n + 1) ≤ s.size := by
  have := sees_le s i p h (by omega); omega

/-- the end of a comment of the nested kind: i: where one stands; d: how deep -/
def ins (s : ByteArray) : Nat → Nat → Int → Option Nat
  | 0, _, _ => none
  | f + 1, i, d =>
    if sees s i ⟨#[40, 42]⟩ then ins s f (i + 2) (d + 1)
    else if sees s i ⟨#[42, 41]⟩ then (if d = 1 then some (i + 2) else ins s f (i + 2) (d - 1))
    else if s.size ≤ i then none
    else ins s f (i + 1) d

/-- blanks and comments passed over: where one stands behind them, and the comments; or where a comment begins that has no end -/
def skp (s : ByteArray) : Nat → Nat → List (Nat × Nat) → Except Nat (Nat × List (Nat × Nat))
  | 0, i, ys => .ok (i, ys)
  | f + 1, i, ys =>
    if s.size ≤ i then .ok (i, ys)
    else if blk (bt s i) then skp s f (i + 1) ys
    else if sees s i ⟨#[92, 42]⟩ then skp s f (i + cnt (fun b => b != 10) s i) (ys ++ [(i, i + cnt (fun b => b != 10) s i)])
    else if sees s i ⟨#[40, 42]⟩ then
      match ins s (s.size + 1 - i) i 0 with
      | none => .error i
      | some j => skp s f j (ys ++ [(i, j)])
    else .ok (i, ys)

theorem ins_fuel (s : ByteArray) : ∀ (f f' i : Nat) (d : Int), s.size + 1 - i ≤ f → s.size + 1 - i ≤ f' → i ≤ s.size → ins s f i d = ins s f' i d
  | 0, _, i, _, h, _, hi => by omega
  | _ + 1, 0, i, _, _, h, hi => by omega
  | f + 1, f' + 1, i, d, h, h', hi => by
    simp only [ins]
    split
    · rename_i h1
      have := sees_len s i _ 1 rfl h1
      exact ins_fuel s f f' _ _ (by omega) (by omega) (by omega)
    · split
      · rename_i h1
        have := sees_len s i _ 1 rfl h1
        split
        · rfl
        · exact ins_fuel s f f' _ _ (by omega) (by omega) (by omega)
      · split
        · rfl
        · exact ins_fuel s f f' _ _ (by omega) (by omega) (by omega)

/-- .. with as much fuel as is ever needed -/
def insA (s : ByteArray) (i : Nat) (d : Int) : Option Nat := ins s (s.size + 1 - i) i d

theorem insA_eq (s : ByteArray) (i : Nat) (d : Int) (hi : i ≤ s.size) : insA s i d =
    if sees s i ⟨#[40, 42]⟩ then insA s (i + 2) (d + 1)
    else if sees s i ⟨#[42, 41]⟩ then (if d = 1 then some (i + 2) else insA s (i + 2) (d - 1))
    else if s.size ≤ i then none
    else insA s (i + 1) d := by
  have e : s.size + 1 - i = (s.size - i) + 1 := by omega
  conv => lhs; unfold insA; rw [e]; simp only [ins]
  split
  · rename_i h1
    have := sees_len s i _ 1 rfl h1
    exact ins_fuel s _ _ _ _ (by omega) (by omega) (by omega)
  · split
    · rename_i h1
      have := sees_len s i _ 1 rfl h1
      split
      · rfl
      · exact ins_fuel s _ _ _ _ (by omega) (by omega) (by omega)
    · split
      · rfl
      · exact ins_fuel s _ _ _ _ (by omega) (by omega) (by omega)

theorem ins_bd (s : ByteArray) : ∀ (f i : Nat) (d : Int) (j : Nat), i ≤ s.size → ins s f i d = some j → i < j ∧ j ≤ s.size
  | 0, _, _, _, _, h => by simp [ins] at h
  | f + 1, i, d, j, hi, h => by
    simp only [ins] at h
    split at h
    · rename_i h1
      have := sees_len s i _ 1 rfl h1
      have := ins_bd s f _ _ _ (by omega) h
      omega
    · split at h
      · rename_i h1
        have := sees_len s i _ 1 rfl h1
        split at h
        · simp only [Option.some.injEq] at h; omega
        · have := ins_bd s f _ _ _ (by omega) h
          omega
      · split at h
        · cases h
        · have := ins_bd s f _ _ _ (by omega) h
          omega
theorem insA_bd (s : ByteArray) (i : Nat) (d : Int) (j : Nat) (hi : i ≤ s.size) (h : insA s i d = some j) : i < j ∧ j ≤ s.size := ins_bd s _ i d j hi h

theorem sees_bt (s : ByteArray) (i : Nat) (p : ByteArray) (b : UInt8) (tl : List UInt8) (hp : p.data.toList = b :: tl) (h : sees s i p = true) : bt s i = (b.toNat : Int) := by
  unfold sees Lib.hasPrefix at h
  rw [hp] at h
  by_cases hi : i < s.size
  · rw [drop_bt s i hi] at h
    simp only [List.isPrefixOf, Bool.and_eq_true, beq_iff_eq] at h
    unfold bt
    rw [← h.1]
  · rw [List.drop_eq_nil_of_le (by simpa using hi)] at h
    simp [List.isPrefixOf] at h

theorem skp_fuel (s : ByteArray) : ∀ (f f' i : Nat) (ys : List (Nat × Nat)), s.size - i ≤ f → s.size - i ≤ f' → skp s f i ys = skp s f' i ys
  | 0, 0, _, _, _, _ => rfl
  | 0, f' + 1, i, ys, h, _ => by simp only [skp]; rw [if_pos (by omega)]
  | f + 1, 0, i, ys, _, h => by simp only [skp]; rw [if_pos (by omega)]
  | f + 1, f' + 1, i, ys, h, h' => by
    simp only [skp]
    by_cases h0 : s.size ≤ i
    · rw [if_pos h0, if_pos h0]
    rw [if_neg h0, if_neg h0]
    split
    · exact skp_fuel s f f' _ _ (by omega) (by omega)
    · split
      · rename_i h1
        have hb := sees_bt s i _ 92 [42] rfl h1
        have hy := cnt_yes (fun b => b != 10) s i (by omega) (by rw [hb]; decide)
        exact skp_fuel s f f' _ _ (by omega) (by omega)
      · split
        · change (match insA s i 0 with | none => _ | some j => _) = (match insA s i 0 with | none => _ | some j => _)
          rcases hq : insA s i 0 with _ | j
          · rfl
          · have := insA_bd s i 0 j (by omega) hq
            exact skp_fuel s f f' _ _ (by omega) (by omega)
        · rfl

/-- .. with as much fuel as is ever needed -/
def skpA (s : ByteArray) (i : Nat) (ys : List (Nat × Nat)) : Except Nat (Nat × List (Nat × Nat)) := skp s (s.size - i) i ys

theorem skpA_eq (s : ByteArray) (i : Nat) (ys : List (Nat × Nat)) : skpA s i ys =
    if s.size ≤ i then .ok (i, ys)
    else if blk (bt s i) then skpA s (i + 1) ys
    else if sees s i ⟨#[92, 42]⟩ then skpA s (i + cnt (fun b => b != 10) s i) (ys ++ [(i, i + cnt (fun b => b != 10) s i)])
    else if sees s i ⟨#[40, 42]⟩ then
      match insA s i 0 with
      | none => .error i
      | some j => skpA s j (ys ++ [(i, j)])
    else .ok (i, ys) := by
  by_cases h0 : s.size ≤ i
  · rw [if_pos h0]; unfold skpA; rw [show s.size - i = 0 by omega]; rfl
  have e : s.size - i = (s.size - i - 1) + 1 := by omega
  conv => lhs; unfold skpA; rw [e]; simp only [skp]
  rw [if_neg h0, if_neg h0]
  split
  · exact skp_fuel s _ _ _ _ (by omega) (by omega)
  · split
    · rename_i h1
      have hb := sees_bt s i _ 92 [42] rfl h1
      have hy := cnt_yes (fun b => b != 10) s i (by omega) (by rw [hb]; decide)
      exact skp_fuel s _ _ _ _ (by omega) (by omega)
    · split
      · change (match insA s i 0 with | none => _ | some j => _) = _
        rcases hq : insA s i 0 with _ | j
        · rfl
        · have := insA_bd s i 0 j (by omega) hq
          exact skp_fuel s _ _ _ _ (by omega) (by omega)
      · rfl

/-- the cells of comments -/
def spanCells (ys : List (Nat × Nat)) : List Value := ys.flatMap fun y => [.int .i64 (y.1 : Int), .int .i64 (y.2 : Int)]
theorem spanCells_snoc (ys : List (Nat × Nat)) (a b : Nat) : spanCells (ys ++ [(a, b)]) = spanCells ys ++ [.int .i64 (a : Int), .int .i64 (b : Int)] := by simp [spanCells]
end Go.Proofs.YtagcfgoofiibfaaGreatDoor
namespace Go.Proofs.YtagcfgoofiibfaaGreatDoor
open Go.RowKit

/-- the reserved words, in the order of the text -/
def wordsL : List (List UInt8) := [
  [65, 83, 83, 85, 77, 69],
  [65, 83, 83, 85, 77, 80, 84, 73, 79, 78],
  [65, 88, 73, 79, 77],
  [66, 79, 79, 76, 69, 65, 78],
  [67, 65, 83, 69],
  [67, 72, 79, 79, 83, 69],
  [67, 79, 78, 83, 84, 65, 78, 84],
  [67, 79, 78, 83, 84, 65, 78, 84, 83],
  [68, 79, 77, 65, 73, 78],
  [69, 76, 83, 69],
  [69, 78, 65, 66, 76, 69, 68],
  [69, 88, 67, 69, 80, 84],
  [69, 88, 84, 69, 78, 68, 83],
  [70, 65, 76, 83, 69],
  [73, 70],
  [73, 78],
  [73, 78, 83, 84, 65, 78, 67, 69],
  [76, 65, 77, 66, 68, 65],
  [76, 69, 84],
  [76, 79, 67, 65, 76],
  [77, 79, 68, 85, 76, 69],
  [79, 84, 72, 69, 82],
  [82, 69, 67, 85, 82, 83, 73, 86, 69],
  [83, 70, 95],
  [83, 84, 82, 73, 78, 71],
  [83, 85, 66, 83, 69, 84],
  [84, 72, 69, 78],
  [84, 72, 69, 79, 82, 69, 77],
  [84, 82, 85, 69],
  [85, 78, 67, 72, 65, 78, 71, 69, 68],
  [85, 78, 73, 79, 78],
  [86, 65, 82, 73, 65, 66, 76, 69],
  [86, 65, 82, 73, 65, 66, 76, 69, 83],
  [87, 70, 95],
  [87, 73, 84, 72]]

/-- the signs and their first spellings, in the order in which they come into the map -/
def signsL : List (List UInt8 × List UInt8) := [
  ([40], [40]),
  ([41], [41]),
  ([91], [91]),
  ([93], [93]),
  ([123], [123]),
  ([125], [125]),
  ([60, 60], [60, 60]),
  ([62, 62], [62, 62]),
  ([93, 95], [93, 95]),
  ([62, 62, 95], [62, 62, 95]),
  ([44], [44]),
  ([58], [58]),
  ([59], [59]),
  ([46], [46]),
  ([95], [95]),
  ([33], [33]),
  ([64], [64]),
  ([39], [39]),
  ([61, 61], [61, 61]),
  ([124, 45, 62], [124, 45, 62]),
  ([45, 62], [45, 62]),
  ([60, 45], [60, 45]),
  ([58, 61], [58, 61]),
  ([46, 46], [46, 46]),
  ([46, 46, 46], [46, 46, 46]),
  ([124], [124]),
  ([124, 45], [124, 45]),
  ([45, 124], [45, 124]),
  ([61, 62], [61, 62]),
  ([61], [61]),
  ([35], [35]),
  ([60], [60]),
  ([62], [62]),
  ([43], [43]),
  ([45], [45]),
  ([42], [42]),
  ([47], [47]),
  ([37], [37]),
  ([94], [94]),
  ([92, 100, 105, 118], [92, 100, 105, 118]),
  ([64, 64], [64, 64]),
  ([58, 62], [58, 62]),
  ([92], [92]),
  ([92, 105, 110], [92, 105, 110]),
  ([92, 110, 111, 116, 105, 110], [92, 110, 111, 116, 105, 110]),
  ([92, 115, 117, 98, 115, 101, 116, 101, 113], [92, 115, 117, 98, 115, 101, 116, 101, 113]),
  ([92, 115, 117, 112, 115, 101, 116, 101, 113], [92, 115, 117, 112, 115, 101, 116, 101, 113]),
  ([92, 65], [92, 65]),
  ([92, 69], [92, 69]),
  ([92, 65, 65], [92, 65, 65]),
  ([92, 69, 69], [92, 69, 69]),
  ([91, 93], [91, 93]),
  ([60, 62], [60, 62]),
  ([126, 62], [126, 62]),
  ([92, 99, 100, 111, 116], [92, 99, 100, 111, 116]),
  ([92, 115, 113, 115, 117, 98, 115, 101, 116, 101, 113], [92, 115, 113, 115, 117, 98, 115, 101, 116, 101, 113]),
  ([92, 115, 113, 99, 117, 112], [92, 115, 113, 99, 117, 112]),
  ([92, 115, 113, 99, 97, 112], [92, 115, 113, 99, 97, 112]),
  ([92, 112, 114, 101, 99], [92, 112, 114, 101, 99]),
  ([92, 115, 117, 99, 99], [92, 115, 117, 99, 99]),
  ([92, 115, 105, 109], [92, 115, 105, 109]),
  ([92, 115, 116, 97, 114], [92, 115, 116, 97, 114]),
  ([92, 98, 117, 108, 108, 101, 116], [92, 98, 117, 108, 108, 101, 116]),
  ([43, 43], [43, 43]),
  ([45, 45], [45, 45]),
  ([42, 42], [42, 42]),
  ([47, 47], [47, 47]),
  ([124, 124], [124, 124]),
  ([38], [38]),
  ([38, 38], [38, 38]),
  ([36], [36]),
  ([36, 36], [36, 36]),
  ([63, 63], [63, 63]),
  ([37, 37], [37, 37]),
  ([35, 35], [35, 35]),
  ([94, 94], [94, 94]),
  ([47, 92], [47, 92]),
  ([92, 108, 97, 110, 100], [47, 92]),
  ([92, 47], [92, 47]),
  ([92, 108, 111, 114], [92, 47]),
  ([126], [126]),
  ([92, 108, 110, 111, 116], [126]),
  ([92, 110, 101, 103], [126]),
  ([60, 61, 62], [60, 61, 62]),
  ([92, 101, 113, 117, 105, 118], [60, 61, 62]),
  ([47, 61], [35]),
  ([60, 61], [60, 61]),
  ([61, 60], [60, 61]),
  ([92, 108, 101, 113], [60, 61]),
  ([62, 61], [62, 61]),
  ([92, 103, 101, 113], [62, 61]),
  ([92, 99, 117, 112], [92, 99, 117, 112]),
  ([92, 117, 110, 105, 111, 110], [92, 99, 117, 112]),
  ([92, 99, 97, 112], [92, 99, 97, 112]),
  ([92, 105, 110, 116, 101, 114, 115, 101, 99, 116], [92, 99, 97, 112]),
  ([92, 88], [92, 88]),
  ([92, 116, 105, 109, 101, 115], [92, 88]),
  ([92, 111], [92, 111]),
  ([92, 99, 105, 114, 99], [92, 111]),
  ([40, 43, 41], [40, 43, 41]),
  ([92, 111, 112, 108, 117, 115], [40, 43, 41]),
  ([40, 45, 41], [40, 45, 41]),
  ([92, 111, 109, 105, 110, 117, 115], [40, 45, 41]),
  ([40, 46, 41], [40, 46, 41]),
  ([92, 111, 100, 111, 116], [40, 46, 41])]

/-- a reserved word -/
def isWord (k : ByteArray) : Bool := wordsL.contains k.data.toList
/-- the first spelling of a sign -/
def canonOf (k : ByteArray) : Option ByteArray := (signsL.find? fun p => p.1 == k.data.toList).map fun p => ⟨p.2.toArray⟩
/-- a spelling has letters -/
def letd (s : ByteArray) : Bool := decide (0 ≤ Lib.idxFunc (fun r => ltr (r : Int)) true s)

/-- a token, as data -/
structure Tk where
  k : Int
  s : ByteArray
  d : List Int
  at_ : Nat
  en : Nat
  line : Int
  col : Int

/-- the parts of a number, the least first -/
def limbsF : Nat → Nat → List Int
  | 0, _ => []
  | f + 1, n => if n = 0 then [] else ((n % 1000000000 : Nat) : Int) :: limbsF f (n / 1000000000)
def limbs (n : Nat) : List Int := limbsF 45 n
/-- the bound on integers -/
def big : Nat := 10 ^ 360

/-- the number of digits to a base -/
def valN (b : Int) : List UInt8 → Nat → Option Nat
  | [], n => some n
  | c :: l, n => if wrth (c.toNat : Int) < 0 ∨ b ≤ wrth (c.toNat : Int) then none else valN b l (n * b.toNat + (wrth (c.toNat : Int)).toNat)
def valF (w : ByteArray) (b : Int) : Option (List Int) := (valN b w.data.toList 0).bind fun n => if n < big then some (limbs n) else none

/-- what begins with a letter, a digit or _ -/
def runF (s : ByteArray) (i : Nat) : Except Int Tk :=
  if cnt dgt s i = cnt rnb s i then
    match valF (s.extract i (i + cnt rnb s i)) 10 with
    | none => .error 23
    | some d => .ok ⟨2, ByteArray.empty, d, i, i + cnt rnb s i, 0, 0⟩
  else if Lib.hasPrefix (s.extract i (i + cnt rnb s i)).data.toList [87, 70, 95] || Lib.hasPrefix (s.extract i (i + cnt rnb s i)).data.toList [83, 70, 95] then .ok ⟨4, (s.extract i (i + cnt rnb s i)).extract 0 3, [], i, i + 3, 0, 0⟩
  else if (s.extract i (i + cnt rnb s i)).toList == [95] then .ok ⟨5, s.extract i (i + cnt rnb s i), [], i, i + cnt rnb s i, 0, 0⟩
  else if isWord (s.extract i (i + cnt rnb s i)) then .ok ⟨4, s.extract i (i + cnt rnb s i), [], i, i + cnt rnb s i, 0, 0⟩
  else if letd (s.extract i (i + cnt rnb s i)) = false then .error 20
  else if 40 < cnt rnb s i then .error 24
  else .ok ⟨1, s.extract i (i + cnt rnb s i), [], i, i + cnt rnb s i, 0, 0⟩

/-- the sign of at most n bytes without letters that is the longest -/
def sgn (s : ByteArray) (i : Nat) : Nat → Except Int Tk
  | 0 => .error 20
  | n + 1 => match canonOf (s.extract i (i + (n + 1))) with
    | some c => if letd (s.extract i (i + (n + 1))) then sgn s i n else .ok ⟨5, c, [], i, i + (n + 1), 0, 0⟩
    | none => sgn s i n
def signF (s : ByteArray) (i : Nat) : Except Int Tk :=
  if bt s i = 92 ∧ 0 < cnt ltr s (i + 1) ∧ (canonOf (s.extract i (i + (1 + cnt ltr s (i + 1))))).isSome then
    .ok ⟨5, (canonOf (s.extract i (i + (1 + cnt ltr s (i + 1))))).getD ByteArray.empty, [], i, i + (1 + cnt ltr s (i + 1)), 0, 0⟩
  else sgn s i (min 3 (s.size - i))

/-- the base of a number that begins with a backslash, 0 if none does -/
def baseF (s : ByteArray) (i : Nat) : Int :=
  if bt s i ≠ 92 then 0
  else if bt s (i + 1) = 98 ∨ bt s (i + 1) = 66 then (if dgt (bt s (i + 2)) then 2 else 0)
  else if bt s (i + 1) = 111 ∨ bt s (i + 1) = 79 then (if dgt (bt s (i + 2)) then 8 else 0)
  else if bt s (i + 1) = 104 ∨ bt s (i + 1) = 72 then (if dgt (bt s (i + 2)) ∨ 0 ≤ wrth (bt s (i + 2)) then 16 else 0)
  else 0
def basedF (s : ByteArray) (i : Nat) : Except Int Tk :=
  match valF (s.extract (i + 2) (i + 2 + cnt rnb s (i + 2))) (baseF s i) with
  | none => .error 23
  | some d => .ok ⟨2, ByteArray.empty, d, i, i + (cnt rnb s (i + 2) + 2), 0, 0⟩

/-- what a byte behind a backslash stands for -/
def escF (b : Int) : Option Int := if b = 34 then some 34 else if b = 92 then some 92 else if b = 116 then some 9 else if b = 110 then some 10 else if b = 102 then some 12 else if b = 114 then some 13 else none
/-- the rest of a string: k: how far behind its beginning one stands; o: what was read -/
def quo (s : ByteArray) (i : Nat) : Nat → Nat → List UInt8 → Except Int Tk
  | 0, _, _ => .error 21
  | f + 1, k, o =>
    if s.size ≤ i + k then .error 21
    else if bt s (i + k) = 34 then (if 200 < o.length then .error 21 else .ok ⟨3, ⟨o.toArray⟩, [], i, i + (k + 1), 0, 0⟩)
    else if bt s (i + k) = 92 then
      match escF (bt s (i + (k + 1))) with
      | some c => if s.size ≤ i + (k + 1) then .error 21 else quo s i f (k + 2) (o ++ [c.toNat.toUInt8])
      | none => .error 21
    else if bt s (i + k) < 32 ∨ 126 < bt s (i + k) then .error 21
    else quo s i f (k + 1) (o ++ [(bt s (i + k)).toNat.toUInt8])

/-- the token at a byte -/
def tokF (s : ByteArray) (i : Nat) : Except Int Tk :=
  if rnb (bt s i) then runF s i
  else if baseF s i ≠ 0 then basedF s i
  else if bt s i = 34 then quo s i (s.size + 1 - i) 1 []
  else if sees s i ⟨#[45, 45, 45, 45]⟩ then .ok ⟨6, ByteArray.empty, [], i, i + cnt (fun b => b == 45) s i, 0, 0⟩
  else if sees s i ⟨#[61, 61, 61, 61]⟩ then .ok ⟨7, ByteArray.empty, [], i, i + cnt (fun b => b == 61) s i, 0, 0⟩
  else signF s i

/-- a text read: its tokens and its comments; or where an error is, and which -/
def scnF (s : ByteArray) : Nat → Nat → List Tk → List (Nat × Nat) → Except (Nat × Int) (List Tk × List (Nat × Nat))
  | 0, _, ps, ys => .ok (ps, ys)
  | f + 1, i, ps, ys =>
    match skpA s i ys with
    | .error a => .error (a, 22)
    | .ok (j, zs) =>
      if s.size ≤ j then .ok (ps, zs)
      else match tokF s j with
        | .error e => .error (j, e)
        | .ok p => scnF s f p.en (ps ++ [p]) zs
def scan (s : ByteArray) : Except (Nat × Int) (List Tk × List (Nat × Nat)) := scnF s (s.size + 1) 0 [] []
end Go.Proofs.YtagcfgoofiibfaaGreatDoor
namespace Go.Proofs.YtagcfgoofiibfaaGreatDoor
open Go.RowKit Go.Maps

/-- entries put into a map, one by one -/
def foldD (L : List (List UInt8 × DataW Unit)) (D : DataW Unit) : DataW Unit := L.foldl (fun D p => D.put (.string p.1) p.2) D
theorem foldD_snoc (L : List (List UInt8 × DataW Unit)) (p : List UInt8 × DataW Unit) (D : DataW Unit) : foldD (L ++ [p]) D = (foldD L D).put (.string p.1) p.2 := by simp [foldD]
theorem foldD_app (L M : List (List UInt8 × DataW Unit)) (D : DataW Unit) : foldD (L ++ M) D = foldD M (foldD L D) := by simp [foldD]
theorem foldD_isMap : ∀ (L : List (List UInt8 × DataW Unit)) (D : DataW Unit), IsMap D → IsMap (foldD L D)
  | [], _, h => h
  | p :: L, D, h => foldD_isMap L _ (h.put _ _)

theorem find_none_of (k : List UInt8) (L : List (List UInt8 × DataW Unit)) (h : ∀ q ∈ L, q.1 ≠ k) : L.find? (fun p => p.1 == k) = none := by
  rw [List.find?_eq_none]; intro x hx; simpa using h x hx

theorem isKey (k : List UInt8) : WideAt.IsKeyLit (.string k) := by simp [WideAt.IsKeyLit]

theorem foldD_at (k : List UInt8) (z : DataW Unit) : ∀ (L : List (List UInt8 × DataW Unit)) (D : DataW Unit), IsMap D → L.Pairwise (fun p q => p.1 ≠ q.1) →
    (foldD L D).atKey (.string k) z = match L.find? (fun p => p.1 == k) with | some p => p.2 | none => D.atKey (.string k) z
  | [], _, _, _ => rfl
  | p :: L, D, hD, hp => by
    have ih := foldD_at k z L (D.put (.string p.1) p.2) (hD.put _ _) (List.pairwise_cons.1 hp).2
    show (foldD L (D.put (.string p.1) p.2)).atKey (.string k) z = _
    rw [ih]
    by_cases h : p.1 = k
    · subst h
      rw [find_none_of _ _ (fun q hq => ((List.pairwise_cons.1 hp).1 q hq).symm), List.find?_cons_of_pos (by simp)]
      exact atKey_put_same hD (isKey _) _ _
    · rw [List.find?_cons_of_neg (by simpa using h)]
      have hAB : (D.put (.string p.1) p.2).atKey (.string k) z = D.atKey (.string k) z := atKey_put_other (by intro e; injection e with e; exact h e.symm) _ _
      rw [hAB]
theorem foldD_has (k : List UInt8) : ∀ (L : List (List UInt8 × DataW Unit)) (D : DataW Unit), IsMap D → L.Pairwise (fun p q => p.1 ≠ q.1) →
    has (foldD L D) (.string k) = ((L.find? (fun p => p.1 == k)).isSome || has D (.string k))
  | [], _, _, _ => by simp [foldD]
  | p :: L, D, hD, hp => by
    have ih := foldD_has k L (D.put (.string p.1) p.2) (hD.put _ _) (List.pairwise_cons.1 hp).2
    show has (foldD L (D.put (.string p.1) p.2)) (.string k) = _
    rw [ih]
    by_cases h : p.1 = k
    · subst h
      rw [has_put_same hD (isKey _), List.find?_cons_of_pos (by simp)]; simp
    · rw [has_put_other (by intro e; injection e with e; exact h e.symm), List.find?_cons_of_neg (by simpa using h)]

/-- the tables' entries -/
def signE : List (List UInt8 × DataW Unit) := signsL.map fun p => (p.1, .lit (.string p.2))
def wordE : List (List UInt8 × DataW Unit) := wordsL.map fun k => (k, .lit (.bool true))
def signD : DataW Unit := foldD signE (.map [])
def wordD : DataW Unit := foldD wordE (.map [])

theorem distinct_of (L : List (List UInt8)) (h : (L.map fun k => (k, L.count k)).all (fun p => p.2 == 1) = true) : L.Pairwise (· ≠ ·) := by
  rw [← List.nodup_iff_pairwise_ne, List.nodup_iff_count]
  intro a
  by_cases ha : a ∈ L
  · have := List.all_eq_true.1 h (a, L.count a) (List.mem_map.2 ⟨a, ha, rfl⟩)
    simp only [beq_iff_eq] at this
    omega
  · rw [List.count_eq_zero.2 ha]; omega
theorem signs_distinct : signE.Pairwise (fun p q => p.1 ≠ q.1) := by
  have h : (signsL.map (·.1)).Pairwise (· ≠ ·) := distinct_of _ (by decide +kernel)
  rw [List.pairwise_map] at h
  unfold signE
  rw [List.pairwise_map]
  exact h
theorem words_distinct : wordE.Pairwise (fun p q => p.1 ≠ q.1) := by
  have h : wordsL.Pairwise (· ≠ ·) := distinct_of _ (by decide +kernel)
  unfold wordE
  rw [List.pairwise_map]
  exact h

theorem sign_find (k : List UInt8) : signE.find? (fun p => p.1 == k) = (signsL.find? fun p => p.1 == k).map fun p => (p.1, .lit (.string p.2)) := by
  unfold signE; rw [List.find?_map]; rfl
theorem word_find (k : List UInt8) : wordE.find? (fun p => p.1 == k) = (wordsL.find? fun p => p == k).map fun p => (p, .lit (.bool true)) := by
  unfold wordE; rw [List.find?_map]; rfl
theorem words_find (k : List UInt8) : (wordsL.find? fun p => p == k).isSome = wordsL.contains k := by
  rw [Bool.eq_iff_iff, List.find?_isSome]; simp

theorem canonOf_bytes (k : ByteArray) : ((canonOf k).getD ByteArray.empty).data.toList = match signsL.find? (fun p => p.1 == k.data.toList) with | some p => p.2 | none => [] := by
  unfold canonOf
  obtain ⟨o, ho⟩ : ∃ o, signsL.find? (fun p => p.1 == k.data.toList) = o := ⟨_, rfl⟩
  rw [ho]; cases o <;> simp
theorem signD_at (k : ByteArray) : signD.atKey (.string k.data.toList) (.lit (.string [])) = .lit (.string ((canonOf k).getD ByteArray.empty).data.toList) := by
  unfold signD
  rw [foldD_at _ _ _ _ isMap_empty signs_distinct, sign_find, canonOf_bytes]
  obtain ⟨o, ho⟩ : ∃ o, signsL.find? (fun p => p.1 == k.data.toList) = o := ⟨_, rfl⟩
  rw [ho]; cases o <;> rfl
theorem signD_has (k : ByteArray) : has signD (.string k.data.toList) = (canonOf k).isSome := by
  unfold signD
  rw [foldD_has _ _ _ isMap_empty signs_distinct, sign_find]
  unfold canonOf
  obtain ⟨o, ho⟩ : ∃ o, signsL.find? (fun p => p.1 == k.data.toList) = o := ⟨_, rfl⟩
  rw [ho]; cases o <;> rfl
theorem wordD_at (k : ByteArray) : wordD.atKey (.string k.data.toList) (.lit (.bool false)) = .lit (.bool (isWord k)) := by
  unfold wordD isWord
  rw [foldD_at _ _ _ _ isMap_empty words_distinct, word_find, ← words_find]
  obtain ⟨o, ho⟩ : ∃ o, wordsL.find? (fun p => p == k.data.toList) = o := ⟨_, rfl⟩
  rw [ho]; cases o <;> rfl
theorem wordD_has (k : ByteArray) : has wordD (.string k.data.toList) = isWord k := by
  unfold wordD isWord
  rw [foldD_has _ _ _ isMap_empty words_distinct, word_find, ← words_find]
  obtain ⟨o, ho⟩ : ∃ o, wordsL.find? (fun p => p == k.data.toList) = o := ⟨_, rfl⟩
  rw [ho]; cases o <;> rfl

theorem plainElem_str_inv {P : Program} {e : TypeId} (he : P.underlying e = some .string) {v : Value} {l : List UInt8} {ps : List MemPlace} (h : plainElem (H := Unit) P e v = some (.lit (.string l), ps)) : v = .string ⟨l.toArray⟩ := by
  unfold plainElem at h
  rw [he] at h
  cases v <;> simp at h
  obtain ⟨_, h, _⟩ := h
  subst h; simp
theorem plainElem_bool_inv {P : Program} {e : TypeId} (he : P.underlying e = some .bool) {v : Value} {b : Bool} {ps : List MemPlace} (h : plainElem (H := Unit) P e v = some (.lit (.bool b), ps)) : v = .bool b := by
  unfold plainElem at h
  rw [he] at h
  cases v <;> simp at h
  obtain ⟨h, _⟩ := h
  subst h; rfl
theorem keyStr {P : Program} {k : TypeId} (hk : P.underlying k = some .string) (s : ByteArray) (hs : s.size ≤ maxLen) : keyOf P k (.string s) = some (.string s.data.toList) := by
  simp [keyOf, hk, mapKey, hs]
end Go.Proofs.YtagcfgoofiibfaaGreatDoor
