/- The lexer and what it reaches: part 40 of 41: W1, W2. -/
import Derived.Test.YtagcfgoofiibfaaGreatDoorG38
import Derived.Test.YtagcfgoofiibfaaGreatDoorG39
import Derived.Test.YtagcfgoofiibfaaGreatDoorG18
set_option linter.unusedVariables false
set_option linter.unusedSimpArgs false
namespace Go.Proofs.YtagcfgoofiibfaaGreatDoor
open Go Go.RowKit

theorem H24 : C24 := fun s w hT => c24 c195 s w hT
theorem H68 : C68 := c68 c195

/-- a world that came from w, and the numbers that stand in it -/
def IL (w : World) : List (Value × List Int) → Prop
  | [] => True
  | p :: ps => IntsAt w p.1 p.2 ∧ IL w ps
theorem IL.below {w w' : World} (hb : Below w.heap.size w w') : ∀ {L : List (Value × List Int)}, IL w L → IL w' L
  | [], _ => trivial
  | _ :: _, h => ⟨h.1.below hb, h.2.below hb⟩
def St (w wc : World) (L : List (Value × List Int)) : Prop := Below w.heap.size w wc ∧ IL wc L
theorem St.next {w wc w' : World} {L : List (Value × List Int)} (h : St w wc L) (hb : Below wc.heap.size wc w') : St w w' L := ⟨h.1.trans (hb.mono h.1.size), h.2.below hb⟩
theorem St.alloc {w wc : World} {L : List (Value × List Int)} (h : St w wc L) (o : Obj) : St w (wc.alloc o) L := h.next ((Below.refl _ _).alloc (Nat.le_refl _) _)
theorem St.nextA {w wc w' : World} {L : List (Value × List Int)} {o : Obj} (h : St w wc L) (hb : Below (wc.alloc o).heap.size (wc.alloc o) w') : St w w' L := (h.alloc o).next hb
theorem St.push {w wc w' : World} {L : List (Value × List Int)} {v : Value} {l : List Int} (h : St w wc L) (hb : Below wc.heap.size wc w') (hi : IntsAt w' v l) : St w w' ((v, l) :: L) := ⟨(h.next hb).1, hi, (h.next hb).2⟩
theorem St.ti {w wc : World} {L : List (Value × List Int)} (h : St w wc L) (hT : TI w) : TI wc := hT.below h.1
theorem St.start (w : World) : St w w [] := ⟨Below.refl _ _, trivial⟩

theorem rowMade (w : World) (l : List Value) (ts : List Tk) (n : Nat) (hn : ts.length = n) (hs : l.length = n * 8) (hm : n ≤ maxLen) (hr : RowsAt (w.alloc (.cells l.toArray 41)) ts l) : TokRow (w.alloc (.cells l.toArray 41)) (.slice (some ⟨w.heap.size, 0, none⟩) n n) ts := by
  subst hn
  exact ⟨l, ⟨hs, .inr ⟨w.heap.size, ts.length, l.toArray, rfl, Nat.zero_le _, heap_alloc_new w _, Nat.le_refl _, hm, by rw [List.size_toArray]; exact hs, by rw [← hs]; exact List.take_length⟩⟩, hr⟩
theorem RowsAt.cons0 {w : World} {ts : List Tk} {ys : List Value} {dv : Value} {k : Int} {s : ByteArray} {d : List Int} (hd : IntsAt w dv d) (h : RowsAt w ts ys) : RowsAt w (⟨k, s, d, 0, 0, 0, 0⟩ :: ts) (.int .i64 k :: .string s :: .bool false :: dv :: .int .i64 0 :: .int .i64 0 :: .int .i64 0 :: .int .i64 0 :: ys) := ⟨dv, ys, hd, rfl, h⟩
theorem RowsAt.nil0 {w : World} : RowsAt w [] [] := rfl

theorem sane_24 (w : World) (hT : TI w) : Calls Tryz.prog 24 #[.string ⟨#[47, 92, 32, 97, 10, 9, 92, 108, 97, 110, 100, 32, 87, 70, 95, 118, 40, 95, 120, 41]⟩] w fun e w' => ∃ b cap, e = .returned (.tuple #[.slice (some ⟨b, 0, none⟩) 8 cap, .int .i64 0, .int .i64 0]) ∧ 8 ≤ cap ∧ TokRow w' (.slice (some ⟨b, 0, none⟩) 8 cap) sT0 ∧ Below w.heap.size w w' := by
  refine (H24 _ w hT).mono ?_
  rw [sane_t0]
  rintro e w' ⟨⟨v, rfl, hr⟩, hb⟩
  obtain ⟨b, cap, rfl, hc, _⟩ := hr.cells (by decide)
  exact ⟨b, cap, rfl, hc, hr, hb⟩

theorem sane_25 (b cap : Nat) (w : World) (h0 : TokRow w (.slice (some ⟨b, 0, none⟩) 8 cap) sT0) : Calls Tryz.prog 25 #[.slice (some ⟨b, 0, none⟩) 8 cap, .slice (some ⟨w.heap.size, 0, none⟩) 8 8] (w.alloc (.cells #[.int .i64 5, .string ⟨#[47, 92]⟩, .bool false, .slice none 0 0, .int .i64 0, .int .i64 0, .int .i64 0, .int .i64 0, .int .i64 1, .string ⟨#[97]⟩, .bool false, .slice none 0 0, .int .i64 0, .int .i64 0, .int .i64 0, .int .i64 0, .int .i64 5, .string ⟨#[47, 92]⟩, .bool false, .slice none 0 0, .int .i64 0, .int .i64 0, .int .i64 0, .int .i64 0, .int .i64 4, .string ⟨#[87, 70, 95]⟩, .bool false, .slice none 0 0, .int .i64 0, .int .i64 0, .int .i64 0, .int .i64 0, .int .i64 1, .string ⟨#[118]⟩, .bool false, .slice none 0 0, .int .i64 0, .int .i64 0, .int .i64 0, .int .i64 0, .int .i64 5, .string ⟨#[40]⟩, .bool false, .slice none 0 0, .int .i64 0, .int .i64 0, .int .i64 0, .int .i64 0, .int .i64 1, .string ⟨#[95, 120]⟩, .bool false, .slice none 0 0, .int .i64 0, .int .i64 0, .int .i64 0, .int .i64 0, .int .i64 5, .string ⟨#[41]⟩, .bool false, .slice none 0 0, .int .i64 0, .int .i64 0, .int .i64 0, .int .i64 0] 41)) fun e w' => e = .returned (.bool true) ∧ Below (w.alloc (.cells #[.int .i64 5, .string ⟨#[47, 92]⟩, .bool false, .slice none 0 0, .int .i64 0, .int .i64 0, .int .i64 0, .int .i64 0, .int .i64 1, .string ⟨#[97]⟩, .bool false, .slice none 0 0, .int .i64 0, .int .i64 0, .int .i64 0, .int .i64 0, .int .i64 5, .string ⟨#[47, 92]⟩, .bool false, .slice none 0 0, .int .i64 0, .int .i64 0, .int .i64 0, .int .i64 0, .int .i64 4, .string ⟨#[87, 70, 95]⟩, .bool false, .slice none 0 0, .int .i64 0, .int .i64 0, .int .i64 0, .int .i64 0, .int .i64 1, .string ⟨#[118]⟩, .bool false, .slice none 0 0, .int .i64 0, .int .i64 0, .int .i64 0, .int .i64 0, .int .i64 5, .string ⟨#[40]⟩, .bool false, .slice none 0 0, .int .i64 0, .int .i64 0, .int .i64 0, .int .i64 0, .int .i64 1, .string ⟨#[95, 120]⟩, .bool false, .slice none 0 0, .int .i64 0, .int .i64 0, .int .i64 0, .int .i64 0, .int .i64 5, .string ⟨#[41]⟩, .bool false, .slice none 0 0, .int .i64 0, .int .i64 0, .int .i64 0, .int .i64 0] 41)).heap.size (w.alloc (.cells #[.int .i64 5, .string ⟨#[47, 92]⟩, .bool false, .slice none 0 0, .int .i64 0, .int .i64 0, .int .i64 0, .int .i64 0, .int .i64 1, .string ⟨#[97]⟩, .bool false, .slice none 0 0, .int .i64 0, .int .i64 0, .int .i64 0, .int .i64 0, .int .i64 5, .string ⟨#[47, 92]⟩, .bool false, .slice none 0 0, .int .i64 0, .int .i64 0, .int .i64 0, .int .i64 0, .int .i64 4, .string ⟨#[87, 70, 95]⟩, .bool false, .slice none 0 0, .int .i64 0, .int .i64 0, .int .i64 0, .int .i64 0, .int .i64 1, .string ⟨#[118]⟩, .bool false, .slice none 0 0, .int .i64 0, .int .i64 0, .int .i64 0, .int .i64 0, .int .i64 5, .string ⟨#[40]⟩, .bool false, .slice none 0 0, .int .i64 0, .int .i64 0, .int .i64 0, .int .i64 0, .int .i64 1, .string ⟨#[95, 120]⟩, .bool false, .slice none 0 0, .int .i64 0, .int .i64 0, .int .i64 0, .int .i64 0, .int .i64 5, .string ⟨#[41]⟩, .bool false, .slice none 0 0, .int .i64 0, .int .i64 0, .int .i64 0, .int .i64 0] 41)) w' ∧
    w'.cell? ⟨b, 22, none⟩ = some (.int .i64 2) ∧ w'.cell? ⟨b, 23, none⟩ = some (.int .i64 9) ∧ w'.cell? ⟨b, 31, none⟩ = some (.int .i64 15) ∧ w'.cell? ⟨b, 39, none⟩ = some (.int .i64 18) ∧ w'.cell? ⟨b, 36, none⟩ = some (.int .i64 15) ∧ w'.cell? ⟨b, 37, none⟩ = some (.int .i64 16) := by
  have hr := rowMade w [.int .i64 5, .string ⟨#[47, 92]⟩, .bool false, .slice none 0 0, .int .i64 0, .int .i64 0, .int .i64 0, .int .i64 0, .int .i64 1, .string ⟨#[97]⟩, .bool false, .slice none 0 0, .int .i64 0, .int .i64 0, .int .i64 0, .int .i64 0, .int .i64 5, .string ⟨#[47, 92]⟩, .bool false, .slice none 0 0, .int .i64 0, .int .i64 0, .int .i64 0, .int .i64 0, .int .i64 4, .string ⟨#[87, 70, 95]⟩, .bool false, .slice none 0 0, .int .i64 0, .int .i64 0, .int .i64 0, .int .i64 0, .int .i64 1, .string ⟨#[118]⟩, .bool false, .slice none 0 0, .int .i64 0, .int .i64 0, .int .i64 0, .int .i64 0, .int .i64 5, .string ⟨#[40]⟩, .bool false, .slice none 0 0, .int .i64 0, .int .i64 0, .int .i64 0, .int .i64 0, .int .i64 1, .string ⟨#[95, 120]⟩, .bool false, .slice none 0 0, .int .i64 0, .int .i64 0, .int .i64 0, .int .i64 0, .int .i64 5, .string ⟨#[41]⟩, .bool false, .slice none 0 0, .int .i64 0, .int .i64 0, .int .i64 0, .int .i64 0] sE0 8 rfl rfl (by unfold maxLen; omega) (.cons0 (IntsAt.nil _) (.cons0 (IntsAt.nil _) (.cons0 (IntsAt.nil _) (.cons0 (IntsAt.nil _) (.cons0 (IntsAt.nil _) (.cons0 (IntsAt.nil _) (.cons0 (IntsAt.nil _) (.cons0 (IntsAt.nil _) .nil0))))))))
  have hv := h0.below ((Below.refl _ _).alloc (Nat.le_refl _) (.cells #[.int .i64 5, .string ⟨#[47, 92]⟩, .bool false, .slice none 0 0, .int .i64 0, .int .i64 0, .int .i64 0, .int .i64 0, .int .i64 1, .string ⟨#[97]⟩, .bool false, .slice none 0 0, .int .i64 0, .int .i64 0, .int .i64 0, .int .i64 0, .int .i64 5, .string ⟨#[47, 92]⟩, .bool false, .slice none 0 0, .int .i64 0, .int .i64 0, .int .i64 0, .int .i64 0, .int .i64 4, .string ⟨#[87, 70, 95]⟩, .bool false, .slice none 0 0, .int .i64 0, .int .i64 0, .int .i64 0, .int .i64 0, .int .i64 1, .string ⟨#[118]⟩, .bool false, .slice none 0 0, .int .i64 0, .int .i64 0, .int .i64 0, .int .i64 0, .int .i64 5, .string ⟨#[40]⟩, .bool false, .slice none 0 0, .int .i64 0, .int .i64 0, .int .i64 0, .int .i64 0, .int .i64 1, .string ⟨#[95, 120]⟩, .bool false, .slice none 0 0, .int .i64 0, .int .i64 0, .int .i64 0, .int .i64 0, .int .i64 5, .string ⟨#[41]⟩, .bool false, .slice none 0 0, .int .i64 0, .int .i64 0, .int .i64 0, .int .i64 0] 41))
  refine (c25 _ _ sT0 sE0 _ hv.sl hr.sl (by intro t ht; unfold sT0 at ht; simp only [List.mem_cons, List.not_mem_nil, or_false] at ht; rcases ht with rfl | rfl | rfl | rfl | rfl | rfl | rfl | rfl <;> exact Nat.zero_le _)).mono ?_
  rw [sane_l0]
  rintro e w' ⟨rfl, hb⟩
  obtain ⟨b', cap', he, _, _, _, hc⟩ := (hv.below hb).cells (by decide)
  injection he with he
  injection he with he
  injection he with he
  subst he
  obtain ⟨_, _, _, _, _, _, _, _, q1, q2⟩ := hc 2 _ rfl
  obtain ⟨_, _, _, _, _, _, _, _, _, q3⟩ := hc 3 _ rfl
  obtain ⟨_, _, _, _, _, _, q5, q6, _, q4⟩ := hc 4 _ rfl
  exact ⟨rfl, hb, q1, q2, q3, q4, q5, q6⟩

theorem sane_36_1 (w : World) : Calls Tryz.prog 36 #[.int .i64 1] w fun e w' => ∃ a cp, e = .returned (tokV ⟨2, ByteArray.empty, [1], 0, 0, 0, 0⟩ (.slice a 1 cp)) ∧ IntsAt w' (.slice a 1 cp) [1] ∧ Below w.heap.size w w' := by
  refine (c36 1 w (by omega)).mono ?_
  rw [show limbs 1 = [1] by kernel_rfl]
  rintro e w' ⟨a, cp, rfl, hi, hb⟩
  exact ⟨a, cp, rfl, hi.ints, hb⟩
theorem sane_36_2 (w : World) : Calls Tryz.prog 36 #[.int .i64 2] w fun e w' => ∃ a cp, e = .returned (tokV ⟨2, ByteArray.empty, [2], 0, 0, 0, 0⟩ (.slice a 1 cp)) ∧ IntsAt w' (.slice a 1 cp) [2] ∧ Below w.heap.size w w' := by
  refine (c36 2 w (by omega)).mono ?_
  rw [show limbs 2 = [2] by kernel_rfl]
  rintro e w' ⟨a, cp, rfl, hi, hb⟩
  exact ⟨a, cp, rfl, hi.ints, hb⟩
theorem sane_36_3 (w : World) : Calls Tryz.prog 36 #[.int .i64 3] w fun e w' => ∃ a cp, e = .returned (tokV ⟨2, ByteArray.empty, [3], 0, 0, 0, 0⟩ (.slice a 1 cp)) ∧ IntsAt w' (.slice a 1 cp) [3] ∧ Below w.heap.size w w' := by
  refine (c36 3 w (by omega)).mono ?_
  rw [show limbs 3 = [3] by kernel_rfl]
  rintro e w' ⟨a, cp, rfl, hi, hb⟩
  exact ⟨a, cp, rfl, hi.ints, hb⟩
theorem sane_36_5 (w : World) : Calls Tryz.prog 36 #[.int .i64 5] w fun e w' => ∃ a cp, e = .returned (tokV ⟨2, ByteArray.empty, [5], 0, 0, 0, 0⟩ (.slice a 1 cp)) ∧ IntsAt w' (.slice a 1 cp) [5] ∧ Below w.heap.size w w' := by
  refine (c36 5 w (by omega)).mono ?_
  rw [show limbs 5 = [5] by kernel_rfl]
  rintro e w' ⟨a, cp, rfl, hi, hb⟩
  exact ⟨a, cp, rfl, hi.ints, hb⟩
theorem sane_36_15 (w : World) : Calls Tryz.prog 36 #[.int .i64 15] w fun e w' => ∃ a cp, e = .returned (tokV ⟨2, ByteArray.empty, [15], 0, 0, 0, 0⟩ (.slice a 1 cp)) ∧ IntsAt w' (.slice a 1 cp) [15] ∧ Below w.heap.size w w' := by
  refine (c36 15 w (by omega)).mono ?_
  rw [show limbs 15 = [15] by kernel_rfl]
  rintro e w' ⟨a, cp, rfl, hi, hb⟩
  exact ⟨a, cp, rfl, hi.ints, hb⟩
theorem sane_36_255 (w : World) : Calls Tryz.prog 36 #[.int .i64 255] w fun e w' => ∃ a cp, e = .returned (tokV ⟨2, ByteArray.empty, [255], 0, 0, 0, 0⟩ (.slice a 1 cp)) ∧ IntsAt w' (.slice a 1 cp) [255] ∧ Below w.heap.size w w' := by
  refine (c36 255 w (by omega)).mono ?_
  rw [show limbs 255 = [255] by kernel_rfl]
  rintro e w' ⟨a, cp, rfl, hi, hb⟩
  exact ⟨a, cp, rfl, hi.ints, hb⟩
theorem sane_31_0  (w W : World) (hW : W = w.alloc (.cells #[.int .i64 1, .string ⟨#[83]⟩, .bool false, .slice none 0 0, .int .i64 0, .int .i64 0, .int .i64 0, .int .i64 0, .int .i64 5, .string ⟨#[92]⟩, .bool false, .slice none 0 0, .int .i64 0, .int .i64 0, .int .i64 0, .int .i64 0, .int .i64 1, .string ⟨#[84]⟩, .bool false, .slice none 0 0, .int .i64 0, .int .i64 0, .int .i64 0, .int .i64 0] 41)) (hT : TI W)  : Calls Tryz.prog 31 #[.string ⟨#[83, 92, 84]⟩, .slice (some ⟨w.heap.size, 0, none⟩) 3 3] W fun e w' => e = .returned (.bool true) ∧ Below W.heap.size W w' := by
  subst hW
  have hr := rowMade w [.int .i64 1, .string ⟨#[83]⟩, .bool false, .slice none 0 0, .int .i64 0, .int .i64 0, .int .i64 0, .int .i64 0, .int .i64 5, .string ⟨#[92]⟩, .bool false, .slice none 0 0, .int .i64 0, .int .i64 0, .int .i64 0, .int .i64 0, .int .i64 1, .string ⟨#[84]⟩, .bool false, .slice none 0 0, .int .i64 0, .int .i64 0, .int .i64 0, .int .i64 0] [⟨1, ⟨#[83]⟩, [], 0, 0, 0, 0⟩, ⟨5, ⟨#[92]⟩, [], 0, 0, 0, 0⟩, ⟨1, ⟨#[84]⟩, [], 0, 0, 0, 0⟩] 3 rfl rfl (by unfold maxLen; omega) (.cons0 (IntsAt.nil _) (.cons0 (IntsAt.nil _) (.cons0 (IntsAt.nil _) .nil0)))
  refine (c31 H24 _ _ _ _ hT hr).mono ?_
  rw [sane_c0]
  rintro e w' h
  exact h
theorem sane_31_1 (a0 : Option Addr) (p0 : Nat) (a1 : Option Addr) (p1 : Nat) (w W : World) (hW : W = w.alloc (.cells #[.int .i64 2, .string ByteArray.empty, .bool false, .slice a0 1 p0, .int .i64 0, .int .i64 0, .int .i64 0, .int .i64 0, .int .i64 5, .string ⟨#[46, 46]⟩, .bool false, .slice none 0 0, .int .i64 0, .int .i64 0, .int .i64 0, .int .i64 0, .int .i64 2, .string ByteArray.empty, .bool false, .slice a1 1 p1, .int .i64 0, .int .i64 0, .int .i64 0, .int .i64 0] 41)) (hT : TI W) (h0 : IntsAt W (.slice a0 1 p0) [1]) (h1 : IntsAt W (.slice a1 1 p1) [3]) : Calls Tryz.prog 31 #[.string ⟨#[49, 46, 46, 51]⟩, .slice (some ⟨w.heap.size, 0, none⟩) 3 3] W fun e w' => e = .returned (.bool true) ∧ Below W.heap.size W w' := by
  subst hW
  have hr := rowMade w [.int .i64 2, .string ByteArray.empty, .bool false, .slice a0 1 p0, .int .i64 0, .int .i64 0, .int .i64 0, .int .i64 0, .int .i64 5, .string ⟨#[46, 46]⟩, .bool false, .slice none 0 0, .int .i64 0, .int .i64 0, .int .i64 0, .int .i64 0, .int .i64 2, .string ByteArray.empty, .bool false, .slice a1 1 p1, .int .i64 0, .int .i64 0, .int .i64 0, .int .i64 0] [⟨2, ByteArray.empty, [1], 0, 0, 0, 0⟩, ⟨5, ⟨#[46, 46]⟩, [], 0, 0, 0, 0⟩, ⟨2, ByteArray.empty, [3], 0, 0, 0, 0⟩] 3 rfl rfl (by unfold maxLen; omega) (.cons0 h0 (.cons0 (IntsAt.nil _) (.cons0 h1 .nil0)))
  refine (c31 H24 _ _ _ _ hT hr).mono ?_
  rw [sane_c1]
  rintro e w' h
  exact h
theorem sane_31_2 (a0 : Option Addr) (p0 : Nat) (a1 : Option Addr) (p1 : Nat) (w W : World) (hW : W = w.alloc (.cells #[.int .i64 5, .string ⟨#[40, 43, 41]⟩, .bool false, .slice none 0 0, .int .i64 0, .int .i64 0, .int .i64 0, .int .i64 0, .int .i64 2, .string ByteArray.empty, .bool false, .slice a0 1 p0, .int .i64 0, .int .i64 0, .int .i64 0, .int .i64 0, .int .i64 2, .string ByteArray.empty, .bool false, .slice a1 1 p1, .int .i64 0, .int .i64 0, .int .i64 0, .int .i64 0] 41)) (hT : TI W) (h0 : IntsAt W (.slice a0 1 p0) [1]) (h1 : IntsAt W (.slice a1 1 p1) [2]) : Calls Tryz.prog 31 #[.string ⟨#[40, 43, 41, 49, 32, 40, 42, 40, 42, 41, 42, 41, 32, 42, 41, 50]⟩, .slice (some ⟨w.heap.size, 0, none⟩) 3 3] W fun e w' => e = .returned (.bool true) ∧ Below W.heap.size W w' := by
  subst hW
  have hr := rowMade w [.int .i64 5, .string ⟨#[40, 43, 41]⟩, .bool false, .slice none 0 0, .int .i64 0, .int .i64 0, .int .i64 0, .int .i64 0, .int .i64 2, .string ByteArray.empty, .bool false, .slice a0 1 p0, .int .i64 0, .int .i64 0, .int .i64 0, .int .i64 0, .int .i64 2, .string ByteArray.empty, .bool false, .slice a1 1 p1, .int .i64 0, .int .i64 0, .int .i64 0, .int .i64 0] [⟨5, ⟨#[40, 43, 41]⟩, [], 0, 0, 0, 0⟩, ⟨2, ByteArray.empty, [1], 0, 0, 0, 0⟩, ⟨2, ByteArray.empty, [2], 0, 0, 0, 0⟩] 3 rfl rfl (by unfold maxLen; omega) (.cons0 (IntsAt.nil _) (.cons0 h0 (.cons0 h1 .nil0)))
  refine (c31 H24 _ _ _ _ hT hr).mono ?_
  rw [sane_c2]
  rintro e w' h
  exact h
theorem sane_31_3 (a0 : Option Addr) (p0 : Nat) (a1 : Option Addr) (p1 : Nat) (a2 : Option Addr) (p2 : Nat) (w W : World) (hW : W = w.alloc (.cells #[.int .i64 2, .string ByteArray.empty, .bool false, .slice a0 1 p0, .int .i64 0, .int .i64 0, .int .i64 0, .int .i64 0, .int .i64 2, .string ByteArray.empty, .bool false, .slice a1 1 p1, .int .i64 0, .int .i64 0, .int .i64 0, .int .i64 0, .int .i64 2, .string ByteArray.empty, .bool false, .slice a2 1 p2, .int .i64 0, .int .i64 0, .int .i64 0, .int .i64 0, .int .i64 5, .string ⟨#[40, 43, 41]⟩, .bool false, .slice none 0 0, .int .i64 0, .int .i64 0, .int .i64 0, .int .i64 0, .int .i64 5, .string ⟨#[92, 111]⟩, .bool false, .slice none 0 0, .int .i64 0, .int .i64 0, .int .i64 0, .int .i64 0, .int .i64 1, .string ⟨#[120]⟩, .bool false, .slice none 0 0, .int .i64 0, .int .i64 0, .int .i64 0, .int .i64 0] 41)) (hT : TI W) (h0 : IntsAt W (.slice a0 1 p0) [255]) (h1 : IntsAt W (.slice a1 1 p1) [15]) (h2 : IntsAt W (.slice a2 1 p2) [5]) : Calls Tryz.prog 31 #[.string ⟨#[92, 104, 70, 70, 32, 92, 111, 49, 55, 32, 92, 98, 49, 48, 49, 32, 92, 111, 112, 108, 117, 115, 32, 92, 111, 32, 120]⟩, .slice (some ⟨w.heap.size, 0, none⟩) 6 6] W fun e w' => e = .returned (.bool true) ∧ Below W.heap.size W w' := by
  subst hW
  have hr := rowMade w [.int .i64 2, .string ByteArray.empty, .bool false, .slice a0 1 p0, .int .i64 0, .int .i64 0, .int .i64 0, .int .i64 0, .int .i64 2, .string ByteArray.empty, .bool false, .slice a1 1 p1, .int .i64 0, .int .i64 0, .int .i64 0, .int .i64 0, .int .i64 2, .string ByteArray.empty, .bool false, .slice a2 1 p2, .int .i64 0, .int .i64 0, .int .i64 0, .int .i64 0, .int .i64 5, .string ⟨#[40, 43, 41]⟩, .bool false, .slice none 0 0, .int .i64 0, .int .i64 0, .int .i64 0, .int .i64 0, .int .i64 5, .string ⟨#[92, 111]⟩, .bool false, .slice none 0 0, .int .i64 0, .int .i64 0, .int .i64 0, .int .i64 0, .int .i64 1, .string ⟨#[120]⟩, .bool false, .slice none 0 0, .int .i64 0, .int .i64 0, .int .i64 0, .int .i64 0] [⟨2, ByteArray.empty, [255], 0, 0, 0, 0⟩, ⟨2, ByteArray.empty, [15], 0, 0, 0, 0⟩, ⟨2, ByteArray.empty, [5], 0, 0, 0, 0⟩, ⟨5, ⟨#[40, 43, 41]⟩, [], 0, 0, 0, 0⟩, ⟨5, ⟨#[92, 111]⟩, [], 0, 0, 0, 0⟩, ⟨1, ⟨#[120]⟩, [], 0, 0, 0, 0⟩] 6 rfl rfl (by unfold maxLen; omega) (.cons0 h0 (.cons0 h1 (.cons0 h2 (.cons0 (IntsAt.nil _) (.cons0 (IntsAt.nil _) (.cons0 (IntsAt.nil _) .nil0))))))
  refine (c31 H24 _ _ _ _ hT hr).mono ?_
  rw [sane_c3]
  rintro e w' h
  exact h
theorem sane_57_0 (w : World) (hT : TI w) : Calls Tryz.prog 57 #[.string ⟨#[97, 32, 95, 95]⟩, .int .i64 2, .int .i64 20] w fun e w' => e = .returned (.bool true) ∧ Below w.heap.size w w' := by
  have h := c57 H24 ⟨#[97, 32, 95, 95]⟩ 2 20 w hT sane_r0
  exact h
theorem sane_57_1 (w : World) (hT : TI w) : Calls Tryz.prog 57 #[.string ⟨#[34, 97]⟩, .int .i64 0, .int .i64 21] w fun e w' => e = .returned (.bool true) ∧ Below w.heap.size w w' := by
  have h := c57 H24 ⟨#[34, 97]⟩ 0 21 w hT sane_r1
  exact h
theorem sane_57_2 (w : World) (hT : TI w) : Calls Tryz.prog 57 #[.string ⟨#[40, 42, 32, 40, 42, 32, 42, 41]⟩, .int .i64 0, .int .i64 22] w fun e w' => e = .returned (.bool true) ∧ Below w.heap.size w w' := by
  have h := c57 H24 ⟨#[40, 42, 32, 40, 42, 32, 42, 41]⟩ 0 22 w hT sane_r2
  exact h
theorem sane_57_3 (w : World) (hT : TI w) : Calls Tryz.prog 57 #[.string ⟨#[92, 98, 49, 50]⟩, .int .i64 0, .int .i64 23] w fun e w' => e = .returned (.bool true) ∧ Below w.heap.size w w' := by
  have h := c57 H24 ⟨#[92, 98, 49, 50]⟩ 0 23 w hT sane_r3
  exact h
theorem sane_27_0 (w : World) (hT : TI w) : Calls Tryz.prog 27 #[.string ⟨#[87, 70, 95]⟩] w fun e w' => e = .returned (.int .i64 4) ∧ Below w.heap.size w w' := by
  have h := c27 H24 ⟨#[87, 70, 95]⟩ w hT
  rw [sane_k0] at h
  exact h
theorem sane_27_1 (w : World) (hT : TI w) : Calls Tryz.prog 27 #[.string ⟨#[87, 70, 95, 120]⟩] w fun e w' => e = .returned (.int .i64 0) ∧ Below w.heap.size w w' := by
  have h := c27 H24 ⟨#[87, 70, 95, 120]⟩ w hT
  rw [sane_k1] at h
  exact h
theorem sane_27_2 (w : World) (hT : TI w) : Calls Tryz.prog 27 #[.string ⟨#[45, 45, 45]⟩] w fun e w' => e = .returned (.int .i64 0) ∧ Below w.heap.size w w' := by
  have h := c27 H24 ⟨#[45, 45, 45]⟩ w hT
  rw [sane_k2] at h
  exact h
theorem sane_29_0 (w : World) (hT : TI w) : Calls Tryz.prog 29 #[.string ⟨#[92, 108, 101, 113]⟩] w fun e w' => e = .returned (.string ⟨#[60, 61]⟩) ∧ Below w.heap.size w w' := by
  have h := c29 ⟨#[92, 108, 101, 113]⟩ w (by decide +kernel) hT
  rw [sane_n0] at h
  exact h
theorem sane_29_1 (w : World) (hT : TI w) : Calls Tryz.prog 29 #[.string ⟨#[108, 101, 113]⟩] w fun e w' => e = .returned (.string ⟨#[]⟩) ∧ Below w.heap.size w w' := by
  have h := c29 ⟨#[108, 101, 113]⟩ w (by decide +kernel) hT
  rw [sane_n1] at h
  exact h
theorem sane_v1 (s : ByteArray) (h : s.size ≤ 40 ∧ kindF s = 1) (l c : Int) : ValidNS ⟨1, s, [], 0, 0, l, c⟩ := ⟨rfl, .inl ⟨rfl, h⟩⟩
theorem sane_v5 (s : ByteArray) (h : s ≠ ByteArray.empty ∧ canonOf s = some s ∧ s.size ≤ 1000000) (l c : Int) : ValidNS ⟨5, s, [], 0, 0, l, c⟩ := ⟨rfl, .inr ⟨rfl, h⟩⟩
theorem sane_vn0 : ((⟨#[97]⟩ : ByteArray).size ≤ 40 ∧ kindF ⟨#[97]⟩ = 1) := ⟨by decide +kernel, by kernel_rfl⟩
theorem sane_vn1 : ((⟨#[98]⟩ : ByteArray).size ≤ 40 ∧ kindF ⟨#[98]⟩ = 1) := ⟨by decide +kernel, by kernel_rfl⟩
theorem sane_vs0 : ((⟨#[61]⟩ : ByteArray) ≠ ByteArray.empty ∧ canonOf ⟨#[61]⟩ = some ⟨#[61]⟩ ∧ (⟨#[61]⟩ : ByteArray).size ≤ 1000000) := ⟨by (intro e; exact absurd (congrArg ByteArray.size e) (by decide +kernel)), by kernel_rfl, by decide +kernel⟩
theorem sane_vs1 : ((⟨#[40]⟩ : ByteArray) ≠ ByteArray.empty ∧ canonOf ⟨#[40]⟩ = some ⟨#[40]⟩ ∧ (⟨#[40]⟩ : ByteArray).size ≤ 1000000) := ⟨by (intro e; exact absurd (congrArg ByteArray.size e) (by decide +kernel)), by kernel_rfl, by decide +kernel⟩
theorem sane_vs2 : ((⟨#[43]⟩ : ByteArray) ≠ ByteArray.empty ∧ canonOf ⟨#[43]⟩ = some ⟨#[43]⟩ ∧ (⟨#[43]⟩ : ByteArray).size ≤ 1000000) := ⟨by (intro e; exact absurd (congrArg ByteArray.size e) (by decide +kernel)), by kernel_rfl, by decide +kernel⟩
theorem sane_vs3 : ((⟨#[41]⟩ : ByteArray) ≠ ByteArray.empty ∧ canonOf ⟨#[41]⟩ = some ⟨#[41]⟩ ∧ (⟨#[41]⟩ : ByteArray).size ≤ 1000000) := ⟨by (intro e; exact absurd (congrArg ByteArray.size e) (by decide +kernel)), by kernel_rfl, by decide +kernel⟩
theorem validCons {t : Tk} {ts : List Tk} (h : ValidNS t) (h2 : ∀ x ∈ ts, ValidNS x) : ∀ x ∈ t :: ts, ValidNS x := by
  intro x hx
  rcases List.mem_cons.1 hx with rfl | hx
  · exact h
  · exact h2 x hx
theorem sane_23_0 (w W : World) (hW : W = w.alloc (.cells #[.int .i64 1, .string ⟨#[97]⟩, .bool false, .slice none 0 0, .int .i64 0, .int .i64 0, .int .i64 0, .int .i64 0, .int .i64 1, .string ⟨#[98]⟩, .bool false, .slice none 0 0, .int .i64 0, .int .i64 0, .int .i64 0, .int .i64 0, .int .i64 5, .string ⟨#[61]⟩, .bool false, .slice none 0 0, .int .i64 0, .int .i64 0, .int .i64 0, .int .i64 0, .int .i64 5, .string ⟨#[61]⟩, .bool false, .slice none 0 0, .int .i64 0, .int .i64 0, .int .i64 0, .int .i64 0] 41)) (hT : TI W) : Calls Tryz.prog 23 #[.slice (some ⟨w.heap.size, 0, none⟩) 4 4] W fun e w' => e = .returned (.tuple #[.string ⟨#[97, 32, 98, 61, 32, 61]⟩, .int .i64 0]) ∧ Below W.heap.size W w' := by
  subst hW
  have hr := rowMade w [.int .i64 1, .string ⟨#[97]⟩, .bool false, .slice none 0 0, .int .i64 0, .int .i64 0, .int .i64 0, .int .i64 0, .int .i64 1, .string ⟨#[98]⟩, .bool false, .slice none 0 0, .int .i64 0, .int .i64 0, .int .i64 0, .int .i64 0, .int .i64 5, .string ⟨#[61]⟩, .bool false, .slice none 0 0, .int .i64 0, .int .i64 0, .int .i64 0, .int .i64 0, .int .i64 5, .string ⟨#[61]⟩, .bool false, .slice none 0 0, .int .i64 0, .int .i64 0, .int .i64 0, .int .i64 0] [⟨1, ⟨#[97]⟩, [], 0, 0, 0, 0⟩, ⟨1, ⟨#[98]⟩, [], 0, 0, 0, 0⟩, ⟨5, ⟨#[61]⟩, [], 0, 0, 0, 0⟩, ⟨5, ⟨#[61]⟩, [], 0, 0, 0, 0⟩] 4 rfl rfl (by unfold maxLen; omega) (.cons0 (IntsAt.nil _) (.cons0 (IntsAt.nil _) (.cons0 (IntsAt.nil _) (.cons0 (IntsAt.nil _) .nil0))))
  refine (c23 H24 H68 _ _ _ hT hr (validCons (sane_v1 _ sane_vn0 _ _) (validCons (sane_v1 _ sane_vn1 _ _) (validCons (sane_v5 _ sane_vs0 _ _) (validCons (sane_v5 _ sane_vs0 _ _) (by intro t ht; cases ht)))))).mono ?_
  rw [sane_j0]
  rintro e w' h
  exact h
theorem sane_23_1 (w W : World) (hW : W = w.alloc (.cells #[.int .i64 5, .string ⟨#[40]⟩, .bool false, .slice none 0 0, .int .i64 0, .int .i64 0, .int .i64 0, .int .i64 0, .int .i64 5, .string ⟨#[43]⟩, .bool false, .slice none 0 0, .int .i64 0, .int .i64 0, .int .i64 0, .int .i64 0, .int .i64 5, .string ⟨#[41]⟩, .bool false, .slice none 0 0, .int .i64 0, .int .i64 0, .int .i64 0, .int .i64 0] 41)) (hT : TI W) : Calls Tryz.prog 23 #[.slice (some ⟨w.heap.size, 0, none⟩) 3 3] W fun e w' => e = .returned (.tuple #[.string ⟨#[40, 43, 32, 41]⟩, .int .i64 0]) ∧ Below W.heap.size W w' := by
  subst hW
  have hr := rowMade w [.int .i64 5, .string ⟨#[40]⟩, .bool false, .slice none 0 0, .int .i64 0, .int .i64 0, .int .i64 0, .int .i64 0, .int .i64 5, .string ⟨#[43]⟩, .bool false, .slice none 0 0, .int .i64 0, .int .i64 0, .int .i64 0, .int .i64 0, .int .i64 5, .string ⟨#[41]⟩, .bool false, .slice none 0 0, .int .i64 0, .int .i64 0, .int .i64 0, .int .i64 0] [⟨5, ⟨#[40]⟩, [], 0, 0, 0, 0⟩, ⟨5, ⟨#[43]⟩, [], 0, 0, 0, 0⟩, ⟨5, ⟨#[41]⟩, [], 0, 0, 0, 0⟩] 3 rfl rfl (by unfold maxLen; omega) (.cons0 (IntsAt.nil _) (.cons0 (IntsAt.nil _) (.cons0 (IntsAt.nil _) .nil0)))
  refine (c23 H24 H68 _ _ _ hT hr (validCons (sane_v5 _ sane_vs1 _ _) (validCons (sane_v5 _ sane_vs2 _ _) (validCons (sane_v5 _ sane_vs3 _ _) (by intro t ht; cases ht))))).mono ?_
  rw [sane_j1]
  rintro e w' h
  exact h
theorem sane_51 (w : World) (hT : TI w) : Calls Tryz.prog 51 #[.string ⟨#[97, 40, 42, 98, 42, 41, 99]⟩] w fun e w' => e = .returned (.tuple #[.string ⟨#[97, 32, 32, 32, 32, 32, 99]⟩, .int .i64 0]) ∧ Below w.heap.size w w' := by
  have h := c51 H24 H68 ⟨#[97, 40, 42, 98, 42, 41, 99]⟩ w hT (.inl (by decide +kernel))
  rw [sane_s0] at h
  exact h
theorem sane_vp : ∀ t ∈ sP, ValidNS t := by
  intro t ht
  unfold sP at ht
  simp only [List.mem_cons, List.not_mem_nil, or_false] at ht
  rcases ht with rfl | rfl
  · exact sane_v1 _ sane_vn0 _ _
  · exact sane_v5 _ sane_vs2 _ _
theorem sane_fit : ∀ (i : Nat) (x : Tk), sP[i]? = some x → (PS.at sP i).Fits x := by
  intro i x hx
  rcases i with _ | _ | i
  · injection hx with hx
    subst hx
    exact ⟨by decide +kernel, by decide +kernel, by decide +kernel, by decide +kernel, by decide +kernel, by decide +kernel, by decide +kernel, by decide +kernel, by decide +kernel, by decide +kernel⟩
  · injection hx with hx
    subst hx
    exact ⟨by decide +kernel, by decide +kernel, by decide +kernel, by decide +kernel, by decide +kernel, by decide +kernel, by decide +kernel, by decide +kernel, by decide +kernel, by decide +kernel⟩
  · cases hx
theorem sane_pos : ∀ (i : Nat) (x y : Tk), sPo[i]? = some x → sP[i]? = some y → x.line = y.line ∧ x.col = y.col := by
  intro i x y hx hy
  rcases i with _ | _ | i
  · injection hx with hx
    injection hy with hy
    subst hx hy
    exact ⟨rfl, rfl⟩
  · injection hx with hx
    injection hy with hy
    subst hx hy
    exact ⟨rfl, rfl⟩
  · cases hx
theorem sane_32 (v : Value) (w : World) (hT : TI w) (hr : TokRow w v sP) : Calls Tryz.prog 32 #[v] w fun e w' => e = .returned (.tuple #[.string ⟨#[10, 32, 32, 97, 43]⟩, .int .i64 0]) ∧ Below w.heap.size w w' :=
  c32 H24 v sP sPo _ w hT hr sane_vp (by decide) sane_fit sane_p0.symm sane_p1 sane_p2 sane_pos
end Go.Proofs.YtagcfgoofiibfaaGreatDoor
namespace Go.Proofs.YtagcfgoofiibfaaGreatDoor
open Go Go.RowKit

theorem St.i0 {w wc : World} {L : List (Value × List Int)} {v : Value} {l : List Int} (h : St w wc ((v, l) :: L)) : IntsAt wc v l := h.2.1
theorem St.i1 {w wc : World} {L : List (Value × List Int)} {p : Value × List Int} {v : Value} {l : List Int} (h : St w wc (p :: (v, l) :: L)) : IntsAt wc v l := h.2.2.1
theorem St.i2 {w wc : World} {L : List (Value × List Int)} {p q : Value × List Int} {v : Value} {l : List Int} (h : St w wc (p :: q :: (v, l) :: L)) : IntsAt wc v l := h.2.2.2.1
theorem sane_32a (V W : World) (b : Nat) (hV : W = V.alloc (.cells #[.int .i64 1, .string ⟨#[97]⟩, .bool false, .slice none 0 0, .int .i64 0, .int .i64 0, .int .i64 2, .int .i64 3, .int .i64 5, .string ⟨#[43]⟩, .bool false, .slice none 0 0, .int .i64 0, .int .i64 0, .int .i64 2, .int .i64 4] 41)) (hb : b = V.heap.size) (hT : TI W) : Calls Tryz.prog 32 #[.slice (some ⟨b, 0, none⟩) 2 2] W fun e w' => e = .returned (.tuple #[.string ⟨#[10, 32, 32, 97, 43]⟩, .int .i64 0]) ∧ Below W.heap.size W w' := by
  subst hV hb
  refine sane_32 _ _ hT (rowMade V _ sP 2 rfl rfl (by unfold maxLen; omega) ?_)
  exact ⟨.slice none 0 0, _, IntsAt.nil _, rfl, .slice none 0 0, _, IntsAt.nil _, rfl, rfl⟩
theorem sane_q0 : pos ⟨#[97, 9, 98]⟩ 2 = (1, 9) := by kernel_rfl
theorem sane_q1 : byteF ⟨#[97, 9, 98]⟩ 1 9 = some 2 := by kernel_rfl
theorem sane_q2 : byteF ⟨#[97, 9, 98]⟩ 1 5 = none := by kernel_rfl
theorem sane_18 (w : World) : Calls Tryz.prog 18 #[.string ⟨#[97, 9, 98]⟩, .int .i64 2] w fun e w' => e = .returned (.tuple #[.int .i64 1, .int .i64 9, .int .i64 0]) ∧ Below w.heap.size w w' := by
  refine (c18 ⟨#[97, 9, 98]⟩ 2 w (by decide +kernel)).mono ?_
  rintro e w' h
  unfold locTo at h
  rw [if_pos (by decide +kernel), show (2 : Int).toNat = 2 from rfl, sane_q0] at h
  exact h
theorem sane_20_0 (w : World) : Calls Tryz.prog 20 #[.string ⟨#[97, 9, 98]⟩, .int .i64 1, .int .i64 9] w fun e w' => e = .returned (.tuple #[.int .i64 2, .int .i64 0]) ∧ Below w.heap.size w w' := by
  refine (c20 ⟨#[97, 9, 98]⟩ 1 9 w (by decide +kernel)).mono ?_
  rintro e w' h
  unfold bytTo at h
  rw [sane_q1] at h
  exact h
theorem sane_20_1 (w : World) : Calls Tryz.prog 20 #[.string ⟨#[97, 9, 98]⟩, .int .i64 1, .int .i64 5] w fun e w' => e = .returned (.tuple #[.int .i64 0, .int .i64 3]) ∧ Below w.heap.size w w' := by
  refine (c20 ⟨#[97, 9, 98]⟩ 1 5 w (by decide +kernel)).mono ?_
  rintro e w' h
  unfold bytTo at h
  rw [sane_q2] at h
  exact h
theorem sane_43 (w : World) (hT : TI w) : Calls Tryz.prog 43 #[] w fun e w' => ∃ a cp, e = .returned (.slice a 35 cp) ∧ Below w.heap.size w w' := by
  refine (c43 w hT).mono ?_
  rintro e w' ⟨v, rfl, hr, hb⟩
  unfold StrRow at hr
  obtain ⟨a, cp, rfl⟩ := row_form hr
  rw [sane_w]
  exact ⟨a, cp, rfl, hb⟩
theorem sane_28 (w : World) (hT : TI w) : Calls Tryz.prog 28 #[] w fun e w' => ∃ g cp, e = .returned (.slice (some ⟨g, 0, none⟩) signsS.length cp) ∧ (∀ j, j < (signsS.map fun l => (⟨l.toArray⟩ : ByteArray)).length → w'.cell? ⟨g, 0 + j, none⟩ = some (.string ((signsS.map fun l => (⟨l.toArray⟩ : ByteArray)).getD j ByteArray.empty))) ∧ Below w.heap.size w w' := by
  refine (c28 w hT).mono ?_
  rintro e w' ⟨v, rfl, hr, hb⟩
  unfold StrRow at hr
  have hr' := hr
  rcases hr.2 with ⟨_, h0⟩ | ⟨g, cap, cur, rfl, _, _, _, _, _, _⟩
  · exfalso
    have hm := sane_g
    rw [List.eq_nil_of_length_eq_zero h0] at hm
    cases hm
  · refine ⟨g, cap, rfl, fun j hj => ?_, hb⟩
    rw [List.length_map] at hj
    rw [Nat.zero_add]
    have he : (⟨g, 0, none⟩ : Addr).add j = ⟨g, 0 + j, none⟩ := by unfold Addr.add; split <;> simp_all
    rw [Nat.zero_add] at he
    rw [← he]
    refine hr'.cells (g := g) rfl j _ ?_
    rw [List.getElem?_map, List.getElem?_eq_getElem hj, List.getD_eq_getElem?_getD, List.getElem?_map, List.getElem?_eq_getElem hj]
    rfl
theorem sane_58 (g cp : Nat) (w : World) (hsz : signsS.length ≤ 9223372036854775807) (hc : ∀ j, j < (signsS.map fun l => (⟨l.toArray⟩ : ByteArray)).length → w.cell? ⟨g, 0 + j, none⟩ = some (.string ((signsS.map fun l => (⟨l.toArray⟩ : ByteArray)).getD j ByteArray.empty))) : Calls Tryz.prog 58 #[.slice (some ⟨g, 0, none⟩) signsS.length cp, .string ⟨#[92, 108, 111, 114]⟩] w fun e w' => e = .returned (.bool true) ∧ w' = w := by
  have h := Tryz.slices_Contains_string g 0 signsS.length cp (signsS.map fun l => (⟨l.toArray⟩ : ByteArray)) ⟨#[92, 108, 111, 114]⟩ w (by rw [List.length_map]; exact Nat.le_refl _) hsz hc
  have e : Lib.containsS ((signsS.map fun l => (⟨l.toArray⟩ : ByteArray)).take signsS.length) ⟨#[92, 108, 111, 114]⟩ = true := by
    rw [Lib.containsS_iff, List.take_of_length_le (by rw [List.length_map]; exact Nat.le_refl _)]
    exact List.mem_map.2 ⟨_, sane_g, rfl⟩
  rw [e] at h
  exact h
theorem signs_len : signsS.length ≤ 9223372036854775807 := by
  unfold signsS
  rw [List.length_mergeSort, List.length_map]
  decide +kernel

set_option maxRecDepth 100000 in
set_option maxHeartbeats 6400000 in
theorem c16 (w : World) (hT : TI w) : Calls Tryz.prog 16 #[] w fun e w' => e = .returned (.bool true) ∧ Below w.heap.size w w' := by
  have HT := Lib.hid hT
  clear hT
  go_enter Tryz.func16, Tryz.ntmps16
  go_wp2_with (go_at_call 24; ((with_reducible refine (sane_24 _ HT.out).mono ?_); rintro e w1 ⟨b0, cap0, rfl, hcap0, hr, hb⟩; have HR := Lib.hid hr; have HS := Lib.hid ((St.start w).next hb); clear hr hb))
  go_wp2_with (first | (go_at_call 55; ((with_reducible refine (c55 _ _).mono ?_); rintro e w' ⟨rfl, hb⟩; have hR := HR.out.below hb; clear HR; have HR := Lib.hid hR; clear hR; have hS := HS.out.next hb; clear HS hb; have HS := Lib.hid hS; clear hS)) | (go_at_call 56; ((with_reducible refine (c56 _ _).mono ?_); rintro e w' ⟨rfl, hb⟩; have hR := HR.out.below hb; clear HR; have HR := Lib.hid hR; clear hR; have hS := HS.out.next hb; clear HS hb; have HS := Lib.hid hS; clear hS)))
  go_wp2_with (first | (go_at_call 25; ((with_reducible refine (sane_25 _ _ _ HR.out).mono ?_); rintro e w' ⟨rfl, hb, k22, k23, k31, k39, k36, k37⟩; clear HR; have hS := HS.out.nextA hb; clear HS hb; have HS := Lib.hid hS; clear hS)) | (go_at_call 55; ((with_reducible refine (c55 _ _).mono ?_); rintro e w' ⟨rfl, hb⟩; have hS := HS.out.next hb; clear HS hb; have HS := Lib.hid hS; clear hS)) | (go_at_call 56; ((with_reducible refine (c56 _ _).mono ?_); rintro e w' ⟨rfl, hb⟩; have hS := HS.out.next hb; clear HS hb; have HS := Lib.hid hS; clear hS)) | (go_at_call 36; ((with_reducible refine (sane_36_1 _).mono ?_); rintro e w' ⟨a, cp, rfl, hi, hb⟩; have hS := HS.out.push hb hi; clear HS hb hi; have HS := Lib.hid hS; clear hS)) | (go_at_call 36; ((with_reducible refine (sane_36_2 _).mono ?_); rintro e w' ⟨a, cp, rfl, hi, hb⟩; have hS := HS.out.push hb hi; clear HS hb hi; have HS := Lib.hid hS; clear hS)) | (go_at_call 36; ((with_reducible refine (sane_36_3 _).mono ?_); rintro e w' ⟨a, cp, rfl, hi, hb⟩; have hS := HS.out.push hb hi; clear HS hb hi; have HS := Lib.hid hS; clear hS)) | (go_at_call 36; ((with_reducible refine (sane_36_5 _).mono ?_); rintro e w' ⟨a, cp, rfl, hi, hb⟩; have hS := HS.out.push hb hi; clear HS hb hi; have HS := Lib.hid hS; clear hS)) | (go_at_call 36; ((with_reducible refine (sane_36_15 _).mono ?_); rintro e w' ⟨a, cp, rfl, hi, hb⟩; have hS := HS.out.push hb hi; clear HS hb hi; have HS := Lib.hid hS; clear hS)) | (go_at_call 36; ((with_reducible refine (sane_36_255 _).mono ?_); rintro e w' ⟨a, cp, rfl, hi, hb⟩; have hS := HS.out.push hb hi; clear HS hb hi; have HS := Lib.hid hS; clear hS)) | (go_at_call 31; ((with_reducible refine (sane_31_0  _ _ rfl ((HS.out.alloc _).ti HT.out) ).mono ?_); rintro e w' ⟨rfl, hb⟩; have hS := HS.out.nextA hb; clear HS hb; have HS := Lib.hid hS; clear hS)) | (go_at_call 31; ((with_reducible refine (sane_31_1 _ _ _ _  _ _ rfl ((HS.out.alloc _).ti HT.out) (HS.out.alloc _).i1 (HS.out.alloc _).i0).mono ?_); rintro e w' ⟨rfl, hb⟩; have hS := HS.out.nextA hb; clear HS hb; have HS := Lib.hid hS; clear hS)) | (go_at_call 31; ((with_reducible refine (sane_31_2 _ _ _ _  _ _ rfl ((HS.out.alloc _).ti HT.out) (HS.out.alloc _).i1 (HS.out.alloc _).i0).mono ?_); rintro e w' ⟨rfl, hb⟩; have hS := HS.out.nextA hb; clear HS hb; have HS := Lib.hid hS; clear hS)) | (go_at_call 31; ((with_reducible refine (sane_31_3 _ _ _ _ _ _  _ _ rfl ((HS.out.alloc _).ti HT.out) (HS.out.alloc _).i2 (HS.out.alloc _).i1 (HS.out.alloc _).i0).mono ?_); rintro e w' ⟨rfl, hb⟩; have hS := HS.out.nextA hb; clear HS hb; have HS := Lib.hid hS; clear hS)) | (go_at_call 57; ((with_reducible refine (sane_57_0 _ (HS.out.ti HT.out)).mono ?_); rintro e w' ⟨rfl, hb⟩; have hS := HS.out.next hb; clear HS hb; have HS := Lib.hid hS; clear hS)) | (go_at_call 57; ((with_reducible refine (sane_57_1 _ (HS.out.ti HT.out)).mono ?_); rintro e w' ⟨rfl, hb⟩; have hS := HS.out.next hb; clear HS hb; have HS := Lib.hid hS; clear hS)) | (go_at_call 57; ((with_reducible refine (sane_57_2 _ (HS.out.ti HT.out)).mono ?_); rintro e w' ⟨rfl, hb⟩; have hS := HS.out.next hb; clear HS hb; have HS := Lib.hid hS; clear hS)) | (go_at_call 57; ((with_reducible refine (sane_57_3 _ (HS.out.ti HT.out)).mono ?_); rintro e w' ⟨rfl, hb⟩; have hS := HS.out.next hb; clear HS hb; have HS := Lib.hid hS; clear hS)) | (go_at_call 27; ((with_reducible refine (sane_27_0 _ (HS.out.ti HT.out)).mono ?_); rintro e w' ⟨rfl, hb⟩; have hS := HS.out.next hb; clear HS hb; have HS := Lib.hid hS; clear hS)) | (go_at_call 27; ((with_reducible refine (sane_27_1 _ (HS.out.ti HT.out)).mono ?_); rintro e w' ⟨rfl, hb⟩; have hS := HS.out.next hb; clear HS hb; have HS := Lib.hid hS; clear hS)) | (go_at_call 27; ((with_reducible refine (sane_27_2 _ (HS.out.ti HT.out)).mono ?_); rintro e w' ⟨rfl, hb⟩; have hS := HS.out.next hb; clear HS hb; have HS := Lib.hid hS; clear hS)) | (go_at_call 29; ((with_reducible refine (sane_29_0 _ (HS.out.ti HT.out)).mono ?_); rintro e w' ⟨rfl, hb⟩; have hS := HS.out.next hb; clear HS hb; have HS := Lib.hid hS; clear hS)) | (go_at_call 29; ((with_reducible refine (sane_29_1 _ (HS.out.ti HT.out)).mono ?_); rintro e w' ⟨rfl, hb⟩; have hS := HS.out.next hb; clear HS hb; have HS := Lib.hid hS; clear hS)) | (go_at_call 23; ((with_reducible refine (sane_23_0 _ _ rfl ((HS.out.alloc _).ti HT.out)).mono ?_); rintro e w' ⟨rfl, hb⟩; have hS := HS.out.nextA hb; clear HS hb; have HS := Lib.hid hS; clear hS)) | (go_at_call 23; ((with_reducible refine (sane_23_1 _ _ rfl ((HS.out.alloc _).ti HT.out)).mono ?_); rintro e w' ⟨rfl, hb⟩; have hS := HS.out.nextA hb; clear HS hb; have HS := Lib.hid hS; clear hS)) | (go_at_call 32; ((with_reducible refine (sane_32a _ _ _ rfl (by simp) ((((HS.out.alloc _).alloc _).alloc _).ti HT.out)).mono ?_); rintro e w' ⟨rfl, hb⟩; have hS := (((HS.out.alloc _).alloc _).alloc _).next hb; clear HS hb; have HS := Lib.hid hS; clear hS)) | (go_at_call 51; ((with_reducible refine (sane_51 _ (HS.out.ti HT.out)).mono ?_); rintro e w' ⟨rfl, hb⟩; have hS := HS.out.next hb; clear HS hb; have HS := Lib.hid hS; clear hS)) | (go_at_call 18; ((with_reducible refine (sane_18 _).mono ?_); rintro e w' ⟨rfl, hb⟩; have hS := HS.out.next hb; clear HS hb; have HS := Lib.hid hS; clear hS)) | (go_at_call 20; ((with_reducible refine (sane_20_0 _).mono ?_); rintro e w' ⟨rfl, hb⟩; have hS := HS.out.next hb; clear HS hb; have HS := Lib.hid hS; clear hS)) | (go_at_call 20; ((with_reducible refine (sane_20_1 _).mono ?_); rintro e w' ⟨rfl, hb⟩; have hS := HS.out.next hb; clear HS hb; have HS := Lib.hid hS; clear hS)) | (go_at_call 43; ((with_reducible refine (sane_43 _ (HS.out.ti HT.out)).mono ?_); rintro e w' ⟨a, cp, rfl, hb⟩; have hS := HS.out.next hb; clear HS hb; have HS := Lib.hid hS; clear hS)) | (go_at_call 28; ((with_reducible refine (sane_28 _ (HS.out.ti HT.out)).mono ?_); rintro e w' ⟨g, cp, rfl, hc, hb⟩; have hS := HS.out.next hb; clear HS hb; have HS := Lib.hid hS; clear hS; have HC := Lib.hid hc; clear hc)) | (go_at_call 58; ((with_reducible refine (sane_58 _ _ _ signs_len HC.out).mono ?_); rintro e w' ⟨rfl, rfl⟩; clear HC)))
  go_ret
  exact ⟨rfl, HS.out.1⟩
end Go.Proofs.YtagcfgoofiibfaaGreatDoor
