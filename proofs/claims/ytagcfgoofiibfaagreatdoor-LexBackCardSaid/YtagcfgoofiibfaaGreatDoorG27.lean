/- The lexer and what it reaches: part 27 of 41: F2. -/
import Derived.Test.YtagcfgoofiibfaaGreatDoorG17
import Derived.Lib.Bytealg
import Derived.RangeFuncBox
set_option linter.unusedVariables false
set_option linter.unusedSimpArgs false
namespace Go.Proofs.YtagcfgoofiibfaaGreatDoor
open Go Go.RowKit
attribute [local go_sem] Oper.semAt_some

/-- a text cut at a byte -/
def splitL (c : UInt8) : List UInt8 → List UInt8 → List (List UInt8)
  | acc, [] => [acc]
  | acc, b :: l => if b = c then acc :: splitL c [] l else splitL c (acc ++ [b]) l
theorem splitL_none (c : UInt8) : ∀ (l acc : List UInt8), Lib.indexByte l c = -1 → splitL c acc l = [acc ++ l]
  | [], acc, _ => by simp [splitL]
  | b :: l, acc, h => by
    have hg := Lib.indexByte_ge l c
    simp only [Lib.indexByte] at h
    by_cases hb : b = c
    · rw [if_pos (by simpa using hb)] at h; omega
    · rw [if_neg (by simpa using hb)] at h
      split at h
      · rename_i h2
        simp only [splitL, if_neg hb]
        rw [splitL_none c l _ (by simpa using h2)]; simp
      · rename_i h2
        simp at h2; omega
theorem splitL_some (c : UInt8) : ∀ (l acc : List UInt8) (i : Nat), Lib.indexByte l c = (i : Int) → i < l.length ∧ splitL c acc l = (acc ++ l.take i) :: splitL c [] (l.drop (i + 1))
  | [], acc, i, h => by simp [Lib.indexByte] at h
  | b :: l, acc, i, h => by
    have hg := Lib.indexByte_ge l c
    simp only [Lib.indexByte] at h
    by_cases hb : b = c
    · rw [if_pos (by simpa using hb)] at h
      obtain rfl : i = 0 := by omega
      simp [splitL, hb]
    · rw [if_neg (by simpa using hb)] at h
      split at h
      · omega
      · rename_i h2
        simp at h2
        obtain ⟨k, rfl⟩ : ∃ k, i = k + 1 := ⟨i - 1, by omega⟩
        obtain ⟨h3, h4⟩ := splitL_some c l (acc ++ [b]) k (by omega)
        refine ⟨by simp; omega, ?_⟩
        simp only [splitL, if_neg hb]
        rw [h4]; simp

theorem c165 (s p : ByteArray) (k : Int) (w : World) :
    Calls Tryz.prog 165 #[.string s, .string p, .int .i64 k] w fun e w' => e = .returned (.func (.func 199) #[] #[.pointer (some ⟨w.heap.size + 1, 0, none⟩), .pointer (some ⟨w.heap.size, 0, none⟩), .pointer (some ⟨w.heap.size + 1 + 1, 0, none⟩)]) ∧
      w' = ((w.alloc (.cells #[.string s] 9)).alloc (.cells #[.string p] 9)).alloc (.cells #[.int .i64 k] 3) := by
  have hmf : ∀ (fn : Fn) (first cap : Array Value) (w : World), (Instr.makeFunc fn first cap).run Tryz.prog w = .ok (.func fn first cap) w := fun _ _ _ _ => rfl
  go_enter Tryz.func165, Tryz.ntmps165
  go_wp2
  go_ret
  exact ⟨rfl, rfl⟩
theorem c105 (s p : ByteArray) (w : World) :
    Calls Tryz.prog 105 #[.string s, .string p] w fun e w' => e = .returned (.func (.func 199) #[] #[.pointer (some ⟨w.heap.size + 1, 0, none⟩), .pointer (some ⟨w.heap.size, 0, none⟩), .pointer (some ⟨w.heap.size + 1 + 1, 0, none⟩)]) ∧
      w' = ((w.alloc (.cells #[.string s] 9)).alloc (.cells #[.string p] 9)).alloc (.cells #[.int .i64 0] 3) := by
  go_enter Tryz.func105, Tryz.ntmps105
  go_wp2_with (go_at_call 165; refine (c165 _ _ _ _).mono ?_; rintro e w' ⟨rfl, rfl⟩)
  go_ret
  exact ⟨rfl, rfl⟩

/-- the text of a value -/
def strV : Value → ByteArray
  | .string s => s
  | _ => ByteArray.empty

theorem Abide.setCell {β : Type} {X : Nat → Prop} {J : β → World → Prop} (h : Abide X J) {s : β} {W : World} (hs : J s W) {b : Nat} (hb : X b) (v : Value) : J s (W.setCell ⟨b, 0, none⟩ v) :=
  h _ _ _ (some b) hs (grownBy_setCell' W b v) fun r e => by cases e; exact hb

set_option maxRecDepth 100000 in
set_option maxHeartbeats 3200000 in
theorem c199 (m : Nat) (B : Nat) (s : ByteArray) (hsz : s.size ≤ 100000) (Pb : UInt8 → Prop) (hPb : ∀ b ∈ s.data.toList, Pb b) (Y : Nat → Prop) (hY1 : ¬ Y B) (hY2 : ¬ Y (B + 1)) (hY3 : ¬ Y (B + 1 + 1)) (w : World)
    (hs : w.cell? ⟨B, 0, none⟩ = some (.string s)) (hf : w.frozen? ⟨B, 0, none⟩ = false) (hp : w.cell? ⟨B + 1, 0, none⟩ = some (.string ⟨#[124]⟩)) (hk : w.cell? ⟨B + 1 + 1, 0, none⟩ = some (.int .i64 0)) :
    SeqV Tryz.prog m 199 #[.pointer (some ⟨B + 1, 0, none⟩), .pointer (some ⟨B, 0, none⟩), .pointer (some ⟨B + 1 + 1, 0, none⟩)] (fun x : ByteArray => #[.string x]) (fun r => r = B) Y
      (fun xs => xs.map (·.data.toList) = splitL 124 [] s.data.toList) (fun _ => True) (fun x => x.size ≤ s.size ∧ ∀ b ∈ x.data.toList, Pb b) (s.size + 1) w := by
  intro l J Jx W hW hl1 hl2 hJ hJx hY h0
  have hb1 : B < w.heap.size := World.block_lt_of_cell? w _ hs
  have hb2 : B + 1 < w.heap.size := World.block_lt_of_cell? w _ hp
  have hb3 : B + 1 + 1 < w.heap.size := World.block_lt_of_cell? w _ hk
  have hs' : W.cell? ⟨B, 0, none⟩ = some (.string s) := (hW.cell (p := ⟨B, 0, none⟩) hb1).trans hs
  have hf' : W.frozen? ⟨B, 0, none⟩ = false := (hW.frozen (p := ⟨B, 0, none⟩) hb1).trans hf
  have hp' : W.cell? ⟨B + 1, 0, none⟩ = some (.string ⟨#[124]⟩) := (hW.cell (p := ⟨B + 1, 0, none⟩) hb2).trans hp
  have hk' : W.cell? ⟨B + 1 + 1, 0, none⟩ = some (.int .i64 0) := (hW.cell (p := ⟨B + 1 + 1, 0, none⟩) hb3).trans hk
  have HY := Lib.hid hY
  have HJ := Lib.hid hJ
  have HJ0 := Lib.hid h0
  have HP := Lib.hid hPb
  clear hY hJ h0 hs hf hp hk hJx hW hPb
  refine callsIn_of_wp Tryz.func199 rfl trivial ?_ rfl
  simp only [Tryz.ntmps199, List.size_toArray, List.length_cons, List.length_nil, Nat.reduceAdd, Nat.reduceSub, Array.replicate_succ, Array.replicate_zero, List.push_toArray, List.append_toArray, List.nil_append, List.cons_append]
  gi_wp2
  gi_loopw [] (fun wr => ∃ (done : List ByteArray) (r : ByteArray), (r.size + done.length ≤ s.size ∧ ∀ b ∈ r.data.toList, Pb b) ∧ J done wr ∧ wr.cell? ⟨B, 0, none⟩ = some (.string r) ∧ wr.frozen? ⟨B, 0, none⟩ = false ∧ wr.cell? ⟨B + 1, 0, none⟩ = some (.string ⟨#[124]⟩) ∧ wr.cell? ⟨B + 1 + 1, 0, none⟩ = some (.int .i64 0) ∧
      done.map (·.data.toList) ++ splitL 124 [] r.data.toList = splitL 124 [] s.data.toList)
    (fun wr => (strV ((wr.cell? ⟨B, 0, none⟩).getD undef)).size)
  case atStart => exact ⟨[], s, ⟨by simp, HP.out⟩, HJ0.out, hs', hf', hp', hk', rfl⟩
  case round =>
    obtain ⟨done, r, ⟨hd, hpb⟩, hJd, hsr, hfr, hpr, hkr, hinv⟩ := hrel
    have HJd := Lib.hid hJd
    have HI := Lib.hid hinv
    have HPB := Lib.hid hpb
    clear hJd hinv HJ0 hpb
    have hge := Lib.indexByte_ge r.data.toList 124
    by_cases hx : Lib.indexByte r.data.toList 124 = -1
    · have hz : Lib.indexByte r.data.toList 124 < 0 := by omega
      obtain ⟨fn, tmps, assign, body, hy, hR⟩ := HY.out done r wr HJd.out (by omega) ⟨by omega, HPB.out⟩
      gi_wp2_with (refine ⟨trivial, fun hd => (by cases hd), ?_⟩; gi_at_call 92; refine (callsIn_wide.2 (Tryz.strings_Index_one _ _ _)).mono ?_; rintro e w' ⟨rfl, rfl⟩)
      refine ⟨fun hd => (by cases hd), hR.mono ?_⟩
      rintro e W3 (⟨rfl, hJ3, hk3⟩ | ⟨rfl, hJx3⟩)
      · gi_wp2
        go_end0
        exact ⟨⟨_, rfl⟩, .inl ⟨done ++ [r], by rw [← HI.out, splitL_none _ _ _ hx]; simp, hJ3⟩⟩
      · gi_wp2
        go_end0
        exact ⟨⟨_, rfl⟩, .inr ⟨_, trivial, hJx3⟩⟩
    · obtain ⟨i, hi⟩ : ∃ i : Nat, Lib.indexByte r.data.toList 124 = (i : Int) := ⟨(Lib.indexByte r.data.toList 124).toNat, by omega⟩
      obtain ⟨h3, h4⟩ := splitL_some 124 r.data.toList [] i hi
      have h3' : i < r.size := by simpa using h3
      have q0 : decide ((i : Int) < 0) = false := by simp
      have q1 : (i : Int) ≤ (r.size : Int) := by omega
      have q2 : (i : Int) + 1 ≤ (r.size : Int) := by omega
      have H4 := Lib.hid h4
      clear h4 hx
      obtain ⟨fn, tmps, assign, body, hy, hR⟩ := HY.out done (r.extract 0 i) wr HJd.out (by omega) ⟨by simp [ByteArray.size_extract]; omega, fun b hb => HPB.out b (by rw [ext_list] at hb; exact List.mem_of_mem_drop (List.mem_of_mem_take hb))⟩
      gi_wp2_with (refine ⟨trivial, fun hd => (by cases hd), ?_⟩; gi_at_call 92; refine (callsIn_wide.2 (Tryz.strings_Index_one _ _ _)).mono ?_; rintro e w' ⟨rfl, rfl⟩)
      refine ⟨fun hd => (by cases hd), hR.mono ?_⟩
      rintro e W3 (⟨rfl, hJ3, hk3⟩ | ⟨rfl, hJx3⟩)
      · have n1 : ∀ k, k < w.heap.size → ¬ Y k → ¬ (k = l ∨ Y k) := fun k h1 h2 h => by rcases h with h | h; omega; exact h2 h
        have hs3 := hk3.cell (p := ⟨B, 0, none⟩) (n1 _ hb1 hY1) hsr
        have hp3 := hk3.cell (p := ⟨B + 1, 0, none⟩) (n1 _ hb2 hY2) hpr
        have hk33 := hk3.cell (p := ⟨B + 1 + 1, 0, none⟩) (n1 _ hb3 hY3) hkr
        have hf3 : W3.frozen? ⟨B, 0, none⟩ = false := by
          have := hk3.blk B (World.block_lt_of_cell? _ _ hsr) (n1 _ hb1 hY1)
          unfold World.frozen? at hfr ⊢
          rw [this]; exact hfr
        have HJ3 := Lib.hid hJ3
        clear hJ3 hk3
        gi_wp2
        go_roundw
        case rel => exact ⟨done ++ [r.extract 0 i], r.extract (i + 1) r.size, ⟨by simp [ByteArray.size_extract]; omega, fun b hb => HPB.out b (by rw [ext_list] at hb; exact List.mem_of_mem_drop (List.mem_of_mem_take hb))⟩, HJ.out.setCell HJ3.out (.inl rfl) _, by simp [go_sem, hs3], by simp [go_sem, hf3], by simp [go_sem, hp3], by simp [go_sem, hk33], by
          rw [← HI.out, H4.out]; simp [ext_list]; rw [List.take_of_length_le (by simp)]⟩
        case measure => rw [hsr]; simp [strV, go_sem, hs3, ByteArray.size_extract]; omega
      · gi_wp2
        refine bodyPost_ret (results_none rfl _ _ _) rfl ?_
        exact ⟨⟨_, rfl⟩, .inr ⟨_, trivial, hJx3⟩⟩
end Go.Proofs.YtagcfgoofiibfaaGreatDoor
