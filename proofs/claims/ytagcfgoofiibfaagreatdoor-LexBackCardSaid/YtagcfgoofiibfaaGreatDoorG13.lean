/- The lexer and what it reaches: part 13 of 41: E0, P0, E1. -/
import Derived.Test.YtagcfgoofiibfaaGreatDoorG03
set_option linter.unusedVariables false
set_option linter.unusedSimpArgs false
namespace Go.Proofs.YtagcfgoofiibfaaGreatDoor
open Go.RowKit

/-- the place behind a byte -/
def nxt (l c b : Int) : Int × Int := if b = 10 then (l + 1, 1) else if b = 9 then (l, (c - 1) / 8 * 8 + 8 + 1) else (l, c + 1)

theorem c96 (l c b : Int) (hl0 : 1 ≤ l) (hl : l ≤ 1099511627776) (hc0 : 1 ≤ c) (hc : c ≤ 1099511627776) (w : World) :
    Calls Tryz.prog 96 #[.agg #[.int .i64 l, .int .i64 c], .int .u8 b] w fun e w' => e = .returned (.agg #[.int .i64 (nxt l c b).1, .int .i64 (nxt l c b).2]) ∧ Below w.heap.size w w' := by
  rcases h1 : (b == 10) with _ | _
  · rcases h2 : (b == 9) with _ | _
    · go_enter Tryz.func96, Tryz.ntmps96
      go_wp2
      refine bodyPost_ret (v := .agg #[.int .i64 l, .int .i64 (c + 1)]) (by simp [results, Tryz.results96, go_sem]) rfl ⟨?_, ((Below.refl _ _).alloc (Nat.le_refl _) _).alloc (by simp) _⟩
      simp at h1 h2; simp [nxt, h1, h2]
    · go_enter Tryz.func96, Tryz.ntmps96
      go_wp2
      refine bodyPost_ret (v := .agg #[.int .i64 l, .int .i64 ((c - 1) / 8 * 8 + 8 + 1)]) (by simp [results, Tryz.results96, go_sem]) rfl ⟨?_, ((Below.refl _ _).alloc (Nat.le_refl _) _).alloc (by simp) _⟩
      simp at h2; simp [nxt, h2]
  · go_enter Tryz.func96, Tryz.ntmps96
    go_wp2
    refine bodyPost_ret (v := .agg #[.int .i64 (l + 1), .int .i64 1]) (by simp [results, Tryz.results96, go_sem]) rfl ⟨?_, ((Below.refl _ _).alloc (Nat.le_refl _) _).alloc (by simp) _⟩
    simp at h1; simp [nxt, h1]
end Go.Proofs.YtagcfgoofiibfaaGreatDoor
namespace Go.Proofs.YtagcfgoofiibfaaGreatDoor
open Go.RowKit

/-- the line and the column of a byte -/
def pos (s : ByteArray) : Nat → Int × Int
  | 0 => (1, 1)
  | n + 1 => nxt (pos s n).1 (pos s n).2 (bt s n)
/-- stands ahead -/
def ahead (a b : Int × Int) : Prop := a.1 < b.1 ∨ a.1 = b.1 ∧ a.2 < b.2

theorem pos_bd (s : ByteArray) : ∀ n : Nat, 1 ≤ (pos s n).1 ∧ (pos s n).1 ≤ n + 1 ∧ 1 ≤ (pos s n).2 ∧ (pos s n).2 ≤ 8 * n + 1
  | 0 => by simp [pos]
  | n + 1 => by
    obtain ⟨h1, h2, h3, h4⟩ := pos_bd s n
    simp only [pos, nxt]
    split
    · exact ⟨by simp only; omega, by simp only; omega, by simp only; omega, by simp only; omega⟩
    · split
      · exact ⟨by simp only; omega, by simp only; omega, by simp only; omega, by simp only; omega⟩
      · exact ⟨by simp only; omega, by simp only; omega, by simp only; omega, by simp only; omega⟩
theorem ahead_nxt (l c b : Int) (h : 1 ≤ c) : ahead (l, c) (nxt l c b) := by
  unfold ahead nxt
  split
  · exact .inl (by show l < l + 1; omega)
  · split
    · exact .inr ⟨rfl, by show c < (c - 1) / 8 * 8 + 8 + 1; omega⟩
    · exact .inr ⟨rfl, by show c < c + 1; omega⟩
theorem ahead_trans {a b c : Int × Int} (h : ahead a b) (k : ahead b c) : ahead a c := by
  unfold ahead at *; omega
theorem ahead_irrefl {a : Int × Int} (h : ahead a a) : False := by unfold ahead at h; omega
theorem pos_ahead (s : ByteArray) (i : Nat) : ∀ k : Nat, ahead (pos s i) (pos s (i + k + 1))
  | 0 => ahead_nxt _ _ _ (pos_bd s i).2.2.1
  | k + 1 => ahead_trans (pos_ahead s i k) (ahead_nxt _ _ _ (pos_bd s (i + k + 1)).2.2.1)
theorem pos_lt (s : ByteArray) {i j : Nat} (h : i < j) : ahead (pos s i) (pos s j) := by
  obtain ⟨k, rfl⟩ : ∃ k, j = i + k + 1 := ⟨j - i - 1, by omega⟩
  exact pos_ahead s i k
theorem pos_inj (s : ByteArray) {i j : Nat} (h : pos s i = pos s j) : i = j := by
  rcases Nat.lt_trichotomy i j with hl | rfl | hl
  · have := pos_lt s hl; rw [h] at this; exact (ahead_irrefl this).elim
  · rfl
  · have := pos_lt s hl; rw [h] at this; exact (ahead_irrefl this).elim

/-- Byte's answer -/
def byteF (s : ByteArray) (l c : Int) : Option Nat := (List.range (s.size + 1)).find? fun i => pos s i == (l, c)
theorem byteF_none (s : ByteArray) (l c : Int) (h : ∀ i, i ≤ s.size → pos s i ≠ (l, c)) : byteF s l c = none := by
  unfold byteF
  rw [List.find?_eq_none]
  intro i hi
  rw [List.mem_range] at hi
  simpa using h i (by omega)
theorem byteF_some (s : ByteArray) (l c : Int) (i : Nat) (hi : i ≤ s.size) (h : pos s i = (l, c)) : byteF s l c = some i := by
  rcases hb : byteF s l c with _ | j
  · unfold byteF at hb
    rw [List.find?_eq_none] at hb
    exact absurd h (by simpa using hb i (List.mem_range.2 (by omega)))
  · have hb' := hb
    unfold byteF at hb
    have h2 := List.find?_some hb
    simp only [beq_iff_eq] at h2
    rw [pos_inj s (h.trans h2.symm)]
theorem byteF_pos (s : ByteArray) (i : Nat) (hi : i ≤ s.size) : byteF s (pos s i).1 (pos s i).2 = some i := byteF_some s _ _ i hi rfl
theorem byteF_inv (s : ByteArray) (l c : Int) (i : Nat) (h : byteF s l c = some i) : i ≤ s.size ∧ pos s i = (l, c) := by
  unfold byteF at h
  have h2 := List.find?_some h
  simp only [beq_iff_eq] at h2
  have h3 := List.mem_of_find?_eq_some h
  rw [List.mem_range] at h3
  exact ⟨by omega, h2⟩
end Go.Proofs.YtagcfgoofiibfaaGreatDoor
namespace Go.Proofs.YtagcfgoofiibfaaGreatDoor
open Go.RowKit

theorem c59 (s : ByteArray) (w : World) :
    Calls Tryz.prog 59 #[.string s] w fun e w' => e = .returned (.func (.func 95) #[] #[.pointer (some ⟨w.heap.size, 0, none⟩)]) ∧ w' = w.alloc (.cells #[.string s] 9) := by
  have hmf : ∀ (fn : Fn) (first cap : Array Value) (w : World), (Instr.makeFunc fn first cap).run Tryz.prog w = .ok (.func fn first cap) w := fun _ _ _ _ => rfl
  go_enter Tryz.func59, Tryz.ntmps59
  go_wp2
  go_ret
  exact ⟨rfl, rfl⟩
end Go.Proofs.YtagcfgoofiibfaaGreatDoor
