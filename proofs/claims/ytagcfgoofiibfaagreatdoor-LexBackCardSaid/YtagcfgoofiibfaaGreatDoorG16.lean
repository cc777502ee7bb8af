/- The lexer and what it reaches: part 16 of 41: N2. -/
import Derived.Test.YtagcfgoofiibfaaGreatDoorG05
import Derived.Test.YtagcfgoofiibfaaGreatDoorG15
set_option linter.unusedVariables false
set_option linter.unusedSimpArgs false
namespace Go.Proofs.YtagcfgoofiibfaaGreatDoor
open Go.RowKit

theorem addr_add (g j : Nat) : (⟨g, 0, none⟩ : Addr).add j = ⟨g, j, none⟩ := by unfold Addr.add; split <;> simp_all
theorem atL_get (l : List Int) (j : Nat) (h : j < l.length) : l[j]? = some (atL l j) := by
  unfold atL; rw [List.getD_eq_getElem?_getD, List.getElem?_eq_getElem h]; rfl
/-- the forms of a slice of whole numbers, and its cells -/
theorem IntsAt.form {w : World} {v : Value} {l : List Int} (h : IntsAt w v l) : (v = .slice none 0 0 ∧ l = []) ∨
    ∃ g cap, v = .slice (some ⟨g, 0, none⟩) l.length cap ∧ l.length ≤ cap ∧ cap ≤ maxLen ∧ g < w.heap.size ∧ ∀ j, j < l.length → w.cell? ⟨g, j, none⟩ = some (.int .i64 (atL l j)) := by
  have hh := h
  rcases h.2 with ⟨rfl, h0⟩ | ⟨g, cap, cur, rfl, _, hg, hc, hm, _⟩
  · exact .inl ⟨rfl, List.eq_nil_of_length_eq_zero h0⟩
  · refine .inr ⟨g, cap, rfl, hc, hm, lt_of_blk hg, fun j hj => ?_⟩
    have := World.ownsRow.cells hh (g := g) rfl j (.int .i64 (atL l j)) (by rw [List.getElem?_map, atL_get l j hj]; rfl)
    rwa [addr_add] at this
theorem IntsAt.below {w w' : World} {v : Value} {l : List Int} (h : IntsAt w v l) (hb : Below w.heap.size w w') : IntsAt w' v l := h.modd (Below.modd hb 0 (Nat.zero_le _))
theorem IntsAt.drop {w : World} {v : Value} {r : List Int} {x : Int} {g cap : Nat} (h : IntsAt w v (r ++ [x])) (hv : v = .slice (some ⟨g, 0, none⟩) (r ++ [x]).length cap) : IntsAt w (.slice (some ⟨g, 0, none⟩) r.length cap) r := by
  rcases h.2 with ⟨rfl, h0⟩ | ⟨g', cap', cur, e, hb, hg, hc, hm, hs, ht⟩
  · cases hv
  · subst hv
    injection e with e1 e2 e3
    injection e1 with e1; injection e1 with e1
    subst e1 e3
    simp only [List.length_append, List.length_cons, List.length_nil] at hc ht
    refine ⟨by simp, .inr ⟨g, cap, cur, rfl, hb, hg, by omega, hm, hs, ?_⟩⟩
    have : cur.toList.take (r.length * 1) = (cur.toList.take ((r.length + (0 + 1)) * 1)).take (r.length * 1) := by rw [List.take_take]; congr 1; omega
    rw [this, ht]; simp

theorem c276 (v : Value) (l : List Int) (i : Nat) (w : World) (h : IntsAt w v l) (hi : i ≤ 1099511627776) :
    Calls Tryz.prog 276 #[v, .int .i64 (i : Int)] w fun e w' => e = .returned (.int .i64 (atL l i)) ∧ w = w' := by
  rcases h.form with ⟨rfl, rfl⟩ | ⟨g, cap, rfl, hc, hm, hg, hx⟩
  · have h2 : decide ((i : Int) < 0) = false := by simp
    go_enter Tryz.func276, Tryz.ntmps276
    go_wp2
    go_ret
    exact ⟨rfl, rfl⟩
  · by_cases hl : i < l.length
    · have h1 := hx i hl
      have h2 : (i : Int) < (l.length : Int) := by omega
      go_enter Tryz.func276, Tryz.ntmps276
      go_wp2
      go_ret
      exact ⟨rfl, rfl⟩
    · have h2 : decide ((i : Int) < (l.length : Int)) = false := by simp; omega
      have h3 : atL l i = 0 := by unfold atL; rw [List.getD_eq_getElem?_getD, List.getElem?_eq_none (by omega)]; rfl
      rw [h3]
      go_enter Tryz.func276, Tryz.ntmps276
      go_wp2
      go_ret
      exact ⟨rfl, rfl⟩

/-- the length of a slice -/
def lenV : Value → Nat
  | .slice _ n _ => n
  | _ => 0

set_option maxHeartbeats 1600000 in
theorem c250 (v : Value) (l : List Int) (w : World) (h : IntsAt w v l) :
    Calls Tryz.prog 250 #[v] w fun e w' => ∃ v', e = .returned v' ∧ IntsAt w v' (trimL l) ∧ w = w' := by
  have hh := Lib.hid h
  clear h
  go_enter Tryz.func250, Tryz.ntmps250
  go_wp2
  go_loopw [0] (fun u wr => wr = w ∧ ∃ l', IntsAt w u l' ∧ trimL l' = trimL l) (fun u _ => lenV u)
  case atStart => exact ⟨rfl, l, hh.out, rfl⟩
  case round =>
    obtain ⟨rfl, l', h1, h2⟩ := hrel
    rcases h1.form with ⟨rfl, rfl⟩ | ⟨g, cap, rfl, hc, hm, hg, hx⟩
    · go_wp2
      go_ret
      exact ⟨_, rfl, by rw [← h2]; exact h1, rfl⟩
    · rcases List.eq_nil_or_concat l' with rfl | ⟨r, x, rfl⟩
      · go_wp2
        go_ret
        exact ⟨_, rfl, by rw [← h2]; exact h1, rfl⟩
      · rw [List.concat_eq_append] at *
        have hx' := hx r.length (by simp)
        have e1 : atL (r ++ [x]) r.length = x := by simp [atL]
        rw [e1] at hx'
        have e2 : ((r ++ [x]).length : Int) = (r.length : Int) + 1 := by simp
        have hml : (maxLen : Nat) = 9223372036854775807 := rfl
        have hcl : (r ++ [x]).length = r.length + 1 := by simp
        have qw : wrap64 (r.length : Int) = (r.length : Int) := by unfold wrap64; omega
        clear e2
        by_cases hz : x = 0
        · subst hz
          have hd := h1.drop rfl
          go_wp2
          go_roundw
          case rel => exact ⟨trivial, r, hd, by rw [← trimL_snoc0]; exact h2⟩
          case measure => simp [lenV]
        · go_wp2
          go_ret
          exact ⟨_, rfl, by rw [← h2, trimL_done _ (by simp [NoZ, hz])]; exact h1, rfl⟩
end Go.Proofs.YtagcfgoofiibfaaGreatDoor
