/- The lexer and what it reaches: part 12 of 41: D2, D3. -/
import Derived.Test.YtagcfgoofiibfaaGreatDoorG10
import Derived.Test.YtagcfgoofiibfaaGreatDoorG11
set_option linter.unusedVariables false
set_option linter.unusedSimpArgs false
namespace Go.Proofs.YtagcfgoofiibfaaGreatDoor
open Go.RowKit

theorem pre3 (s : ByteArray) (i : Nat) (hi : i + cnt rnb s i ≤ s.size) (p : List UInt8) (hp : p.length = 3) (h : Lib.hasPrefix (s.extract i (i + cnt rnb s i)).data.toList p = true) : 3 ≤ cnt rnb s i := by
  have h3 := isPrefixOf_len _ _ h
  rw [Array.length_toList] at h3
  change p.length ≤ (s.extract i (i + cnt rnb s i)).size at h3
  rw [ext_size s i _ hi, hp] at h3
  exact h3

theorem runF_bd (s : ByteArray) (i : Nat) (p : Tk) (hi : i < s.size) (hr : rnb (bt s i) = true) (h : runF s i = .ok p) : i < p.en ∧ p.en ≤ s.size ∧ p.at_ = i := by
  have h1 := cnt_yes rnb s i hi hr
  have h2 := cnt_le rnb s i
  unfold runF at h
  split at h
  · split at h
    · cases h
    · injection h with h; subst h; exact ⟨by simp only []; omega, by simp only []; omega, rfl⟩
  split at h
  · rename_i hp
    have h3 : 3 ≤ cnt rnb s i := by
      rw [Bool.or_eq_true] at hp
      rcases hp with hp | hp
      · exact pre3 s i (by omega) _ rfl hp
      · exact pre3 s i (by omega) _ rfl hp
    injection h with h; subst h; exact ⟨by simp only []; omega, by simp only []; omega, rfl⟩
  split at h
  · injection h with h; subst h; exact ⟨by simp only []; omega, by simp only []; omega, rfl⟩
  split at h
  · injection h with h; subst h; exact ⟨by simp only []; omega, by simp only []; omega, rfl⟩
  split at h
  · cases h
  split at h
  · cases h
  · injection h with h; subst h; exact ⟨by simp only []; omega, by simp only []; omega, rfl⟩

theorem sgn_bd (s : ByteArray) (i : Nat) (p : Tk) : ∀ n, i + n ≤ s.size → sgn s i n = .ok p → i < p.en ∧ p.en ≤ s.size ∧ p.at_ = i
  | 0, _, h => by simp only [sgn] at h; cases h
  | n + 1, hn, h => by
    simp only [sgn] at h
    split at h
    · split at h
      · exact sgn_bd s i p n (by omega) h
      · injection h with h; subst h; exact ⟨by simp only []; omega, by simp only []; omega, rfl⟩
    · exact sgn_bd s i p n (by omega) h

theorem signF_bd (s : ByteArray) (i : Nat) (p : Tk) (hi : i < s.size) (h : signF s i = .ok p) : i < p.en ∧ p.en ≤ s.size ∧ p.at_ = i := by
  have h2 := cnt_le ltr s (i + 1)
  unfold signF at h
  split at h
  · injection h with h; subst h; exact ⟨by simp only []; omega, by simp only []; omega, rfl⟩
  · exact sgn_bd s i p _ (by omega) h

theorem quo_bd (s : ByteArray) (i : Nat) (p : Tk) : ∀ f k o, quo s i f k o = .ok p → i < p.en ∧ p.en ≤ s.size ∧ p.at_ = i
  | 0, _, _, h => by simp only [quo] at h; cases h
  | f + 1, k, o, h => by
    simp only [quo] at h
    split at h
    · cases h
    split at h
    · split at h
      · cases h
      · injection h with h; subst h; exact ⟨by simp only []; omega, by simp only []; omega, rfl⟩
    split at h
    · split at h
      · split at h
        · cases h
        · exact quo_bd s i p f _ _ h
      · cases h
    split at h
    · cases h
    · exact quo_bd s i p f _ _ h

theorem basedF_bd (s : ByteArray) (i : Nat) (p : Tk) (hi : i < s.size) (hb : baseF s i ≠ 0) (h : basedF s i = .ok p) : i < p.en ∧ p.en ≤ s.size ∧ p.at_ = i := by
  have h92 : bt s i = 92 := by
    by_cases h9 : bt s i = 92
    · exact h9
    · exact absurd (by unfold baseF; rw [if_pos h9]) hb
  have := cnt_pos2 s i h92 hb hi
  unfold basedF at h
  split at h
  · cases h
  · injection h with h; subst h; exact ⟨by simp only []; omega, by simp only []; omega, rfl⟩

theorem tokF_bd (s : ByteArray) (i : Nat) (p : Tk) (hi : i < s.size) (h : tokF s i = .ok p) : i < p.en ∧ p.en ≤ s.size ∧ p.at_ = i := by
  unfold tokF at h
  split at h
  · rename_i hr; exact runF_bd s i p hi hr h
  split at h
  · rename_i hb; exact basedF_bd s i p hi hb h
  split at h
  · exact quo_bd s i p _ _ _ h
  split at h
  · rename_i h1
    have hb := sees_bt s i _ 45 _ rfl h1
    have h2 := cnt_yes (fun b => b == 45) s i hi (by rw [hb]; decide)
    have h3 := cnt_le (fun b => b == 45) s i
    injection h with h; subst h; exact ⟨by simp only []; omega, by simp only []; omega, rfl⟩
  split at h
  · rename_i h1
    have hb := sees_bt s i _ 61 _ rfl h1
    have h2 := cnt_yes (fun b => b == 61) s i hi (by rw [hb]; decide)
    have h3 := cnt_le (fun b => b == 61) s i
    injection h with h; subst h; exact ⟨by simp only []; omega, by simp only []; omega, rfl⟩
  · exact signF_bd s i p hi h
end Go.Proofs.YtagcfgoofiibfaaGreatDoor
namespace Go.Proofs.YtagcfgoofiibfaaGreatDoor
open Go.RowKit

/-- what scan makes of a text from a place behind blanks on -/
def rest (s : ByteArray) (f i : Nat) (ps : List Tk) (ys : List (Nat × Nat)) : Except (Nat × Int) (List Tk × List (Nat × Nat)) :=
  if s.size ≤ i then .ok (ps, ys)
  else match tokF s i with
    | .error e => .error (i, e)
    | .ok p => scnF s f p.en (ps ++ [p]) ys
theorem scnF_eq (s : ByteArray) (f i : Nat) (ps : List Tk) (ys : List (Nat × Nat)) : scnF s (f + 1) i ps ys = match skpA s i ys with
    | .error a => .error (a, 22)
    | .ok (j, zs) => rest s f j ps zs := by
  simp only [scnF]; rfl

theorem heap_alloc_at (X : World) (n : Nat) (h : X.heap.size = n) (o : Obj) : (X.alloc o).heap[n]? = some o := by subst h; exact heap_alloc_new X o

theorem setCell_self (w : World) (b : Nat) (v : Value) (h : w.cell? ⟨b, 0, none⟩ = some v) : w.setCell ⟨b, 0, none⟩ v = w := by
  unfold World.cell? at h
  unfold World.setCell
  have key : w.heap.modify b (fun | .cells c elem frozen => .cells (if (none : Option Nat).isSome then c else c.setIfInBounds 0 v) elem frozen | o => o) = w.heap := by
    apply Array.ext (by simp)
    intro i h1 h2
    rw [Array.getElem_modify]
    split
    · rename_i e
      subst e
      rw [Array.getElem?_eq_getElem h2] at h
      split at h
      · rename_i c e2 f heq
        injection heq with heq
        rw [heq]
        simp at h ⊢
        apply Array.ext (by simp)
        intro k hk1 hk2
        rw [Array.getElem_setIfInBounds]
        split
        · rename_i e3; subst e3
          rw [Array.getElem?_eq_getElem hk2] at h
          injection h with h; exact h.symm
        · rfl
      · cases h
    · rfl
  show ({ w with heap := _ } : World) = w
  exact (congrArg (fun x => ({ w with heap := x } : World)) key).trans rfl

/-- scan's own variables -/
structure Vars (B g : Nat) (w : World) : Prop where
  c0 : w.cell? ⟨B, 0, none⟩ = some (.pointer (some ⟨g, 0, none⟩))
  c1 : w.cell? ⟨B + 1, 0, none⟩ = some (.int .i64 0)
  c2 : w.cell? ⟨B + 1 + 1, 0, none⟩ = some (.int .i64 0)
  f0 : w.frozen? ⟨B, 0, none⟩ = false
  f1 : w.frozen? ⟨B + 1, 0, none⟩ = false
  f2 : w.frozen? ⟨B + 1 + 1, 0, none⟩ = false
theorem Vars.modd {B g : Nat} {w w' : World} (h : Vars B g w) (hg : B + 1 + 1 < g) (hm : Modd g w w') : Vars B g w' :=
  ⟨by rw [hm.below.cell (p := ⟨B, 0, none⟩) (by simp; omega)]; exact h.c0, by rw [hm.below.cell (p := ⟨B + 1, 0, none⟩) (by simp; omega)]; exact h.c1, by rw [hm.below.cell (p := ⟨B + 1 + 1, 0, none⟩) (by simp; omega)]; exact h.c2,
   by rw [hm.below.frozen (p := ⟨B, 0, none⟩) (by simp; omega)]; exact h.f0, by rw [hm.below.frozen (p := ⟨B + 1, 0, none⟩) (by simp; omega)]; exact h.f1, by rw [hm.below.frozen (p := ⟨B + 1 + 1, 0, none⟩) (by simp; omega)]; exact h.f2⟩

set_option maxRecDepth 100000 in
set_option maxHeartbeats 3200000 in
theorem c157C : C157 := fun g s i tb ps ys w H hi hp hsz => c157 g s i tb ps ys w H hi hp hsz

set_option maxRecDepth 100000 in
set_option maxHeartbeats 3200000 in
theorem c68 (h195 : C195) (s : ByteArray) (p : Nat) (w : World) (HT : TabAt w.heap.size p w) (hsz : s.size ≤ 1073741824) :
    Calls Tryz.prog 68 #[.pointer (some ⟨p, 0, none⟩), .string s] w (ScanTo s p (scan s) w) := by
  have hmf : ∀ (fn : Fn) (first cap : Array Value) (w : World), (Instr.makeFunc fn first cap).run Tryz.prog w = .ok (.func fn first cap) w := fun _ _ _ _ => rfl
  have h195 := Lib.hid h195
  have HTT := Lib.hid HT
  clear HT
  go_enter_defers Tryz.func68, Tryz.ntmps68
  go_wp2_with fail
  generalize hW : World.alloc _ _ = W
  have hV : Vars w.heap.size (w.heap.size + 1 + 1 + 1) W := by
    rw [← hW]
    constructor <;> simp [go_sem]
  have hS : SC (w.heap.size + 1 + 1 + 1) s 0 (.pointer (some ⟨p, 0, none⟩)) [] [] W := by
    rw [← hW]
    refine ⟨_, _, [], ⟨?_, World.ownsRow_nil _ _ _ _, World.ownsRow_nil _ _ _ _⟩, rfl⟩
    exact heap_alloc_at _ _ (by simp) _
  have hB : Below w.heap.size w W := by
    rw [← hW]
    exact ((((Below.refl _ _).alloc (by simp) _).alloc (by simp) _).alloc (by simp; omega) _).alloc (by simp; omega) _
  clear hW
  have hV := Lib.hid hV
  have hS := Lib.hid hS
  have hB := Lib.hid hB
  rcases hk : skpA s 0 [] with a | ⟨j, zs⟩
  · replace hk := Lib.hid hk
    (with_reducible refine (c102s _ s 0 _ [] [] _ hS.out (Nat.zero_le _) (Nat.le_refl _) hsz).mono ?_)
    rintro e w1 hI
    rw [hk.out] at hI
    obtain ⟨rfl, hM⟩ := hI
    have hV1 := (hV.out).modd (by omega) hM
    go_wp2
    refine leaves_cons (f := 101) (args := #[.pointer (some ⟨w.heap.size, 0, none⟩), .pointer (some ⟨w.heap.size + 1, 0, none⟩), .pointer (some ⟨w.heap.size + 1 + 1, 0, none⟩)]) (by simp) (by simp [go_sem]) ?_
    refine (c101_panics w.heap.size (w.heap.size + 1) (w.heap.size + 1 + 1) w.heap.size _ _ _ (a : Int) 22 [] _ hV1.c0 hV1.c1 hV1.c2 hV1.f0 hV1.f1 hV1.f2 (by omega) (by omega) (by omega) ⟨by omega, by omega, by omega⟩).mono ?_
    rintro e u' w2 ⟨rfl, rfl, k0, k1, k2, hB2⟩
    have hfin : ScanTo s p (scan s) w (.returned (.tuple #[.pointer none, .int .i64 (a : Int), .int .i64 22])) w2 := by
      unfold scan
      rw [scnF_eq, hk.out]
      exact ⟨rfl, ((hB.out).trans (hM.below.mono (by omega))).trans hB2⟩
    simp [Leaves, settle, results, Tryz.results68, go_sem, k0, k1, k2, hfin]
  · have hbd := skpA_bd s 0 [] j zs (Nat.zero_le _) (Nat.le_refl _) hk
    replace hk := Lib.hid hk
    (with_reducible refine (c102s _ s 0 _ [] [] _ hS.out (Nat.zero_le _) (Nat.le_refl _) hsz).mono ?_)
    rintro e w1 hI
    rw [hk.out] at hI
    obtain ⟨rfl, hS1, hM⟩ := hI
    have hV1 := Lib.hid ((hV.out).modd (by omega) hM)
    have hB1 := Lib.hid ((hB.out).trans (hM.below.mono (by omega)))
    have hS1 := Lib.hid hS1
    clear hM
    go_wp2_with fail
    go_loopw [] (fun wr => ∃ (i f : Nat) (ps : List Tk) (ys : List (Nat × Nat)), i ≤ s.size ∧ ps.length ≤ i ∧ ys.length ≤ i ∧ s.size ≤ i + f ∧ Vars w.heap.size (w.heap.size + 1 + 1 + 1) wr ∧
        SC (w.heap.size + 1 + 1 + 1) s i (.pointer (some ⟨p, 0, none⟩)) ps ys wr ∧ Below w.heap.size w wr ∧ scan s = rest s f i ps ys)
      (fun wr => s.size + 1 - (intOf ((wr.cell? ⟨w.heap.size + 1 + 1 + 1, 1, none⟩).getD undef)).toNat)
    case atStart => exact ⟨j, s.size, [], zs, hbd.2.1, Nat.zero_le _, hbd.2.2, by omega, hV1.out, hS1.out, hB1.out, by unfold scan; rw [scnF_eq, hk.out]⟩
    case round =>
      obtain ⟨i, f, ps, ys, hi1, hi2, hi3, hi4, hVr, hSr, hBr, HI⟩ := hrel
      have c0 := hVr.c0
      have c1 := hVr.c1
      have c2 := hVr.c2
      have f0 := hVr.f0
      have f1 := hVr.f1
      have f2 := hVr.f2
      have ha := hSr.ha
      have hVr := Lib.hid hVr
      have hSr := Lib.hid hSr
      have hBr := Lib.hid hBr
      have HI := Lib.hid HI
      by_cases h0 : i < s.size
      · have h0' : (i : Int) < (s.size : Int) := by omega
        obtain ⟨f, rfl⟩ : ∃ f', f = f' + 1 := ⟨f - 1, by omega⟩
        have hT := Lib.hid (((HTT.out).below hBr.out).mono (show w.heap.size ≤ w.heap.size + 1 + 1 + 1 by omega))
        rcases ht : tokF s i with er | t
        · replace ht := Lib.hid ht
          go_wp2_with (go_at_call 103; (with_reducible refine (c103 h195.out c157C _ s i p ps ys _ hSr.out hT.out h0 hi2 hsz).mono ?_); rintro e w3 hI; rw [ht.out] at hI; obtain ⟨rfl, hM⟩ := hI)
          have hVV := (hVr.out).modd (by omega) hM
          have hBB := (hBr.out).trans (hM.below.mono (show w.heap.size ≤ w.heap.size + 1 + 1 + 1 by omega))
          refine leaves_cons (f := 101) (args := #[.pointer (some ⟨w.heap.size, 0, none⟩), .pointer (some ⟨w.heap.size + 1, 0, none⟩), .pointer (some ⟨w.heap.size + 1 + 1, 0, none⟩)]) (by simp) (by simp [go_sem]) ?_
          refine (c101_panics w.heap.size (w.heap.size + 1) (w.heap.size + 1 + 1) w.heap.size _ _ _ (i : Int) er [] _ hVV.c0 hVV.c1 hVV.c2 hVV.f0 hVV.f1 hVV.f2 (by omega) (by omega) (by omega) ⟨by omega, by omega, by omega⟩).mono ?_
          rintro e u' w2 ⟨rfl, rfl, k0, k1, k2, hB2⟩
          have hfin : ScanTo s p (scan s) w (.returned (.tuple #[.pointer none, .int .i64 (i : Int), .int .i64 er])) w2 := by
            rw [HI.out, rest, if_neg (by omega), ht.out]
            exact ⟨rfl, hBB.trans hB2⟩
          simp [Leaves, settle, results, Tryz.results68, go_sem, k0, k1, k2, hfin]
        · have hb := tokF_bd s i t h0 ht
          replace ht := Lib.hid ht
          rcases hk2 : skpA s t.en ys with a | ⟨j2, zs2⟩
          · replace hk2 := Lib.hid hk2
            go_wp2_with (first | (go_at_call 103; (with_reducible refine (c103 h195.out c157C _ s i p ps ys _ hSr.out hT.out h0 hi2 hsz).mono ?_); rintro e w3 hI; rw [ht.out] at hI; obtain ⟨rfl, hS3, hM3⟩ := hI; have hV3 := (hVr.out).modd (by omega) hM3; have c03 := hV3.c0; have hV3 := Lib.hid hV3; have hS3 := Lib.hid hS3; have hM3 := Lib.hid hM3) | (go_at_call 102; (with_reducible refine (c102s _ s t.en _ (ps ++ [t]) ys _ hS3.out hb.2.1 (by omega) hsz).mono ?_); rintro e w4 hI; rw [hk2.out] at hI; obtain ⟨rfl, hM4⟩ := hI))
            have hVV := (hV3.out).modd (by omega) hM4
            have hBB := ((hBr.out).trans ((hM3.out).below.mono (show w.heap.size ≤ w.heap.size + 1 + 1 + 1 by omega))).trans (hM4.below.mono (show w.heap.size ≤ w.heap.size + 1 + 1 + 1 by omega))
            refine leaves_cons (f := 101) (args := #[.pointer (some ⟨w.heap.size, 0, none⟩), .pointer (some ⟨w.heap.size + 1, 0, none⟩), .pointer (some ⟨w.heap.size + 1 + 1, 0, none⟩)]) (by simp) (by simp [go_sem]) ?_
            refine (c101_panics w.heap.size (w.heap.size + 1) (w.heap.size + 1 + 1) w.heap.size _ _ _ (a : Int) 22 [] _ hVV.c0 hVV.c1 hVV.c2 hVV.f0 hVV.f1 hVV.f2 (by omega) (by omega) (by omega) ⟨by omega, by omega, by omega⟩).mono ?_
            rintro e u' w2 ⟨rfl, rfl, k0, k1, k2, hB2⟩
            have hfin : ScanTo s p (scan s) w (.returned (.tuple #[.pointer none, .int .i64 (a : Int), .int .i64 22])) w2 := by
              rw [HI.out, rest, if_neg (by omega), ht.out]
              simp only []
              rw [scnF_eq, hk2.out]
              exact ⟨rfl, hBB.trans hB2⟩
            simp [Leaves, settle, results, Tryz.results68, go_sem, k0, k1, k2, hfin]
          · have hbd2 := skpA_bd s t.en ys j2 zs2 hb.2.1 (by omega) hk2
            replace hk2 := Lib.hid hk2
            go_wp2_with (first | (go_at_call 103; (with_reducible refine (c103 h195.out c157C _ s i p ps ys _ hSr.out hT.out h0 hi2 hsz).mono ?_); rintro e w3 hI; rw [ht.out] at hI; obtain ⟨rfl, hS3, hM3⟩ := hI; have hV3 := (hVr.out).modd (by omega) hM3; have c03 := hV3.c0; have hV3 := Lib.hid hV3; have hS3 := Lib.hid hS3; have hM3 := Lib.hid hM3) | (go_at_call 102; (with_reducible refine (c102s _ s t.en _ (ps ++ [t]) ys _ hS3.out hb.2.1 (by omega) hsz).mono ?_); rintro e w4 hI; rw [hk2.out] at hI; obtain ⟨rfl, hS4, hM4⟩ := hI))
            have hV4 := (hV3.out).modd (by omega) hM4
            have hBB := ((hBr.out).trans ((hM3.out).below.mono (show w.heap.size ≤ w.heap.size + 1 + 1 + 1 by omega))).trans (hM4.below.mono (show w.heap.size ≤ w.heap.size + 1 + 1 + 1 by omega))
            go_roundw
            case rel => exact ⟨j2, f, ps ++ [t], zs2, hbd2.2.1, by simp; omega, hbd2.2.2, by omega, hV4, hS4, hBB, by rw [HI.out, rest, if_neg (by omega), ht.out]; simp only []; rw [scnF_eq, hk2.out]⟩
            case measure => rw [hS4.ha, ha]; simp [intOf]; omega
      · have h0' : decide ((i : Int) < (s.size : Int)) = false := by simp; omega
        go_wp2_with fail
        rw [setCell_self wr _ _ c0, setCell_self wr _ _ c1, setCell_self wr _ _ c2]
        refine leaves_cons (f := 101) (args := #[.pointer (some ⟨w.heap.size, 0, none⟩), .pointer (some ⟨w.heap.size + 1, 0, none⟩), .pointer (some ⟨w.heap.size + 1 + 1, 0, none⟩)]) (by simp) (by simp [go_sem]) ?_
        refine (c101_idle w.heap.size (w.heap.size + 1) (w.heap.size + 1 + 1) _).mono ?_
        rintro e u' w2 ⟨rfl, rfl, rfl⟩
        have hfin : ScanTo s p (scan s) w (.returned (.tuple #[.pointer (some ⟨w.heap.size + 1 + 1 + 1, 0, none⟩), .int .i64 0, .int .i64 0])) w2 := by
          rw [HI.out, rest, if_pos (by omega)]
          exact ⟨_, i, rfl, by omega, hSr.out, hBr.out⟩
        simp [Leaves, settle, results, Tryz.results68, go_sem, c0, c1, c2, hfin]
end Go.Proofs.YtagcfgoofiibfaaGreatDoor
