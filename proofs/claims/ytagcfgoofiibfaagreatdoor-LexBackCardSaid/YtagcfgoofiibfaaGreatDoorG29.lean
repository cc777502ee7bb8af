/- The lexer and what it reaches: part 29 of 41: E4. -/
import Derived.Test.YtagcfgoofiibfaaGreatDoorG28
import Derived.Test.YtagcfgoofiibfaaGreatDoorG14
import Derived.Test.YtagcfgoofiibfaaGreatDoorG12
set_option linter.unusedVariables false
set_option linter.unusedSimpArgs false
namespace Go.Proofs.YtagcfgoofiibfaaGreatDoor
open Go Go.RowKit
attribute [local go_sem] Oper.semAt_some

theorem blk_below {B : Nat} {W W' : World} (h : Below B W W') {k : Nat} (hk : k < B) {o : Obj} (ho : W.heap[k]? = some o) : W'.heap[k]? = some o := by rw [h.block k hk]; exact ho

theorem bodyPostM_ret {n : Nat} {P : Program} {fn : Func} {R : Ending → World → Prop} {a : Act} {w : World} {v : Value} (hr : (results fn a.tmps).run P w = .ok v w) (h : R (.returned v) w) (hd : a.defers = [] := by rfl) : bodyPostM Fence.wide n P fn R .ret a w := by
  show LeavesInM Fence.wide n P fn a.tmps R a.defers .returning w
  rw [hd]
  exact ⟨v, hr, h⟩

/-- Tokens between two rounds -/
structure TkI (s : ByteArray) (ps : List Tk) (g b cap n : Nat) (w Wa Wr : World) (pre : List Nat) (W : World) : Prop where
  k : W.heap[n + 1]? = some (.cells #[.int .i64 ((plS s ps pre).1 : Int)] 3 (0, 0))
  q : W.heap[n]? = some (.cells #[.pointer (some ⟨g, 0, none⟩)] 92 (0, 0))
  g : ∃ i : Int, ∃ tb vc, W.heap[g]? = some (.cells #[.string s, .int .i64 i, tb, .slice (some ⟨b, 0, none⟩) ps.length cap, vc] 100 (0, 0))
  r : ∃ cur : Array Value, W.heap[b]? = some (.cells cur 41 (0, 0)) ∧ cur.size = cap * 8 ∧ RowsAt Wr (plS s ps pre).2 (cur.toList.take (ps.length * 8))
  y : Keep (fun r => r = b ∨ r = n + 1) Wa W
  w : Below w.heap.size w W
theorem TkI.grown {s : ByteArray} {ps : List Tk} {g b cap n : Nat} {w Wa Wr : World} {pre : List Nat} {W W' : World} {row : Option Nat} (h : TkI s ps g b cap n w Wa Wr pre W) (hg : W.grownBy W' row) (hr : ∀ r, row = some r → Wa.heap.size ≤ r)
    (hn : n + 1 < Wa.heap.size) (hgl : g < Wa.heap.size) (hb : b < Wa.heap.size) (hw : w.heap.size ≤ Wa.heap.size) : TkI s ps g b cap n w Wa Wr pre W' := by
  have nr : ∀ k, k < Wa.heap.size → some k ≠ row := fun k hk e => by have := hr k e.symm; omega
  obtain ⟨i, tb, vc, hgg⟩ := h.g
  obtain ⟨cur, h1, h2, h3⟩ := h.r
  have bk : ∀ {k : Nat} {o : Obj}, k < Wa.heap.size → W.heap[k]? = some o → W'.heap[k]? = some o := fun {k o} hk ho => by rw [hg.block k (lt_of_blk ho) (nr k hk)]; exact ho
  exact ⟨bk hn h.k, bk (by omega) h.q, ⟨i, tb, vc, bk hgl hgg⟩, ⟨cur, bk hb h1, h2, h3⟩, ⟨Nat.le_trans h.y.size hg.size, fun k hk hy => (hg.block k (by have := h.y.size; omega) (nr k hk)).trans (h.y.blk k hk hy)⟩,
    h.w.grown hg h.w.size (fun k e => by have := hr k e; omega)⟩
theorem plS_len (s : ByteArray) (ps : List Tk) (xs : List Nat) : (plS s ps xs).2.length = ps.length := by
  suffices h : ∀ (xs : List Nat) (q : Nat × List Tk), (xs.foldl (plStep s) q).2.length = q.2.length from h xs (0, ps)
  intro xs
  induction xs with
  | nil => intro q; rfl
  | cons x xs ih =>
    intro q
    rw [List.foldl_cons, ih]
    unfold plStep
    split
    · split <;> simp
    · rfl
theorem take_get {cur : Array Value} {n i : Nat} {v : Value} (h : (cur.toList.take n)[i]? = some v) : cur[i]? = some v := by
  rw [List.getElem?_take] at h
  split at h
  · rw [← Array.getElem?_toList]; exact h
  · cases h
theorem TkI.same {s : ByteArray} {ps : List Tk} {g b cap n : Nat} {w Wa Wr : World} {pre pre' : List Nat} {W : World} (h : TkI s ps g b cap n w Wa Wr pre W) (e : plS s ps pre' = plS s ps pre) : TkI s ps g b cap n w Wa Wr pre' W :=
  ⟨by rw [e]; exact h.k, h.q, h.g, by rw [e]; exact h.r, h.y, h.w⟩
theorem RowsAt.keep {w w' : World} (hk : ∀ (q : Nat) (cs : Array Value), w.heap[q]? = some (.cells cs 3 (0, 0)) → w'.heap[q]? = some (.cells cs 3 (0, 0))) : ∀ {ts : List Tk} {xs : List Value}, RowsAt w ts xs → RowsAt w' ts xs
  | [], _, h => h
  | _ :: _, _, ⟨dv, ys, h1, h2, h3⟩ => ⟨dv, ys, ⟨h1.1, by
      rcases h1.2 with h | ⟨b, cap, cur, hv, hb, hg, h4⟩
      · exact .inl h
      · exact .inr ⟨b, cap, cur, hv, hb, hk b cur hg, h4⟩⟩, h2, RowsAt.keep hk h3⟩
theorem grown_drewN (W : World) (n : Nat) : W.grownBy (W.drewN n) none := ⟨rfl, rfl, rfl, Nat.le_refl _, fun _ _ _ => rfl⟩
theorem grown_drew0 (W : World) : W.grownBy W.drew none := ⟨rfl, rfl, rfl, Nat.le_refl _, fun _ _ _ => rfl⟩
def tkTmps (s : ByteArray) (ps : List Tk) (vo : Value) (n g p x Bx : Nat) : Array Value := #[Value.string s, undef, .slice none 0 0, .int .i64 0, .int .i64 0, .pointer (some ⟨n, 0, none⟩), .int .i64 0, .int .i64 0, .pointer (some ⟨n + 1, 0, none⟩), .int .i64 (x : Int), .pointer (some ⟨Bx, 0, none⟩), .string s, .int .i64 (s.size : Int), .bool false, .tuple #[.pointer (some ⟨g, 0, none⟩), .int .i64 0, .int .i64 0], .pointer (some ⟨p, 0, none⟩), .string s, .tuple #[.pointer (some ⟨g, 0, none⟩), .int .i64 0, .int .i64 0], .pointer (some ⟨g, 0, none⟩), .int .i64 0, .int .i64 0, .int .i64 0, .bool false, undef, undef, .pointer (some ⟨g, 0, none⟩), .pointer (some ⟨g, 0, none⟩), .pointer (some ⟨g, 3, none⟩), vo, .int .i64 (ps.length : Int), .bool false, .string s, .func (.func 95) #[] #[.pointer (some ⟨n + 1 + 1, 0, none⟩)], .int .i64 (x : Int), .agg #[.int .i64 (pos s x).1, .int .i64 (pos s x).2], undef, undef, undef, undef, undef, undef, undef, undef, undef, undef, undef, undef, undef, undef, undef, undef, undef, undef, undef, undef, undef, undef, undef, undef, undef, undef, undef, undef, undef, undef, undef, undef, undef, undef, undef, undef, undef, undef, undef, undef, undef, undef, undef]

set_option maxRecDepth 100000 in
set_option maxHeartbeats 6400000 in
theorem c24 (h195 : C195) (s : ByteArray) (w : World) (hT : Lib.TabIs Tryz.prog w "strings.asciiSpace" .u8 Lib.asciiSpaceTab) : Calls Tryz.prog 24 #[.string s] w (TokTo (tokens s) w) := by
  have hf1 : Fence.wide.fn 69 := trivial
  have hf2 : Fence.wide.fn 68 := trivial
  have hf3 : Fence.wide.fn 59 := trivial
  have HT := Lib.hid hT
  have H195 := Lib.hid h195
  clear hT h195
  by_cases hbig : 100000 < s.size
  · have hz : (100000 : Int) < (s.size : Int) := by omega
    go_enter Tryz.func24, Tryz.ntmps24
    go_wp2
    refine bodyPost_ret (v := .tuple #[.slice none 0 0, .int .i64 0, .int .i64 2]) (by simp [results, Tryz.results24, go_sem]) rfl ?_
    unfold tokens
    rw [if_pos hbig]
    exact ⟨rfl, Below.refl _ _⟩
  · have hz : decide ((100000 : Int) < (s.size : Int)) = false := by simp; omega
    have hsz : s.size ≤ 1073741824 := by omega
    have hbig' := Lib.hid hbig
    clear hbig
    refine (callsIn_wide (n := 5)).1 ?_
    refine callsIn_of_wp_marks Tryz.func24 rfl trivial ?_ rfl
    simp only [Tryz.ntmps24, List.size_toArray, List.length_cons, List.length_nil, Nat.reduceAdd, Nat.reduceSub, Array.replicate_succ, Array.replicate_zero, List.push_toArray, List.append_toArray, List.nil_append, List.cons_append]
    rcases hsc : scan s with ⟨a, er⟩ | ⟨ps, ys⟩
    · have hne := scan_err s a er hsc
      have her : (er != 0) = true := by simp; omega
      have HSC := Lib.hid hsc
      clear hsc hne
      gi_wp2_with (first | (gi_at_call 69; (refine (callsIn_wide.2 (c69 _ HT.out)).mono ?_); rintro e w1 ⟨p, rfl, hp, hpl, hb1⟩; have HP := Lib.hid hp; have HB1 := Lib.hid hb1; clear hp hb1) | (gi_at_call 68; (refine (callsIn_wide.2 (c68 H195.out s p w1 HP.out hsz)).mono ?_); rintro e w2 hI; rw [HSC.out] at hI; obtain ⟨rfl, hb2⟩ := hI))
      refine bodyPostM_ret (v := .tuple #[.slice none 0 0, .int .i64 (a : Int), .int .i64 er]) (by simp [results, Tryz.f24, go_sem]) ?_
      unfold tokens
      rw [if_neg hbig'.out, HSC.out]
      exact ⟨rfl, (HB1.out.trans (hb2.mono HB1.out.size)).alloc (by have := HB1.out.size; have := hb2.size; omega) _⟩
    · have hord := scan_ord s ps ys hsc
      have HSC := Lib.hid hsc
      clear hsc
      by_cases hmany : 20000 < ps.length
      · have hmz : (20000 : Int) < (ps.length : Int) := by omega
        gi_wp2_with (first | (gi_at_call 69; (refine (callsIn_wide.2 (c69 _ HT.out)).mono ?_); rintro e w1 ⟨p, rfl, hp, hpl, hb1⟩; have HP := Lib.hid hp; have HB1 := Lib.hid hb1; clear hp hb1) | (gi_at_call 68; (refine (callsIn_wide.2 (c68 H195.out s p w1 HP.out hsz)).mono ?_); rintro e w2 hI; rw [HSC.out] at hI; obtain ⟨g, i, rfl, hg, hS, hb2⟩ := hI; obtain ⟨vo, vc, xs, hScn, hRows⟩ := hS; have ho := hScn.ho; have hgl := hScn.lt; have hoA : ∀ o, (w2.alloc o).cell? ⟨g, 3, none⟩ = some vo := (fun o => by rw [World.cell?_alloc_old _ _ _ (by simp; omega)]; exact ho); obtain ⟨ad, cap, rfl⟩ := row_form hScn.ro))
        refine bodyPostM_ret (v := .tuple #[.slice none 0 0, .int .i64 0, .int .i64 2]) (by simp [results, Tryz.f24, go_sem]) ?_
        unfold tokens
        rw [if_neg hbig'.out, HSC.out]
        simp only []
        rw [if_pos hmany]
        exact ⟨rfl, (HB1.out.trans (hb2.mono HB1.out.size)).alloc (by have := HB1.out.size; have := hb2.size; omega) _⟩
      · have hmz : decide ((20000 : Int) < (ps.length : Int)) = false := by simp; omega
        have hm' := Lib.hid hmany
        clear hmany
        gi_wp2_with (first | (gi_at_call 69; (refine (callsIn_wide.2 (c69 _ HT.out)).mono ?_); rintro e w1 ⟨p, rfl, hp, hpl, hb1⟩; have HP := Lib.hid hp; have HB1 := Lib.hid hb1; clear hp hb1) | (gi_at_call 68; (refine (callsIn_wide.2 (c68 H195.out s p w1 HP.out hsz)).mono ?_); rintro e w2 hI; rw [HSC.out] at hI; obtain ⟨g, i, rfl, hg, hS, hb2⟩ := hI; obtain ⟨vo, vc, xs, hScn, hRows⟩ := hS; have ho := hScn.ho; have hgl := hScn.lt; have hoA : ∀ o, (w2.alloc o).cell? ⟨g, 3, none⟩ = some vo := (fun o => by rw [World.cell?_alloc_old _ _ _ (by simp; omega)]; exact ho); have hro := hScn.ro; have hbk := hScn.blk; obtain ⟨ad, cap, hvo⟩ := row_form hScn.ro; subst hvo; have HRO := Lib.hid hro; have HBK := Lib.hid hbk; have HRW := Lib.hid hRows; have HB2 := Lib.hid hb2; clear hro hbk hRows hb2 hScn) | (gi_at_call 59; (refine (callsIn_wide.2 (c59 _ _)).mono ?_); rintro e w' ⟨rfl, rfl⟩))
        clear hoA ho
        generalize hWa : World.alloc (World.alloc (World.alloc w2 _) _) _ = Wa
        have hza : Wa.heap.size = w2.heap.size + 3 := by rw [← hWa]; simp
        have a0 : Wa.heap[w2.heap.size]? = some (.cells #[.pointer (some ⟨g, 0, none⟩)] 92 (0, 0)) := by rw [← hWa]; exact blk_alloc (blk_alloc (blk_new _ _ rfl _) _) _
        have a1 : Wa.heap[w2.heap.size + 1]? = some (.cells #[.int .i64 0] 3 (0, 0)) := by rw [← hWa]; exact blk_alloc (blk_new _ _ (by simp) _) _
        have a2 : Wa.heap[w2.heap.size + 1 + 1]? = some (.cells #[.string s] 9 (0, 0)) := by rw [← hWa]; exact blk_new _ _ (by simp) _
        have hbwa : Below w2.heap.size w2 Wa := by rw [← hWa]; exact (((Below.refl _ _).alloc (by simp) _).alloc (by simp) _).alloc (by simp; omega) _
        have hbW : Below w.heap.size w Wa := (HB1.out.trans (HB2.out.mono HB1.out.size)).trans (hbwa.mono (by have := HB1.out.size; have := HB2.out.size; omega))
        clear hWa
        have hgb := blk_below hbwa hgl HBK.out
        have hrws := HRW.out
        rcases HRO.out.2 with ⟨hv, hm0⟩ | ⟨b, cap', cur, hv, hbg, hbb, hc1, hc2, hc3, hc4⟩
        · have hps : ps = [] := List.eq_nil_of_length_eq_zero hm0
          subst hps
          injection hv with hv1 hv2 hv3
          subst hv1 hv3
          refine rf_law (by omega) (gf := 95) (lb := #[.pointer (some ⟨w2.heap.size + 1 + 1, 0, none⟩)]) (by rfl) (enters_of Tryz.func95 (by kernel_rfl) rfl)
            (c95 _ _ s hsz (fun r => False) (fun h => h) Wa (fun r h => h.elim) (by rw [cell_of_row _ _ _ _ _ _ a2]; rfl)) (fun _ => rfl)
            (fun r h => h.elim) (fun r h => h.elim)
            (fun _ W => W.heap[w2.heap.size + 1]? = some (.cells #[.int .i64 0] 3 (0, 0)) ∧ W.heap[w2.heap.size]? = some (.cells #[.pointer (some ⟨g, 0, none⟩)] 92 (0, 0)) ∧ W.heap[g]? = some (.cells #[.string s, .int .i64 (i : Int), .pointer (some ⟨p, 0, none⟩), .slice none 0 0, vc] 100 (0, 0)) ∧ Below w.heap.size w W)
            (fun _ _ _ => False) ?hI (fun _ _ _ _ _ h _ _ => h) ⟨a1, a0, hgb, hbW⟩
            (fun _ pre x a W => (W.heap[w2.heap.size + 1]? = some (.cells #[.int .i64 0] 3 (0, 0)) ∧ W.heap[w2.heap.size]? = some (.cells #[.pointer (some ⟨g, 0, none⟩)] 92 (0, 0)) ∧ W.heap[g]? = some (.cells #[.string s, .int .i64 (i : Int), .pointer (some ⟨p, 0, none⟩), .slice none 0 0, vc] 100 (0, 0)) ∧ Below w.heap.size w W) ∧
              ∃ Bx, Wa.heap.size ≤ Bx ∧ W.heap[Bx]? = some (.cells #[.int .i64 (pos s x).1, .int .i64 (pos s x).2] 74 (0, 0)) ∧ a = { tmps := tkTmps s [] (.slice none 0 0) w2.heap.size g p x Bx, defers := [] }) ?hA ?assign ?body ?done (fun _ _ _ _ _ _ h _ => h.elim)
          case hI =>
            rintro pre A A' row ⟨h1, h2, h3, h4⟩ hg hr
            exact ⟨grown_blk hg hr (by omega) h1, grown_blk hg hr (by omega) h2, grown_blk hg hr (by omega) h3, h4.grown hg h4.size (fun k e => by rcases hr k e with h | h; exact h.elim; have := hbW.size; omega)⟩
          case hA =>
            rintro l pre x a' A r o' hl hlr ⟨⟨h1, h2, h3, h4⟩, Bx, hb1, hb2, hb3⟩
            exact ⟨⟨blk_putObj o' hlr h1, blk_putObj o' hlr h2, blk_putObj o' hlr h3, below_putObj o' h4 (by have := hbW.size; omega)⟩, Bx, hb1, blk_putObj o' hlr hb2, hb3⟩
          case assign =>
            rintro l pre x W r hl hlr ⟨h1, h2, h3, h4⟩ hlen _
            have hWl := lt_of_blk hlr
            gi_wp2
            exact ⟨Keep.grown (World.grownBy_alloc W _ none) (fun r e => by cases e), ⟨blk_alloc h1 _, blk_alloc h2 _, blk_alloc h3 _, h4.alloc h4.size _⟩, _, by omega, blk_new _ _ rfl _, rfl⟩
          case body =>
            rintro l pre x a' W r hl hlr ⟨⟨h1, h2, h3, h4⟩, Bx, hbx0, hbx, rfl⟩ hlen _
            clear a0 a1 a2 hgb hrws hbwa hlr
            have k1 : W.cell? ⟨w2.heap.size + 1, 0, none⟩ = some (.int .i64 0) := by rw [cell_of_row _ _ _ _ _ _ h1]; rfl
            have k2 : W.cell? ⟨w2.heap.size, 0, none⟩ = some (.pointer (some ⟨g, 0, none⟩)) := by rw [cell_of_row _ _ _ _ _ _ h2]; rfl
            have k3 : W.cell? ⟨g, 3, none⟩ = some (.slice none 0 0) := by rw [cell_of_row _ _ _ _ _ _ h3]; rfl
            have HH := Lib.hid (And.intro h1 (And.intro h2 (And.intro h3 h4)))
            clear h1 h2 h3 h4 hbx
            unfold tkTmps
            gi_wp2
            refine region_quiet_round (by kernel_rfl) (by kernel_rfl) (by kernel_rfl) (fun _ _ h => h) ?_
            repeat (go_big_quiet_step (fail))
            refine wpQuiet_nil ?_
            intro _ hw'
            obtain ⟨nq, hw''⟩ := hw'
            subst hw''
            gi_wp2
            exact ⟨Keep.grown (grown_drewN W nq) (fun r e => by cases e), HH.out.1, HH.out.2.1, HH.out.2.2.1, HH.out.2.2.2.trans (Dr.below (Dr.here W nq) _)⟩
          case done =>
            rintro D xs' W hD hxs ⟨h1, h2, h3, h4⟩ hK
            have k2 : W.cell? ⟨w2.heap.size, 0, none⟩ = some (.pointer (some ⟨g, 0, none⟩)) := by rw [cell_of_row _ _ _ _ _ _ h2]; rfl
            have k3 : W.cell? ⟨g, 3, none⟩ = some (.slice none 0 0) := by rw [cell_of_row _ _ _ _ _ _ h3]; rfl
            have HK := Lib.hid hK
            have H4 := Lib.hid h4
            clear h1 h2 h3 h4 hK a0 a1 a2 hgb hrws hbwa hxs
            gi_wp2
            refine ⟨by simp, .inl ⟨_, _, rfl, run_takeDeferred HK.out, ?_⟩⟩
            refine ⟨.tuple #[.slice none 0 0, .int .i64 0, .int .i64 0], by simp [results, Tryz.f24, go_sem], ?_, below_putObj _ H4.out (by have := hbW.size; omega)⟩
            unfold tokens
            rw [if_neg hbig'.out, HSC.out]
            exact ⟨_, rfl, TokRow.nil _⟩
        · have hbl := lt_of_blk hbb
          have hbb' := blk_below hbwa hbl hbb
          have HBB0 := Lib.hid hbb
          have HBWA := Lib.hid hbwa
          injection hv with hv1 hv2 hv3
          subst hv1 hv3
          have hne : b ≠ g := by omega
          refine rf_law (by omega) (gf := 95) (lb := #[.pointer (some ⟨w2.heap.size + 1 + 1, 0, none⟩)]) (by rfl) (enters_of Tryz.func95 (by kernel_rfl) rfl)
            (c95 _ _ s hsz (fun r => r = b ∨ r = w2.heap.size + 1) (by omega) Wa (by rintro r (rfl | rfl) <;> omega) (by rw [cell_of_row _ _ _ _ _ _ a2]; rfl)) (fun _ => rfl)
            (fun r h => h.elim) (by rintro r (rfl | rfl) <;> omega)
            (TkI s ps g b cap w2.heap.size w Wa w2) (fun _ _ _ => False) ?hI (fun _ _ _ _ _ h _ _ => h) ⟨a1, a0, ⟨_, _, _, hgb⟩, ⟨cur, hbb', hc3, by rw [hc4]; exact hrws⟩, Keep.refl _ _, hbW⟩
            (fun _ pre x a W => TkI s ps g b cap w2.heap.size w Wa w2 pre W ∧ ∃ Bx, Wa.heap.size ≤ Bx ∧ W.heap[Bx]? = some (.cells #[.int .i64 (pos s x).1, .int .i64 (pos s x).2] 74 (0, 0)) ∧ a = { tmps := tkTmps s ps (.slice (some ⟨b, 0, none⟩) ps.length cap) w2.heap.size g p x Bx, defers := [] }) ?hA ?assign ?body ?done (fun _ _ _ _ _ _ h _ => h.elim)
          case hI =>
            intro pre A A' row h hg hr
            exact h.grown hg (fun r e => by rcases hr r e with h | h; exact h.elim; exact h) (by omega) (by omega) (by omega) hbW.size
          case hA =>
            rintro l pre x a' A r o' hl hlr ⟨h, Bx, h1, h2, h3⟩
            exact ⟨h.grown (grownBy_putObj' A l o') (fun r e => by cases e; exact hl) (by omega) (by omega) (by omega) hbW.size, Bx, h1, blk_putObj o' hlr h2, h3⟩
          case assign =>
            rintro l pre x W r hl hlr h hlen _
            have hWl := lt_of_blk hlr
            gi_wp2
            exact ⟨Keep.grown (World.grownBy_alloc W _ none) (fun r e => by cases e), h.grown (World.grownBy_alloc W _ none) (fun r e => by cases e) (by omega) (by omega) (by omega) hbW.size, _, by omega, blk_new _ _ rfl _, rfl⟩
          case body =>
            rintro l pre x a' W r hl hlr ⟨h, Bx, hbx0, hbx, rfl⟩ hlen _
            clear a0 a1 a2 hgb hrws hbb hbb' hbwa
            have hpl := plS_len s ps pre
            have hsn := plS_snoc s ps pre x
            rcases hq : plS s ps pre with ⟨k, ts⟩
            rw [hq] at hpl hsn
            obtain ⟨i0, tb, vc0, hgg⟩ := h.g
            obtain ⟨cu, hcu, hcs, hrt⟩ := h.r
            have hk := h.k
            rw [hq] at hk hrt
            simp only at hk hrt hpl
            have k1 : W.cell? ⟨w2.heap.size + 1, 0, none⟩ = some (.int .i64 (k : Int)) := by rw [cell_of_row _ _ _ _ _ _ hk]; rfl
            have k2 : W.cell? ⟨w2.heap.size, 0, none⟩ = some (.pointer (some ⟨g, 0, none⟩)) := by rw [cell_of_row _ _ _ _ _ _ h.q]; rfl
            have k3 : W.cell? ⟨g, 3, none⟩ = some (.slice (some ⟨b, 0, none⟩) ps.length cap) := by rw [cell_of_row _ _ _ _ _ _ hgg]; rfl
            have k4 : W.cell? ⟨Bx, 0, none⟩ = some (.int .i64 (pos s x).1) := by rw [cell_of_row _ _ _ _ _ _ hbx]; rfl
            have k5 : W.cell? ⟨Bx, 1, none⟩ = some (.int .i64 (pos s x).2) := by rw [cell_of_row _ _ _ _ _ _ hbx]; rfl
            have kf : ∀ j, W.frozen? ⟨b, j, none⟩ = false := fun j => frozen_of_row _ _ _ _ _ hcu
            have kfk : W.frozen? ⟨w2.heap.size + 1, 0, none⟩ = false := frozen_of_row _ _ _ _ _ hk
            have H := Lib.hid h
            have HK := Lib.hid hk
            have HG := Lib.hid hgg
            have HCU := Lib.hid hcu
            have HCSZ := Lib.hid hcs
            have HRT := Lib.hid hrt
            have HBX := Lib.hid hbx
            have HSN := Lib.hid hsn
            have HQ := Lib.hid hq
            clear h hk hgg hcu hrt hbx hsn hlr hq
            unfold tkTmps
            rcases ht : ts[k]? with _ | t
            · have hkl : ps.length ≤ k := by rw [← hpl]; exact List.getElem?_eq_none_iff.1 ht
              have hkz : decide ((k : Int) < (ps.length : Int)) = false := by simp; omega
              have hkn : ¬ (k < ps.length) := by omega
              have hst : plS s ps (pre ++ [x]) = (k, ts) := by rw [HSN.out]; unfold plStep; simp only [ht]
              have HT' := Lib.hid hst
              clear ht hst
              gi_wp2
              have hS : W.drew.cell? ⟨w2.heap.size + 1, 0, none⟩ = some (.int .i64 (k : Int)) ∧ W.drew.cell? ⟨w2.heap.size, 0, none⟩ = some (.pointer (some ⟨g, 0, none⟩)) ∧ W.drew.cell? ⟨g, 3, none⟩ = some (.slice (some ⟨b, 0, none⟩) ps.length cap) := ⟨k1, k2, k3⟩
              refine region_quiet_round (by kernel_rfl) (by kernel_rfl) (by kernel_rfl) (fun _ _ h => h) ?_
              repeat (go_big_quiet_step (fail))
              refine wpQuiet_nil ?_
              intro _ hw'
              obtain ⟨nq, hw''⟩ := hw'
              subst hw''
              gi_wp2
              exact ⟨Keep.grown (grown_drewN W nq) (fun r e => by cases e), (H.out.grown (grown_drewN W nq) (fun r e => by cases e) (by omega) (by omega) (by omega) hbW.size).same (by rw [HT'.out, HQ.out])⟩
            · have hkn : k < ps.length := by
                rw [← hpl]
                rcases Nat.lt_or_ge k ts.length with h | h
                · exact h
                · rw [List.getElem?_eq_none h] at ht; cases ht
              have hkz : (k : Int) < (ps.length : Int) := by omega
              obtain ⟨dv, hdv, hget⟩ := HRT.out.get k t ht
              have k6 : W.cell? ⟨b, k * 8 + 4, none⟩ = some (.int .i64 (t.at_ : Int)) := by rw [cell_of_row _ _ _ _ _ _ HCU.out]; exact take_get (hget 4 (by omega))
              have k7 : W.cell? ⟨b, k * 8 + 6, none⟩ = some (.int .i64 t.line) := by rw [cell_of_row _ _ _ _ _ _ HCU.out]; exact take_get (hget 6 (by omega))
              have k8 : W.cell? ⟨b, k * 8 + 7, none⟩ = some (.int .i64 t.col) := by rw [cell_of_row _ _ _ _ _ _ HCU.out]; exact take_get (hget 7 (by omega))
              clear hget hdv
              have hS : W.drew.cell? ⟨w2.heap.size + 1, 0, none⟩ = some (.int .i64 (k : Int)) ∧ W.drew.cell? ⟨w2.heap.size, 0, none⟩ = some (.pointer (some ⟨g, 0, none⟩)) ∧ W.drew.cell? ⟨g, 3, none⟩ = some (.slice (some ⟨b, 0, none⟩) ps.length cap) ∧ W.drew.cell? ⟨b, k * 8 + 4, none⟩ = some (.int .i64 (t.at_ : Int)) := ⟨k1, k2, k3, k6⟩
              by_cases hat : t.at_ = x
              · subst hat
                have HT' := Lib.hid ht
                clear ht
                gi_wp2
                refine region_quiet_round (by kernel_rfl) (by kernel_rfl) (by kernel_rfl) (fun _ _ h => h) ?_
                repeat (go_big_quiet_step (fail))
                refine wpQuiet_nil ?_
                intro _ hw'
                obtain ⟨nq, hw''⟩ := hw'
                subst hw''
                gi_wp2
                clear hS
                have hS : W.drew.drew.cell? ⟨w2.heap.size + 1, 0, none⟩ = some (.int .i64 (k : Int)) ∧ W.drew.drew.cell? ⟨w2.heap.size, 0, none⟩ = some (.pointer (some ⟨g, 0, none⟩)) ∧ W.drew.drew.cell? ⟨g, 3, none⟩ = some (.slice (some ⟨b, 0, none⟩) ps.length cap) ∧ W.drew.drew.cell? ⟨Bx, 0, none⟩ = some (.int .i64 (pos s t.at_).1) ∧ W.drew.drew.cell? ⟨Bx, 1, none⟩ = some (.int .i64 (pos s t.at_).2) := ⟨k1, k2, k3, k4, k5⟩
                refine region_round_held (S := fun A => A.cell? ⟨w2.heap.size + 1, 0, none⟩ = some (.int .i64 (k : Int)) ∧ A.cell? ⟨w2.heap.size, 0, none⟩ = some (.pointer (some ⟨g, 0, none⟩)) ∧ A.cell? ⟨g, 3, none⟩ = some (.slice (some ⟨b, 0, none⟩) ps.length cap) ∧ A.cell? ⟨Bx, 0, none⟩ = some (.int .i64 (pos s t.at_).1) ∧ A.cell? ⟨Bx, 1, none⟩ = some (.int .i64 (pos s t.at_).2)) (by kernel_rfl) (by kernel_rfl) (fun _ _ h => h) ?_
                refine takeD (i := 0) (d := 54) (v := _) rfl (by rfl) (by kernel_rfl) (by kernel_rfl) (by kernel_rfl) (fun _ _ _ h => h) (Or.inl ⟨by rfl, by (intro w hSw; obtain ⟨hS1, hS2, hS3, hS4, hS5⟩ := hSw; go_simp; try with_reducible rfl)⟩) hS ?_
                simp only [List.setIfInBounds_toArray, List.set_cons_zero, List.set_cons_succ]
                refine takeD (i := 1) (d := 55) (v := _) rfl (by rfl) (by kernel_rfl) (by kernel_rfl) (by kernel_rfl) (fun _ _ _ h => h) (Or.inl ⟨by rfl, by (intro w hSw; obtain ⟨hS1, hS2, hS3, hS4, hS5⟩ := hSw; go_simp; try with_reducible rfl)⟩) hS ?_
                simp only [List.setIfInBounds_toArray, List.set_cons_zero, List.set_cons_succ]
                refine takeD (i := 2) (d := 56) (v := _) rfl (by rfl) (by kernel_rfl) (by kernel_rfl) (by kernel_rfl) (fun _ _ _ h => h) (Or.inl ⟨by rfl, by (intro w hSw; obtain ⟨hS1, hS2, hS3, hS4, hS5⟩ := hSw; go_simp; try with_reducible rfl)⟩) hS ?_
                simp only [List.setIfInBounds_toArray, List.set_cons_zero, List.set_cons_succ]
                refine takeD (i := 3) (d := 57) (v := _) rfl (by rfl) (by kernel_rfl) (by kernel_rfl) (by kernel_rfl) (fun _ _ _ h => h) (Or.inl ⟨by rfl, by (intro w hSw; obtain ⟨hS1, hS2, hS3, hS4, hS5⟩ := hSw; go_simp; try with_reducible rfl)⟩) hS ?_
                simp only [List.setIfInBounds_toArray, List.set_cons_zero, List.set_cons_succ]
                refine takeD (i := 4) (d := 58) (v := _) rfl (by rfl) (by kernel_rfl) (by kernel_rfl) (by kernel_rfl) (fun _ _ _ h => h) (Or.inl ⟨by rfl, by (intro w hSw; obtain ⟨hS1, hS2, hS3, hS4, hS5⟩ := hSw; go_simp; try with_reducible rfl)⟩) hS ?_
                simp only [List.setIfInBounds_toArray, List.set_cons_zero, List.set_cons_succ]
                refine takeD (i := 5) (d := 59) (v := _) rfl (by rfl) (by kernel_rfl) (by kernel_rfl) (by kernel_rfl) (fun _ _ _ h => h) (Or.inl ⟨by rfl, by (intro w hSw; obtain ⟨hS1, hS2, hS3, hS4, hS5⟩ := hSw; go_simp; try with_reducible rfl)⟩) hS ?_
                simp only [List.setIfInBounds_toArray, List.set_cons_zero, List.set_cons_succ]
                refine takeD (i := 6) (d := 60) (v := _) rfl (by rfl) (by kernel_rfl) (by kernel_rfl) (by kernel_rfl) (fun _ _ _ h => h) (Or.inl ⟨by rfl, by (intro w hSw; obtain ⟨hS1, hS2, hS3, hS4, hS5⟩ := hSw; go_simp; try with_reducible rfl)⟩) hS ?_
                simp only [List.setIfInBounds_toArray, List.set_cons_zero, List.set_cons_succ]
                refine takeD (i := 7) (d := 61) (v := _) rfl (by rfl) (by kernel_rfl) (by kernel_rfl) (by kernel_rfl) (fun _ _ _ h => h) (Or.inl ⟨by rfl, by (intro w hSw; obtain ⟨hS1, hS2, hS3, hS4, hS5⟩ := hSw; go_simp; try with_reducible rfl)⟩) hS ?_
                simp only [List.setIfInBounds_toArray, List.set_cons_zero, List.set_cons_succ]
                refine takeD (i := 8) (d := 62) (v := _) rfl (by rfl) (by kernel_rfl) (by kernel_rfl) (by kernel_rfl) (fun _ _ _ h => h) (Or.inl ⟨by rfl, by (intro w hSw; obtain ⟨hS1, hS2, hS3, hS4, hS5⟩ := hSw; go_simp; try with_reducible rfl)⟩) hS ?_
                simp only [List.setIfInBounds_toArray, List.set_cons_zero, List.set_cons_succ]
                refine takeD (i := 9) (d := 63) (v := _) rfl (by rfl) (by kernel_rfl) (by kernel_rfl) (by kernel_rfl) (fun _ _ _ h => h) (Or.inl ⟨by rfl, by (intro w hSw; obtain ⟨hS1, hS2, hS3, hS4, hS5⟩ := hSw; go_simp; try with_reducible rfl)⟩) hS ?_
                simp only [List.setIfInBounds_toArray, List.set_cons_zero, List.set_cons_succ]
                refine takeD (i := 10) (d := 64) (v := _) rfl (by rfl) (by kernel_rfl) (by kernel_rfl) (by kernel_rfl) (fun _ _ _ h => h) (Or.inl ⟨by rfl, by (intro w hSw; obtain ⟨hS1, hS2, hS3, hS4, hS5⟩ := hSw; go_simp; try with_reducible rfl)⟩) hS ?_
                simp only [List.setIfInBounds_toArray, List.set_cons_zero, List.set_cons_succ]
                refine takeD (i := 11) (d := 65) (v := _) rfl (by rfl) (by kernel_rfl) (by kernel_rfl) (by kernel_rfl) (fun _ _ _ h => h) (Or.inl ⟨by rfl, by (intro w hSw; obtain ⟨hS1, hS2, hS3, hS4, hS5⟩ := hSw; go_simp; try with_reducible rfl)⟩) hS ?_
                simp only [List.setIfInBounds_toArray, List.set_cons_zero, List.set_cons_succ]
                refine takeD (i := 12) (d := 66) (v := _) rfl (by rfl) (by kernel_rfl) (by kernel_rfl) (by kernel_rfl) (fun _ _ _ h => h) (Or.inl ⟨by rfl, by (intro w hSw; obtain ⟨hS1, hS2, hS3, hS4, hS5⟩ := hSw; go_simp; try with_reducible rfl)⟩) hS ?_
                simp only [List.setIfInBounds_toArray, List.set_cons_zero, List.set_cons_succ]
                refine takeD (i := 13) (d := 67) (v := _) rfl (by rfl) (by kernel_rfl) (by kernel_rfl) (by kernel_rfl) (fun _ _ _ h => h) (Or.inl ⟨by rfl, by (intro w hSw; obtain ⟨hS1, hS2, hS3, hS4, hS5⟩ := hSw; go_simp; try with_reducible rfl)⟩) hS ?_
                simp only [List.setIfInBounds_toArray, List.set_cons_zero, List.set_cons_succ]
                refine takeD (i := 14) (d := 68) (v := _) rfl (by rfl) (by kernel_rfl) (by kernel_rfl) (by kernel_rfl) (fun _ _ _ h => h) (Or.inl ⟨by rfl, by (intro w hSw; obtain ⟨hS1, hS2, hS3, hS4, hS5⟩ := hSw; go_simp; try with_reducible rfl)⟩) hS ?_
                simp only [List.setIfInBounds_toArray, List.set_cons_zero, List.set_cons_succ]
                refine takeD (i := 15) (d := 69) (v := _) rfl (by rfl) (by kernel_rfl) (by kernel_rfl) (by kernel_rfl) (fun _ _ _ h => h) (Or.inl ⟨by rfl, by (intro w hSw; obtain ⟨hS1, hS2, hS3, hS4, hS5⟩ := hSw; go_simp; try with_reducible rfl)⟩) hS ?_
                simp only [List.setIfInBounds_toArray, List.set_cons_zero, List.set_cons_succ]
                refine wpAnyH_ready (rs := [16]) (by kernel_rfl) (by simp) (AllReadyH.cons rfl (fun K hK => ?_) AllReadyH.nil)
                go_simp
                refine hK.out _ _ (by obtain ⟨hS1, hS2, hS3, hS4, hS5⟩ := hS; exact ⟨set_cell_other _ (by omega) _ _ hS1, set_cell_other _ (by omega) _ _ hS2, set_cell_other _ (by omega) _ _ hS3, set_cell_other _ (by omega) _ _ hS4, set_cell_other _ (by omega) _ _ hS5⟩) (fun hS => ?_)
                clear hK K
                refine takeD (i := 17) (d := 70) (v := _) rfl (by rfl) (by kernel_rfl) (by kernel_rfl) (by kernel_rfl) (fun _ _ _ h => h) (Or.inl ⟨by rfl, by (intro w hSw; obtain ⟨hS1, hS2, hS3, hS4, hS5⟩ := hSw; go_simp; try with_reducible rfl)⟩) hS ?_
                simp only [List.setIfInBounds_toArray, List.set_cons_zero, List.set_cons_succ]
                refine takeD (i := 18) (d := 71) (v := _) rfl (by rfl) (by kernel_rfl) (by kernel_rfl) (by kernel_rfl) (fun _ _ _ h => h) (Or.inl ⟨by rfl, by (intro w hSw; obtain ⟨hS1, hS2, hS3, hS4, hS5⟩ := hSw; go_simp; try with_reducible rfl)⟩) hS ?_
                simp only [List.setIfInBounds_toArray, List.set_cons_zero, List.set_cons_succ]
                refine wpAnyH_ready (rs := [19]) (by kernel_rfl) (by simp) (AllReadyH.cons rfl (fun K hK => ?_) AllReadyH.nil)
                go_simp
                refine hK.out _ _ (by obtain ⟨hS1, hS2, hS3, hS4, hS5⟩ := hS; exact ⟨set_cell_other _ (by omega) _ _ hS1, set_cell_other _ (by omega) _ _ hS2, set_cell_other _ (by omega) _ _ hS3, set_cell_other _ (by omega) _ _ hS4, set_cell_other _ (by omega) _ _ hS5⟩) (fun hS => ?_)
                clear hK K
                refine wpAnyH_done (by kernel_rfl) ?_ _
                gi_wp2
                have hps : ps.length ≤ 20000 := Nat.not_lt.1 hm'.out
                have qk : wrap64 ((k : Int) + 1) = ((k + 1 : Nat) : Int) := by unfold wrap64; omega
                rw [qk]
                have hst : plS s ps (pre ++ [t.at_]) = (k + 1, ts.set k (t.placedAt (pos s t.at_).1 (pos s t.at_).2)) := by rw [HSN.out]; unfold plStep; simp only [HT'.out, if_true]
                have hbs := HB1.out.size
                have d1 := heap_setCell_same (W.drewN (nq + 1)) b (k * 8 + 6) _ _ (.int .i64 (pos s t.at_).1) HCU.out
                have d2 := heap_setCell_same _ b (k * 8 + 7) _ _ (.int .i64 (pos s t.at_).2) d1
                have d3 := blk_set_other d2 (b := w2.heap.size + 1) (i := 0) (.int .i64 ((k + 1 : Nat) : Int)) (by omega)
                have u := H.out
                refine ⟨⟨by simp, fun q hq hy => ?_⟩, ⟨?_, ?_, ⟨i0, tb, vc0, ?_⟩, ⟨_, d3, by simp [HCSZ.out], ?_⟩, ⟨by simpa using u.y.size, fun q hq hy => ?_⟩, ?_⟩⟩
                · rw [heap_setCell_other _ _ _ _ (by rintro rfl; exact hy (.inr rfl)), heap_setCell_other _ _ _ _ (by rintro rfl; exact hy (.inl rfl)), heap_setCell_other _ _ _ _ (by rintro rfl; exact hy (.inl rfl))]; rfl
                · rw [hst]
                  exact blk_set_same (blk_set_other (blk_set_other (W := W.drewN (nq + 1)) HK.out _ (by omega)) _ (by omega)) _
                · exact blk_set_other (blk_set_other (blk_set_other (W := W.drewN (nq + 1)) u.q _ (by omega)) _ (by omega)) _ (by omega)
                · exact blk_set_other (blk_set_other (blk_set_other (W := W.drewN (nq + 1)) HG.out _ (by omega)) _ (by omega)) _ (by omega)
                · rw [hst, Array.toList_setIfInBounds, Array.toList_setIfInBounds, List.take_set, List.take_set]
                  exact HRT.out.place (pos s t.at_).1 (pos s t.at_).2 k t HT'.out
                · rw [heap_setCell_other _ _ _ _ (by rintro rfl; exact hy (.inr rfl)), heap_setCell_other _ _ _ _ (by rintro rfl; exact hy (.inl rfl)), heap_setCell_other _ _ _ _ (by rintro rfl; exact hy (.inl rfl))]; exact u.y.blk q hq hy
                · exact (((u.w.trans (Dr.below (Dr.here W (nq + 1)) _)).setCell (p := ⟨b, k * 8 + 6, none⟩) (by simp; omega) _).setCell (p := ⟨b, k * 8 + 7, none⟩) (by simp; omega) _).setCell (p := ⟨w2.heap.size + 1, 0, none⟩) (by simp; have := HB2.out.size; omega) _
              · have hst : plS s ps (pre ++ [x]) = (k, ts) := by rw [HSN.out]; unfold plStep; simp only [ht]; rw [if_neg hat]
                have HT' := Lib.hid hst
                have haz : ¬ ((t.at_ : Int) = (x : Int)) := by omega
                clear ht hst
                gi_wp2
                refine region_quiet_round (by kernel_rfl) (by kernel_rfl) (by kernel_rfl) (fun _ _ h => h) ?_
                repeat (go_big_quiet_step (fail))
                refine wpQuiet_nil ?_
                intro _ hw'
                obtain ⟨nq, hw''⟩ := hw'
                subst hw''
                gi_wp2
                exact ⟨Keep.grown (grown_drewN W nq) (fun r e => by cases e), (H.out.grown (grown_drewN W nq) (fun r e => by cases e) (by omega) (by omega) (by omega) hbW.size).same (by rw [HT'.out, HQ.out])⟩
          case done =>
            rintro D xs' W hD rfl h hK
            have hall := plS_all s ps hord
            obtain ⟨i0, tb, vc0, hgg⟩ := h.g
            obtain ⟨cu, hcu, hcs, hrt⟩ := h.r
            have k2 : W.cell? ⟨w2.heap.size, 0, none⟩ = some (.pointer (some ⟨g, 0, none⟩)) := by rw [cell_of_row _ _ _ _ _ _ h.q]; rfl
            have k3 : W.cell? ⟨g, 3, none⟩ = some (.slice (some ⟨b, 0, none⟩) ps.length cap) := by rw [cell_of_row _ _ _ _ _ _ hgg]; rfl
            have H := Lib.hid h
            have HK := Lib.hid hK
            have HCU := Lib.hid hcu
            have HRT := Lib.hid hrt
            have HCSZ := Lib.hid hcs
            have HALL := Lib.hid hall
            clear h hK hcu hrt hcs hall hgg a0 a1 a2 hgb hrws hbb hbb' hbwa
            gi_wp2
            refine ⟨by simp, .inl ⟨_, _, rfl, run_takeDeferred HK.out, ?_⟩⟩
            have hDb : b ≠ D := by omega
            refine ⟨.tuple #[.slice (some ⟨b, 0, none⟩) ps.length cap, .int .i64 0, .int .i64 0], by simp [results, Tryz.f24, go_sem], ?_, below_putObj _ H.out.w (by have := hbW.size; omega)⟩
            unfold tokens
            rw [if_neg hbig'.out, HSC.out]
            simp only []
            rw [if_neg hm'.out]
            refine ⟨_, rfl, cu.toList.take (ps.length * 8), ⟨?_, .inr ⟨b, cap, cu, by rw [List.length_map], Nat.zero_le _, blk_put_other HCU.out _ hDb, by rw [List.length_map]; exact hc1, hc2, HCSZ.out, by rw [List.length_map]⟩⟩, ?_⟩
            · have := HRT.out.len
              rw [plS_len] at this
              rw [this, List.length_map]
            · have hr := HRT.out
              rw [HALL.out] at hr
              refine hr.keep fun q cs hq => ?_
              have hql := lt_of_blk hq
              have hqb : q ≠ b := by
                rintro rfl
                rw [HBB0.out] at hq
                injection hq with hq; injection hq with _ hq; cases hq
              refine blk_put_other ?_ _ (by omega)
              rw [H.out.y.blk q (by omega) (by rintro (h | h) <;> omega)]
              exact blk_below HBWA.out hql hq
end Go.Proofs.YtagcfgoofiibfaaGreatDoor
