/- The lexer and what it reaches: part 20 of 41: N6, N7, N8. -/
import Derived.Test.YtagcfgoofiibfaaGreatDoorG19
set_option linter.unusedVariables false
set_option linter.unusedSimpArgs false
namespace Go.Proofs.YtagcfgoofiibfaaGreatDoor
open Go Go.RowKit

theorem IntsAt.keepP {w w' : World} {P : Nat} {cs : Array Value} {t : TypeId} (ht : t ≠ 3) (hP : w.heap[P]? = some (.cells cs t (0, 0))) (hk : Keep (fun r => r = P) w w') {v : Value} {l : List Int} (h : IntsAt w v l) : IntsAt w' v l := by
  refine ⟨h.1, ?_⟩
  rcases h.2 with h0 | ⟨b, cap, cur, hv, hb, hg, h4⟩
  · exact .inl h0
  · refine .inr ⟨b, cap, cur, hv, hb, ?_, h4⟩
    rw [hk.blk b (lt_of_blk hg) (by rintro rfl; rw [hP] at hg; injection hg with hg; injection hg with _ hg; exact ht hg)]
    exact hg
theorem IntsUp.setLast {B : Nat} {w : World} {gg n cap : Nat} {out : List Int} {y : Int} (h : IntsUp B w (.slice (some ⟨gg, 0, none⟩) n cap) (out ++ [y])) (x : Int) : IntsUp B (w.setCell ⟨gg, out.length, none⟩ (.int .i64 x)) (.slice (some ⟨gg, 0, none⟩) n cap) (out ++ [x]) := by
  rcases h.2 with ⟨h0, _⟩ | ⟨b, cap', cur, hv, hb, hg, hc, hm, hs, ht⟩
  · cases h0
  · injection hv with h1 h2 h3
    injection h1 with h1; injection h1 with h1
    subst h1 h3
    refine ⟨by simp, .inr ⟨gg, cap, cur.setIfInBounds out.length (.int .i64 x), by rw [h2]; simp, hb, heap_setCell_same w gg out.length _ _ _ hg, by simpa using hc, hm, by simpa using hs, ?_⟩⟩
    rw [Array.toList_setIfInBounds]
    have e : (out ++ [x]).length * 1 = (out ++ [y]).length * 1 := by simp
    rw [e, List.take_set, ht]
    simp
theorem IntsUp.cellLast {B : Nat} {w : World} {gg n cap : Nat} {out : List Int} {y : Int} (h : IntsUp B w (.slice (some ⟨gg, 0, none⟩) n cap) (out ++ [y])) : w.cell? ⟨gg, out.length, none⟩ = some (.int .i64 y) ∧ (∀ j, w.frozen? ⟨gg, j, none⟩ = false) ∧ n = out.length + 1 ∧ out.length < cap := by
  rcases h.2 with ⟨h0, _⟩ | ⟨b, cap', cur, hv, hb, hg, hc, hm, hs, ht⟩
  · cases h0
  · injection hv with h1 h2 h3
    injection h1 with h1; injection h1 with h1
    subst h1 h3
    refine ⟨?_, fun j => frozen_of_row _ _ _ _ _ hg, by rw [h2]; simp, by simp at hc; omega⟩
    rw [cell_of_row _ _ _ _ _ _ hg]
    have : (cur.toList.take ((out ++ [y]).length * 1))[out.length]? = some (.int .i64 y) := by rw [ht]; simp
    rw [List.getElem?_take] at this
    split at this
    · rw [← Array.getElem?_toList]; exact this
    · cases this
theorem IntsUp.formS {B : Nat} {w : World} {v : Value} {out : List Int} {y : Int} (h : IntsUp B w v (out ++ [y])) : ∃ gg cap, v = .slice (some ⟨gg, 0, none⟩) (out.length + 1) cap ∧ B ≤ gg ∧ gg < w.heap.size := by
  rcases h.2 with ⟨_, h0⟩ | ⟨b, cap', cur, hv, hb, hg, hc, hm, hs, ht⟩
  · simp at h0
  · exact ⟨b, cap', by rw [hv]; simp, hb, lt_of_blk hg⟩
theorem World.ownsRow_drewN {w : World} {B e size n : Nat} {v : Value} {xs : List Value} (h : w.ownsRow B e size v n xs) (q : Nat) : (w.drewN q).ownsRow B e size v n xs := h
theorem wrap64_small {x : Int} (h0 : 0 ≤ x) (h1 : x < 9223372036854775808) : wrap64 x = x := by unfold wrap64; omega
theorem wrap64_nat {y : Nat} (h1 : y < 9223372036854775808) : wrap64 (y : Int) = (y : Int) := wrap64_small (by omega) (by omega)
theorem Tryz.underlying288 : Tryz.prog.underlying 186 = some (.slice 3) := by kernel_rfl

/-- what add has made -/
structure AddR (w : World) (P : Nat) (out : List Int) (v : Value) (wr : World) : Prop where
  p : wr.heap[P]? = some (.cells #[v] 288 (0, 0))
  r : IntsUp w.heap.size wr v out
  k : Keep (fun r => r = P) w wr
  b : Below P w wr

theorem AddR.push {w wr w1 : World} {P : Nat} {out out2 : List Int} {v v1 v2 : Value} {o : Obj} {row : Option Nat} (h : AddR w P out v wr) (hP : P < w.heap.size) (hg : (wr.alloc o).grownBy w1 row) (hr : ∀ k, row = some k → w.heap.size ≤ k) (hb : w1.heap[P]? = some (.cells #[v1] 288 (0, 0))) (ho : IntsUp w.heap.size w1 v2 out2) : AddR w P out2 v2 (w1.setCell ⟨P, 0, none⟩ v2) := by
  have hs := hg.size
  have hs1 := h.k.size
  simp at hs
  refine ⟨heap_setCell_same _ P 0 _ _ _ hb, ho.set hP _ _, ?_, ?_⟩
  · refine ⟨by simp; omega, fun k hk hy => ?_⟩
    rw [(grown_set w1 P 0 v2).block k (by omega) (fun e => hy (by injection e)), hg.block k (by simp; omega) (fun e => by have := hr k e.symm; omega)]
    simp only [World.alloc]
    rw [Array.getElem?_push_lt (by omega)]
    have := h.k.blk k hk hy
    rw [← this, Array.getElem?_eq_getElem (by omega)]
  · exact ((h.b.alloc (by omega) _).grown hg (by simp; omega) (fun k hk => by have := hr k hk; omega)).setCell (p := ⟨P, 0, none⟩) (Nat.le_refl _) _

theorem carry_div (y c : Nat) (h : y + c < 1000000000000000000) : wrap64 (((y : Int) + (c : Int)).tdiv 1000000000) = (((y + c) / 1000000000 : Nat) : Int) := by
  rw [Int.tdiv_eq_ediv_of_nonneg (by omega)]
  have : ((y : Int) + (c : Int)) / 1000000000 = (((y + c) / 1000000000 : Nat) : Int) := by omega
  rw [this]
  exact wrap64_nat (by omega)
theorem MulTo.over {l : List Int} {b i c2 : Nat} {out2 : List Int} (hb : InB l) (hb9 : b < 1000000000) (h0 : i + 1 = l.length + 1) (h2 : MulTo l b (i + 1) out2 c2) : c2 = 0 := by
  rcases Nat.eq_zero_or_pos c2 with h | h
  · exact h
  · have := h2.len hb hb9 (by omega) h
    omega
theorem AddR.last {w wr : World} {P gg cap : Nat} {out : List Int} {y : Int} (h : AddR w P (out ++ [y]) (.slice (some ⟨gg, 0, none⟩) (out.length + 1) cap) wr) (hP : P < w.heap.size) (hg : w.heap.size ≤ gg) (n : Nat) (x : Int) :
    AddR w P (out ++ [x]) (.slice (some ⟨gg, 0, none⟩) (out.length + 1) cap) ((wr.drewN n).setCell ⟨gg, out.length, none⟩ (.int .i64 x)) := by
  refine ⟨?_, ?_, ?_, ?_⟩
  · rw [heap_setCell_other _ _ _ _ (by simp; omega)]; exact h.p
  · exact IntsUp.setLast (World.ownsRow_drewN h.r n) x
  · refine ⟨by have := h.k.size; simpa using this, fun k hk hy => ?_⟩
    rw [heap_setCell_other _ _ _ _ (by simp; omega)]
    exact h.k.blk k hk hy
  · exact ((h.b.trans (Dr.below (Dr.here wr n) P))).setCell (p := ⟨gg, out.length, none⟩) (by simp; omega) _

set_option maxRecDepth 100000 in
set_option maxHeartbeats 6400000 in
theorem c277 (P : Nat) (v : Value) (l : List Int) (b : Nat) (w : World) (hP : w.heap[P]? = some (.cells #[.slice none 0 0] 288 (0, 0))) (h : IntsAt w v l) (hb : InB l) (hl : l.length ≤ 43) (hb9 : b < 1000000000) :
    Calls Tryz.prog 277 #[.pointer (some ⟨P, 0, none⟩), v, .int .i64 (b : Int), .int .i64 0] w fun e w' => e = .returned (.tuple #[]) ∧ ∃ v' out, AddR w P out v' w' ∧ InB out ∧ numL out = numL l * b ∧ out.length ≤ l.length + 1 := by
  obtain ⟨i0, hi0, hz0, hz1, hz2⟩ := info_parts Tryz.info3
  obtain ⟨a1, cp1, rfl⟩ := row_form h
  have hPl := lt_of_blk hP
  have H := Lib.hid h
  have HP := Lib.hid hP
  clear h hP
  go_enter Tryz.func277, Tryz.ntmps277
  go_wp2
  go_loopw [8, 9] (fun s8 s9 wr => ∃ (i c : Nat) (out : List Int) (v' : Value), i ≤ l.length + 1 ∧ (i = l.length + 1 → c = 0) ∧ s8 = .int .i64 (c : Int) ∧ s9 = .int .i64 (i : Int) ∧ MulTo l b i out c ∧ AddR w P out v' wr)
    (fun _ s9 _ => l.length + 2 - (intOf s9).toNat)
  case atStart => exact ⟨0, 0, [], _, by omega, by omega, rfl, rfl, MulTo.start _ _, ⟨HP.out, World.ownsRow_nil _ _ _ _, Keep.refl _ _, Below.refl _ _⟩⟩
  case round =>
    obtain ⟨i, c, out, v', hi, hic, rfl, rfl, hmul, hadd⟩ := hrel
    have hil : out.length = i := hmul.1
    subst hil
    have hc1 : c < 1000000000 := hmul.2.2.1
    by_cases hgo : out.length < l.length ∨ 0 < c
    · have hi2 : out.length ≤ l.length := by
        rcases hgo with h | h
        · omega
        · rcases Nat.lt_or_ge out.length l.length with h2 | h2
          · omega
          · exact hmul.len hb hb9 h2 h
      obtain ⟨a2, cp2, rfl⟩ := row_form hadd.r
      have hcP : wr.cell? ⟨P, 0, none⟩ = some (.slice a2 out.length cp2) := by rw [cell_of_row _ _ _ _ _ _ hadd.p]; rfl
      have hfP : wr.frozen? ⟨P, 0, none⟩ = false := frozen_of_row _ _ _ _ _ hadd.p
      have MUL := Lib.hid hmul
      have ADD := Lib.hid hadd
      clear hmul hadd
      have hgz : ((out.length : Int) < (l.length : Int)) ∨ (¬ ((out.length : Int) < (l.length : Int)) ∧ (0 : Int) < (c : Int)) := by omega
      rcases hgz with hgz | ⟨hgz, hgc⟩
      all_goals
        go_wp2
        go_loopw [] (fun wr2 => ∃ v2, (AddR w P out v2 wr2 ∨ AddR w P (out ++ [0]) v2 wr2))
          (fun wr2 => out.length + 1 - lenV ((wr2.cell? ⟨P, 0, none⟩).getD undef))
        case atStart => exact ⟨_, .inl ADD.out⟩
        case round =>
          obtain ⟨v2, hv2⟩ := hrel
          clear hcP hfP
          rcases hv2 with hadd | hadd
          · obtain ⟨a2, cp2, rfl⟩ := row_form hadd.r
            have hcP : wr.cell? ⟨P, 0, none⟩ = some (.slice a2 out.length cp2) := by rw [cell_of_row _ _ _ _ _ _ hadd.p]; rfl
            have hfP : wr.frozen? ⟨P, 0, none⟩ = false := frozen_of_row _ _ _ _ _ hadd.p
            have hcmp : (out.length : Int) ≤ (out.length : Int) := by omega
            have hbs := hadd.k.size
            have HPL := Lib.hid hPl
            have ADD2 := Lib.hid hadd
            clear hadd
            go_wp2_with (at_builtin; refine wpList_append_lies _ rfl _ _ _ rfl w.heap.size 3 i0 _ 1 8 Tryz.underlying186 hi0 hz0 hz1 hz2 rfl (by omega) _ out.length (out.map (Value.int .i64)) rfl ((ADD2.out.r).alloc _) ⟨wr.heap.size, 0, none⟩ 1 1 [.int .i64 0] rfl rfl (World.news_of_block (cs := #[.int .i64 0]) (t := 3) (fr := (0, 0)) (heap_alloc_new _ _)) (by simp [Value.oneCell']) (by omega) (by unfold maxLen; omega) (by omega) (by simp; omega) _ rfl ?_; intro gg cap1 w1 hown1 hgrow hat hlt1; have hb1 : w1.heap[P]? = some (.cells #[.slice a2 out.length cp2] 288 (0, 0)) := (by rw [World.grownBy.block hgrow P (by simp; have := HPL.out; omega) (fun e => by have := ADD2.out.r.lt _ e.symm; have := HPL.out; omega)]; exact blk_alloc ADD2.out.p _); have kf : w1.frozen? ⟨P, 0, none⟩ = false := frozen_of_row _ _ _ _ _ hb1; have kc : w1.cell? ⟨P, 0, none⟩ = some (.slice a2 out.length cp2) := (by rw [cell_of_row _ _ _ _ _ _ hb1]; rfl); have HB1 := Lib.hid hb1; clear hb1)
            have hgrow' : (wr.alloc (.cells #[.int .i64 0] 3)).grownBy w1 _ := hgrow
            go_roundw
            case rel =>
              refine ⟨_, .inr (ADD2.out.push HPL.out hgrow' (fun k hk => (ADD2.out.r.lt k hk).1) HB1.out ?_)⟩
              show World.ownsRow _ _ _ _ _ _ _
              simpa using hown1
            case measure =>
              rw [hcP, cell_of_row _ _ _ _ _ _ (heap_setCell_same _ P 0 _ _ _ HB1.out)]
              simp [lenV]
          · obtain ⟨gg, cp2, rfl, hgg, hgl⟩ := hadd.r.formS
            have hcP : wr.cell? ⟨P, 0, none⟩ = some (.slice (some ⟨gg, 0, none⟩) (out.length + 1) cp2) := by rw [cell_of_row _ _ _ _ _ _ hadd.p]; rfl
            have hfP : wr.frozen? ⟨P, 0, none⟩ = false := frozen_of_row _ _ _ _ _ hadd.p
            obtain ⟨hcL, hfL, _, hcap⟩ := hadd.r.cellLast
            have hcmp : ¬ ((out.length : Int) + 1 ≤ (out.length : Int)) := by omega
            have hbs := hadd.k.size
            have HID : Hid (∀ n, IntsAt (wr.drewN n) (.slice a1 l.length cp1) l) := Lib.hid (fun n => World.ownsRow_drewN ((H.out).keepP (by decide) HP.out hadd.k) n)
            have p1 := atL_in l out.length hb
            have p2 : (atL l out.length).toNat * b + c < 1000000000000000000 := mul_bd (atL l out.length).toNat b c (by omega) hb9 hc1
            obtain ⟨y, hy⟩ : ∃ y : Nat, (atL l out.length).toNat * b = y := ⟨_, rfl⟩
            have hst := MUL.out.step hb hb9
            rw [hy] at p2 hst
            have hyi : atL l out.length * (b : Int) = (y : Int) := by
              rw [← hy]
              simp only [Int.natCast_mul]
              rw [Int.toNat_of_nonneg p1.1]
            have q1 : wrap64 (atL l out.length * (b : Int)) = (y : Int) := by rw [hyi]; exact wrap64_small (by omega) (by omega)
            have q2 : wrap64 ((y : Int) + (c : Int)) = (y : Int) + (c : Int) := wrap64_small (by omega) (by omega)
            have q4 : y < 1000000000000000000 := Nat.lt_of_le_of_lt (Nat.le_add_right y c) p2
            have q3 : wrap64 (y : Int) = (y : Int) := wrap64_nat (Nat.lt_trans q4 (by decide))
            have HPL := Lib.hid hPl
            have ADD2 := Lib.hid hadd
            have ST := Lib.hid hst
            have hol : out.length ≤ 1099511627776 := by clear p2 q1 q2 q3 q4 hy hyi; omega
            have P2 := Lib.hid p2
            have HS := Lib.hid (And.intro hbs (And.intro hgg (And.intro hgl hcap)))
            have HG := Lib.hid hgo
            have HIC := Lib.hid hic
            clear p1 p2 q4 hbs hgg hgl hcap hgo hic
            clear hadd hPl hst hy hyi
            go_wp2
            go_quiet ((go_at_call 276; exact quiet_eq (c276 _ l out.length _ (HID.out _) hol)))
            go_wp2
            go_roundw
            case rel =>
              have P2' := P2.out
              obtain ⟨hbs, hgg, hgl, hcap⟩ := HS.out
              have e2 : wrap64 (((y : Int) + (c : Int)).tdiv 1000000000) = (((y + c) / 1000000000 : Nat) : Int) := carry_div y c P2'
              have e1 : (((y + c) % 1000000000 : Nat) : Int) = ((y : Int) + (c : Int)) % 1000000000 := by omega
              refine ⟨out.length + 1, (y + c) / 1000000000, _, _, by omega, ?_, by rw [e2], by simp, ?_, ADD2.out.last HPL.out hgg nq _⟩
              · intro h0
                exact MulTo.over hb hb9 h0 ST.out
              · rw [← e1]; exact ST.out
            case measure =>
              clear P2 HS
              simp [intOf]; omega
    · have hz1 : ¬ ((out.length : Int) < (l.length : Int)) := by omega
      have hz2' : ¬ ((0 : Int) < (c : Int)) := by omega
      obtain rfl : c = 0 := by omega
      have hd := hmul.done (by omega)
      clear hmul
      go_wp2
      go_end0
      exact ⟨rfl, v', out, hadd, hd.1, hd.2, by omega⟩
end Go.Proofs.YtagcfgoofiibfaaGreatDoor
namespace Go.Proofs.YtagcfgoofiibfaaGreatDoor
open Go Go.RowKit

set_option maxRecDepth 100000 in
set_option maxHeartbeats 3200000 in
theorem c273 (v1 v2 : Value) (l1 : List Int) (d : Nat) (w : World) (h1 : IntsAt w v1 l1) (h2 : IntsAt w v2 [(d : Int)]) (hb1 : InB l1) (hl1 : l1.length ≤ 43) (hd : d < 1000000000) :
    Calls Tryz.prog 273 #[v1, v2] w fun e w' => ∃ v out, e = .returned v ∧ IntsAt w' v out ∧ trimL out = out ∧ InB out ∧ numL out = numL l1 * d ∧ out.length ≤ 44 ∧ Below w.heap.size w w' := by
  rcases h2.form with ⟨_, h0⟩ | ⟨g, cap, rfl, hc, hm, hg, hx⟩
  · cases h0
  have hx0 := hx 0 (by simp)
  obtain ⟨a1, cp1, rfl⟩ := row_form h1
  have H1 := Lib.hid h1
  have H2 := Lib.hid h2
  simp only [atL, List.getD_cons_zero] at hx0
  clear h1 h2 hx
  have hP : (w.alloc (Obj.cells #[Value.slice none 0 0] 288)).heap[w.heap.size]? = some (.cells #[.slice none 0 0] 288 (0, 0)) := blk_new w _ rfl _
  go_enter Tryz.func273, Tryz.ntmps273
  go_wp2
  clear hP
  go_loopw [12] (fun s12 wr => (s12 = .int .i64 0 ∧ wr = w.alloc (Obj.cells #[Value.slice none 0 0] 288)) ∨ (s12 = .int .i64 1 ∧ ∃ v' out, AddR (w.alloc (Obj.cells #[Value.slice none 0 0] 288)) w.heap.size out v' wr ∧ InB out ∧ numL out = numL l1 * d ∧ out.length ≤ l1.length + 1))
    (fun s12 _ => 1 - (intOf s12).toNat)
  case atStart => exact .inl ⟨rfl, rfl⟩
  case round =>
    rcases hrel with ⟨rfl, rfl⟩ | ⟨rfl, v', out, hadd, ho1, ho2, ho3⟩
    · go_wp2_with (go_at_call 277; (with_reducible refine (c277 w.heap.size _ l1 d _ (blk_new w _ rfl _) ((H1.out).alloc _) hb1 hl1 hd).mono ?_); rintro e w' ⟨rfl, v', out, hadd, ho1, ho2, ho3⟩)
      go_roundw
      case rel => exact .inr ⟨rfl, v', out, hadd, ho1, ho2, ho3⟩
      case measure => simp [intOf]
    · obtain ⟨a2, cp2, rfl⟩ := row_form hadd.r
      have hcP : wr.cell? ⟨w.heap.size, 0, none⟩ = some (.slice a2 out.length cp2) := by rw [cell_of_row _ _ _ _ _ _ hadd.p]; rfl
      have ADD := Lib.hid hadd
      clear hadd
      go_wp2_with (go_at_call 250; (with_reducible refine (c250 _ out _ (ADD.out.r.ints)).mono ?_); rintro e w' ⟨v3, rfl, h3, rfl⟩)
      go_ret
      refine ⟨_, _, rfl, h3, ?_, trimL_inB _ ho1, by rw [trimL_num]; exact ho2, by have := trimL_len out; omega, ?_⟩
      · exact trimL_done _ (trimL_noZ _)
      · exact ((Below.refl _ _).alloc (Nat.le_refl _) _).trans ADD.out.b
end Go.Proofs.YtagcfgoofiibfaaGreatDoor
namespace Go.Proofs.YtagcfgoofiibfaaGreatDoor
open Go Go.RowKit

/-- two numbers in their boxes, and a place for the third -/
structure Boxes (w : World) (d1 d2 : Value) (l1 l2 : List Int) (w0 : World) : Prop where
  c10 : w0.cell? ⟨w.heap.size, 0, none⟩ = some (.bool false)
  c11 : w0.cell? ⟨w.heap.size, 1, none⟩ = some d1
  c20 : w0.cell? ⟨w.heap.size + 1, 0, none⟩ = some (.bool false)
  c21 : w0.cell? ⟨w.heap.size + 1, 1, none⟩ = some d2
  b3 : w0.heap[w.heap.size + 2]? = some (.cells #[.bool false, .slice none 0 0] 39 (0, 0))
  i1 : IntsAt w0 d1 l1
  i2 : IntsAt w0 d2 l2
  b : Below w.heap.size w w0
theorem Boxes.start {w : World} {d1 d2 : Value} {l1 l2 : List Int} (h1 : IntsAt w d1 l1) (h2 : IntsAt w d2 l2) : Boxes w d1 d2 l1 l2 (((w.alloc (Obj.cells #[Value.bool false, d1] 39)).alloc (Obj.cells #[Value.bool false, d2] 39)).alloc (Obj.cells #[Value.bool false, Value.slice none 0 0] 39)) := by
  have b1 : (((w.alloc (Obj.cells #[Value.bool false, d1] 39)).alloc (Obj.cells #[Value.bool false, d2] 39)).alloc (Obj.cells #[Value.bool false, Value.slice none 0 0] 39)).heap[w.heap.size]? = some (.cells #[.bool false, d1] 39 (0, 0)) := blk_alloc (blk_alloc (blk_new w _ rfl _) _) _
  have b2 : (((w.alloc (Obj.cells #[Value.bool false, d1] 39)).alloc (Obj.cells #[Value.bool false, d2] 39)).alloc (Obj.cells #[Value.bool false, Value.slice none 0 0] 39)).heap[w.heap.size + 1]? = some (.cells #[.bool false, d2] 39 (0, 0)) := blk_alloc (blk_new _ _ (by simp) _) _
  refine ⟨?_, ?_, ?_, ?_, blk_new _ _ (by simp) _, ((h1.alloc _).alloc _).alloc _, ((h2.alloc _).alloc _).alloc _, (((Below.refl _ _).alloc (Nat.le_refl _) _).alloc (by simp) _).alloc (by simp; omega) _⟩
  · rw [cell_of_row _ _ _ _ _ _ b1]; rfl
  · rw [cell_of_row _ _ _ _ _ _ b1]; rfl
  · rw [cell_of_row _ _ _ _ _ _ b2]; rfl
  · rw [cell_of_row _ _ _ _ _ _ b2]; rfl
theorem Boxes.below {w w0 w1 : World} {d1 d2 : Value} {l1 l2 : List Int} (h : Boxes w d1 d2 l1 l2 w0) (hb : Below w0.heap.size w0 w1) : Boxes w d1 d2 l1 l2 w1 := by
  have hs := lt_of_blk h.b3
  refine ⟨hb.cell (by show w.heap.size < _; omega) |>.trans h.c10, hb.cell (by show w.heap.size < _; omega) |>.trans h.c11, hb.cell (by show w.heap.size + 1 < _; omega) |>.trans h.c20, hb.cell (by show w.heap.size + 1 < _; omega) |>.trans h.c21, (hb.block _ hs).trans h.b3, h.i1.below hb, h.i2.below hb, h.b.trans (hb.mono (by omega))⟩
theorem Boxes.drew {w w0 : World} {d1 d2 : Value} {l1 l2 : List Int} (h : Boxes w d1 d2 l1 l2 w0) : Boxes w d1 d2 l1 l2 w0.drew := h.below (Dr.below (Dr.here w0 1) _)
/-- the cells that a region reads -/
theorem Boxes.cells {w w0 : World} {d1 d2 : Value} {l1 l2 : List Int} (h : Boxes w d1 d2 l1 l2 w0) : w0.cell? ⟨w.heap.size, 0, none⟩ = some (.bool false) ∧ w0.cell? ⟨w.heap.size, 1, none⟩ = some d1 ∧ w0.cell? ⟨w.heap.size + 1, 0, none⟩ = some (.bool false) ∧ w0.cell? ⟨w.heap.size + 1, 1, none⟩ = some d2 := ⟨h.c10, h.c11, h.c20, h.c21⟩

theorem Boxes.cellsSet {w w0 : World} {d1 d2 : Value} {l1 l2 : List Int} (h : Boxes w d1 d2 l1 l2 w0) (u v : Value) : let w1 := (w0.setCell ⟨w.heap.size + 1 + 1, 0, none⟩ u).setCell ⟨w.heap.size + 1 + 1, 1, none⟩ v
    w1.cell? ⟨w.heap.size, 0, none⟩ = some (.bool false) ∧ w1.cell? ⟨w.heap.size, 1, none⟩ = some d1 ∧ w1.cell? ⟨w.heap.size + 1, 0, none⟩ = some (.bool false) ∧ w1.cell? ⟨w.heap.size + 1, 1, none⟩ = some d2 := by
  intro w1
  have n1 : w.heap.size + 1 + 1 ≠ w.heap.size := by omega
  have n2 : w.heap.size + 1 + 1 ≠ w.heap.size + 1 := by omega
  refine ⟨?_, ?_, ?_, ?_⟩
  · simp only [w1]; rw [World.cell?_setCell_far _ _ _ _ n1, World.cell?_setCell_far _ _ _ _ n1]; exact h.c10
  · simp only [w1]; rw [World.cell?_setCell_far _ _ _ _ n1, World.cell?_setCell_far _ _ _ _ n1]; exact h.c11
  · simp only [w1]; rw [World.cell?_setCell_far _ _ _ _ n2, World.cell?_setCell_far _ _ _ _ n2]; exact h.c20
  · simp only [w1]; rw [World.cell?_setCell_far _ _ _ _ n2, World.cell?_setCell_far _ _ _ _ n2]; exact h.c21
theorem IntsUp.setT {B : Nat} {w : World} {v : Value} {l : List Int} (h : IntsUp B w v l) {b : Nat} {cs : Array Value} {t : TypeId} (hb : w.heap[b]? = some (.cells cs t (0, 0))) (ht : t ≠ 3) (i : Nat) (u : Value) : IntsUp B (w.setCell ⟨b, i, none⟩ u) v l := by
  rcases h.2 with h0 | ⟨g, cap, cur, hv, hg0, hg, h4⟩
  · exact ⟨h.1, .inl h0⟩
  · refine ⟨h.1, .inr ⟨g, cap, cur, hv, hg0, ?_, h4⟩⟩
    have hne : g ≠ b := by
      rintro rfl
      rw [hg] at hb
      injection hb with hb
      injection hb with _ hb
      exact ht hb.symm
    rw [heap_setCell_other _ _ _ _ hne]
    exact hg
/-- the third one laid -/
theorem Boxes.third {B : Nat} {w w0 : World} {d1 d2 dv : Value} {l1 l2 l : List Int} (h : Boxes w d1 d2 l1 l2 w0) (hd : IntsUp B w0 dv l) : IntsUp B ((w0.setCell ⟨w.heap.size + 1 + 1, 0, none⟩ (.bool false)).setCell ⟨w.heap.size + 1 + 1, 1, none⟩ dv) dv l ∧ Below w.heap.size w ((w0.setCell ⟨w.heap.size + 1 + 1, 0, none⟩ (.bool false)).setCell ⟨w.heap.size + 1 + 1, 1, none⟩ dv) := by
  refine ⟨?_, (h.b.setCell (p := ⟨w.heap.size + 1 + 1, 0, none⟩) (by show w.heap.size ≤ w.heap.size + 1 + 1; omega) _).setCell (p := ⟨w.heap.size + 1 + 1, 1, none⟩) (by show w.heap.size ≤ w.heap.size + 1 + 1; omega) _⟩
  exact (hd.setT (b := w.heap.size + 1 + 1) h.b3 (by decide) 0 _).setT (heap_setCell_same _ (w.heap.size + 1 + 1) 0 _ _ _ h.b3) (by decide) 1 _

set_option maxRecDepth 100000 in
set_option maxHeartbeats 3200000 in
theorem c264 (dv1 dv2 : Value) (l1 : List Int) (d : Nat) (w : World) (h1 : IntsAt w dv1 l1) (h2 : IntsAt w dv2 [(d : Int)]) (hb1 : InB l1) (hl1 : l1.length ≤ 43) (hd : d < 1000000000) :
    Calls Tryz.prog 264 #[.agg #[.bool false, dv1], .agg #[.bool false, dv2]] w fun e w' => ∃ dv, e = .returned (.agg #[.bool false, dv]) ∧ IntsUp w.heap.size w' dv (limbs (numL l1 * d)) ∧ Below w.heap.size w w' := by
  obtain ⟨a1, cp1, rfl⟩ := row_form h1
  obtain ⟨a2, cp2, rfl⟩ := row_form h2
  have hB := Boxes.start h1 h2
  simp only [List.length_cons, List.length_nil, Nat.zero_add] at hB
  go_enter Tryz.func264, Tryz.ntmps264
  go_wp2
  clear h1 h2
  generalize ((w.alloc (Obj.cells #[Value.bool false, Value.slice a1 l1.length cp1] 39)).alloc (Obj.cells #[Value.bool false, Value.slice a2 1 cp2] 39)).alloc (Obj.cells #[Value.bool false, Value.slice none 0 0] 39) = w0 at hB
  have hc := hB.cells
  have HB := Lib.hid hB
  clear hB
  go_region_held3 (fun w' => w'.cell? ⟨w.heap.size, 0, none⟩ = some (.bool false) ∧ w'.cell? ⟨w.heap.size, 1, none⟩ = some (.slice a1 l1.length cp1) ∧ w'.cell? ⟨w.heap.size + 1, 0, none⟩ = some (.bool false) ∧ w'.cell? ⟨w.heap.size + 1, 1, none⟩ = some (.slice a2 1 cp2)) (first | exact hc | exact HB.out.cells | exact HB.out.cellsSet _ _)
    (first
      | (go_at_call 172; ((with_reducible refine (c172 false (.slice a1 l1.length cp1) _).mono ?_); rintro e w' ⟨rfl, hbb⟩; have HB : Hid (Boxes w (.slice a1 l1.length cp1) (.slice a2 1 cp2) l1 [(d : Int)] w') := Lib.hid (by first | exact HB.out.drew.below hbb | exact HB.out.below hbb); clear hbb))
      | (go_at_call 172; ((with_reducible refine (c172 false (.slice a2 1 cp2) _).mono ?_); rintro e w' ⟨rfl, hbb⟩; have HB := Lib.hid (HB.out.below hbb); clear hbb))
      | (go_at_call 273; ((with_reducible refine (c273 (.slice a1 l1.length cp1) (.slice a2 1 cp2) l1 d _ HB.out.i1 HB.out.i2 hb1 hl1 hd).mono ?_); rintro e w' ⟨v3, out, rfl, h3, ho0, ho1, ho2, ho3, hbb⟩; have HB := Lib.hid (HB.out.below hbb); clear hbb; obtain ⟨a3, cp3, rfl⟩ := row_form h3; have H3 := Lib.hid h3; clear h3 ho0))
      | (go_at_call 238; ((with_reducible refine (c238 (.slice a3 out.length cp3) out _ H3.out ho1 (by omega)).mono ?_); rintro e w' ⟨dv, rfl, h4, hbb⟩; replace h4 := h4.le HB.out.b.size; have HB := Lib.hid (HB.out.below hbb); clear hbb; rw [ho2] at h4; obtain ⟨a4, cp4, rfl⟩ := row_form h4; have H4 := Lib.hid h4; clear h4; have kb := HB.out.b3; have kc0 : w'.cell? ⟨w.heap.size + 1 + 1, 0, none⟩ = some (.bool false) := (by rw [cell_of_row _ _ _ _ _ _ kb]; rfl); have kc1 : w'.cell? ⟨w.heap.size + 1 + 1, 1, none⟩ = some (.slice none 0 0) := (by rw [cell_of_row _ _ _ _ _ _ kb]; rfl); have kf : ∀ j, w'.frozen? ⟨w.heap.size + 1 + 1, j, none⟩ = false := (fun j => frozen_of_row _ _ _ _ _ kb); clear kb)))
  have h3 := HB.out.third H4.out
  clear hc
  go_wp2
  refine bodyPost_ret (v := .agg #[.bool false, .slice a4 (limbs (numL l1 * d)).length cp4]) (by simp [results, Tryz.results264, go_sem, kc0, kc1]) rfl ?_
  exact ⟨_, rfl, h3⟩
set_option maxRecDepth 100000 in
set_option maxHeartbeats 3200000 in
theorem c261 (dv1 dv2 : Value) (l1 l2 : List Int) (w : World) (h1 : IntsAt w dv1 l1) (h2 : IntsAt w dv2 l2) (hb1 : InB l1) (hb2 : InB l2) (hl1 : l1.length ≤ 44) (hl2 : l2.length ≤ 44) :
    Calls Tryz.prog 261 #[.agg #[.bool false, dv1], .agg #[.bool false, dv2]] w fun e w' => ∃ dv, e = .returned (.agg #[.bool false, dv]) ∧ IntsUp w.heap.size w' dv (limbs (numL l1 + numL l2)) ∧ Below w.heap.size w w' := by
  obtain ⟨a1, cp1, rfl⟩ := row_form h1
  obtain ⟨a2, cp2, rfl⟩ := row_form h2
  have hB := Boxes.start h1 h2
  go_enter Tryz.func261, Tryz.ntmps261
  go_wp2_with fail
  clear h1 h2
  generalize ((w.alloc (Obj.cells #[Value.bool false, Value.slice a1 l1.length cp1] 39)).alloc (Obj.cells #[Value.bool false, Value.slice a2 l2.length cp2] 39)).alloc (Obj.cells #[Value.bool false, Value.slice none 0 0] 39) = w0 at hB
  have hc := hB.cells
  have HB := Lib.hid hB
  clear hB
  obtain ⟨hc1, hc2, hc3, hc4⟩ := hc
  go_wp2
  have hc := HB.out.cells
  go_region_held3 (fun w' => w'.cell? ⟨w.heap.size, 0, none⟩ = some (.bool false) ∧ w'.cell? ⟨w.heap.size, 1, none⟩ = some (.slice a1 l1.length cp1) ∧ w'.cell? ⟨w.heap.size + 1, 0, none⟩ = some (.bool false) ∧ w'.cell? ⟨w.heap.size + 1, 1, none⟩ = some (.slice a2 l2.length cp2)) (first | exact hc | exact HB.out.cells | exact HB.out.cellsSet _ _)
    (first
      | (go_at_call 172; ((with_reducible refine (c172 false (.slice a1 l1.length cp1) _).mono ?_); rintro e w' ⟨rfl, hbb⟩; have HB : Hid (Boxes w (.slice a1 l1.length cp1) (.slice a2 l2.length cp2) l1 l2 w') := Lib.hid (by first | exact HB.out.drew.below hbb | exact HB.out.below hbb); clear hbb))
      | (go_at_call 172; ((with_reducible refine (c172 false (.slice a2 l2.length cp2) _).mono ?_); rintro e w' ⟨rfl, hbb⟩; have HB := Lib.hid (HB.out.below hbb); clear hbb))
      | (go_at_call 271; ((with_reducible refine (c271 (.slice a1 l1.length cp1) (.slice a2 l2.length cp2) l1 l2 _ HB.out.i1 HB.out.i2 hb1 hb2 hl1 hl2).mono ?_); rintro e w' ⟨v3, out, rfl, h3, ho1, ho2, ho3, hbb⟩; have HB := Lib.hid (HB.out.below hbb); clear hbb; obtain ⟨a3, cp3, rfl⟩ := row_form h3; have H3 := Lib.hid h3; clear h3))
      | (go_at_call 238; ((with_reducible refine (c238 (.slice a3 out.length cp3) out _ H3.out.ints ho1 (by omega)).mono ?_); rintro e w' ⟨dv, rfl, h4, hbb⟩; replace h4 := h4.le HB.out.b.size; have HB := Lib.hid (HB.out.below hbb); clear hbb; rw [ho2] at h4; obtain ⟨a4, cp4, rfl⟩ := row_form h4; have H4 := Lib.hid h4; clear h4; have kb := HB.out.b3; have kc0 : w'.cell? ⟨w.heap.size + 1 + 1, 0, none⟩ = some (.bool false) := (by rw [cell_of_row _ _ _ _ _ _ kb]; rfl); have kc1 : w'.cell? ⟨w.heap.size + 1 + 1, 1, none⟩ = some (.slice none 0 0) := (by rw [cell_of_row _ _ _ _ _ _ kb]; rfl); have kf : ∀ j, w'.frozen? ⟨w.heap.size + 1 + 1, j, none⟩ = false := (fun j => frozen_of_row _ _ _ _ _ kb); clear kb)))
  have h3 := HB.out.third H4.out
  clear hc
  go_wp2
  refine bodyPost_ret (v := .agg #[.bool false, .slice a4 (limbs (numL l1 + numL l2)).length cp4]) (by simp [results, Tryz.results261, go_sem, kc0, kc1]) rfl ?_
  exact ⟨_, rfl, h3⟩
end Go.Proofs.YtagcfgoofiibfaaGreatDoor
