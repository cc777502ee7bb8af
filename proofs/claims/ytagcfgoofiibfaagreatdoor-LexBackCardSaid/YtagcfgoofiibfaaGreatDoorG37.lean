/- The lexer and what it reaches: part 37 of 41: X2, Y0, Y1. -/
import Derived.Test.YtagcfgoofiibfaaGreatDoorG33
import Derived.Test.YtagcfgoofiibfaaGreatDoorG36
set_option linter.unusedVariables false
set_option linter.unusedSimpArgs false
namespace Go.Proofs.YtagcfgoofiibfaaGreatDoor
open Go Go.RowKit

def JoinTo (r : Option (List UInt8)) (w : World) (e : Ending) (w' : World) : Prop :=
  (match r with
   | some t => e = .returned (.tuple #[.string ⟨t.toArray⟩, .int .i64 0])
   | none => e = .returned (.tuple #[.string ByteArray.empty, .int .i64 2])) ∧ Below w.heap.size w w'

set_option maxRecDepth 100000 in
set_option maxHeartbeats 6400000 in
theorem c23 (h24 : C24) (h68 : C68) (v : Value) (ts : List Tk) (w : World) (hT : TI w) (hr : TokRow w v ts) (hv : ∀ t ∈ ts, ValidNS t) : Calls Tryz.prog 23 #[v] w (JoinTo (joinF ts) w) := by
  have hck := c61 h24 v ts w hT hr hv
  obtain ⟨a0, cp0, rfl, hm0, hc0⟩ := hr.shape
  have CK := Lib.hid hck
  obtain ⟨i0, hi0, hz0, hz1, hz2⟩ := info_parts Tryz.info3
  have HR := Lib.hid hr
  have HV := Lib.hid hv
  have H68 := Lib.hid h68
  obtain ⟨r, hrj⟩ : ∃ r, joinF ts = r := ⟨_, rfl⟩
  rw [hrj]
  unfold joinF at hrj
  clear hck hr hv h68 h24 hT
  by_cases hbig : 20000 < ts.length
  · rw [if_pos hbig] at hrj
    subst hrj
    have hbz : (20000 : Int) < (ts.length : Int) := by omega
    go_enter Tryz.func23, Tryz.ntmps23
    go_wp2_with (go_at_call 61; ((with_reducible refine CK.out.mono ?_); rintro e w1 ⟨p, rfl, hp, hb1⟩; have HB1 := Lib.hid hb1; clear hb1 hp))
    go_ret2
    exact ⟨rfl, HB1.out⟩
  · rw [if_neg hbig] at hrj
    have HRJ := Lib.hid hrj
    have hbz : ¬ ((20000 : Int) < (ts.length : Int)) := by omega
    clear hrj
    go_enter Tryz.func23, Tryz.ntmps23
    go_wp2_with (go_at_call 61; ((with_reducible refine CK.out.mono ?_); rintro e w1 ⟨p, rfl, hp, hb1⟩; have HB1 := Lib.hid hb1; have HP := Lib.hid hp; clear hb1 hp))
    go_loopw [7, 8, 26] (fun s7 s8 s26 wr => ∃ (i : Nat) (t : List UInt8) (g : List Nat) (f : Nat), i ≤ ts.length ∧ s26 = .int .i64 (i : Int) ∧ s8 = .int .i64 (f : Int) ∧ JW w1 w1.heap.size t g s7 wr ∧ JS.Ok ⟨t, g, f⟩ i ∧ joinGo ts (ts.length - i) i ⟨t, g, f⟩ = r)
      (fun _ _ s26 _ => ts.length - (intOf s26).toNat)
    case atStart =>
      refine ⟨0, [], [], 0, Nat.zero_le _, rfl, rfl, ⟨.inl ⟨Nat.le_refl _, _, blk_new _ _ rfl _, ⟨rfl, .inl ⟨rfl, rfl⟩⟩, by intro h; cases h⟩, World.ownsRow_nil _ _ _ _, (Below.refl _ _).alloc (Nat.le_refl _) _⟩, ⟨rfl, by omega, by simp, by simp⟩, HRJ.out⟩
    case round =>
      obtain ⟨i, t, g, f, hi, rfl, rfl, hJ, hok, hgo⟩ := hrel
      have HJ := Lib.hid hJ
      have HOK := Lib.hid hok
      have HGO := Lib.hid hgo
      have hW : Below w.heap.size w wr := HB1.out.trans (hJ.bel.mono HB1.out.size)
      have HW := Lib.hid hW
      obtain ⟨ag, ng, rfl⟩ := row_form hJ.row
      clear hJ hok hgo hW
      by_cases hlt : i < ts.length
      · obtain ⟨x, hx⟩ : ∃ x, ts[i]? = some x := ⟨_, List.getElem?_eq_getElem hlt⟩
        have hvx := HV.out x (List.mem_of_getElem? hx)
        obtain ⟨gb, cap, he, hc1, hm1, hgb, hcl⟩ := (HR.out.below HW.out).cells (by omega)
        injection he with e1 e2 e3
        subst e1 e3
        obtain ⟨dv, hiv, x0, x1, x2, x3, x4, x5, x6, x7⟩ := hcl i x hx
        obtain ⟨ad, cpd, rfl⟩ := row_form hiv
        have hk15 : x.k = 1 ∨ x.k = 5 := by rcases hvx.2 with h | h; exact .inl h.1; exact .inr h.1
        have hxs : x.s.size ≤ 1000000 := by rcases hvx.2 with h | h; have := h.2.1; omega; exact h.2.2.2
        have htl := HOK.out.l
        simp only [] at htl
        have b0 : (0 : Int) ≤ (i : Int) := by omega
        have b1 : (i : Int) < (ts.length : Int) := by omega
        have HX := Lib.hid hx
        have HCL := Lib.hid hcl
        have HK15 := Lib.hid hk15
        clear hcl hiv hvx hx hk15 e2
        rcases Nat.eq_zero_or_pos i with hi0z | hpos
        · have hzi : ¬ ((0 : Int) < (i : Int)) := by omega
          have hmid : JS.mid ts i ⟨t, g, f⟩ x = ⟨t, g, f⟩ := by
            unfold JS.mid
            rw [if_pos hi0z]
          have HMID := Lib.hid hmid
          have HZ := Lib.hid hi0z
          clear hmid hi0z
          go_wp2_with (go_at_call 62; ((with_reducible refine (c62 x _ _ HK15.out).mono ?_); rintro e w5 ⟨rfl, hb3⟩; have HJ3 : Hid (JW w1 w1.heap.size t g (.slice ag g.length ng) w5) := Lib.hid ((HJ.out.alloc _).below hb3); clear hb3))
          obtain ⟨nA, hnA⟩ : ∃ nA, (t).length = nA := ⟨_, rfl⟩
          obtain ⟨L, hL⟩ : ∃ L, (t ++ x.s.data.toList).length = L := ⟨_, rfl⟩
          have hLn : L = nA + x.s.size := by rw [← hL, ← hnA, List.length_append]; rfl
          have hnAb : nA ≤ 100001 := by rw [← hnA]; first | (simp only [List.length_append, List.length_cons, List.length_nil]; omega) | omega
          have hgAl : (g).length ≤ 20000 := by first | (show (0 : Nat) ≤ 20000; omega) | (have := HOK.out.n; simp only [] at this; omega)
          have hstep := joinGo_step ts i ⟨t, g, f⟩ ⟨t, g, f⟩ x hlt HX.out (HMID.out)
          rw [HGO.out] at hstep
          have hput : (JS.put ⟨t, g, f⟩ x).t.length = L := hL
          rw [hput] at hstep
          have HST := Lib.hid hstep
          have HNA := Lib.hid hnA
          have HLL := Lib.hid hL
          have HB1W : w1.heap.size ≤ w5.heap.size := Nat.le_of_lt HJ3.out.lt
          have HLN := Lib.hid hLn
          have HM := Lib.hid (HOK.out.mid ts x)
          have hL2 : L ≤ 1100001 := by omega
          clear hstep hput hnA hL hLn
          by_cases hbL : 100000 < L
          · have hbLz : (100000 : Int) < (L : Int) := by omega
            go_wp2_with (first | (go_at_call 66; ((with_reducible refine (c66J _ HJ8.out L HLL.out).mono ?_); rintro e w' ⟨rfl, rfl⟩)) | (go_at_call 66; ((with_reducible refine (c66J _ HJ3.out nA HNA.out).mono ?_); rintro e w' ⟨rfl, rfl⟩)) | (at_builtin; refine wpList_append_lies _ rfl _ _ _ rfl w1.heap.size 3 i0 _ 1 8 Tryz.underlying37 hi0 hz0 hz1 hz2 rfl (by omega) _ (g).length ((g).map fun n : Nat => Value.int .i64 (n : Int)) rfl ((HJ3.out.row).alloc _) ⟨w5.heap.size, 0, none⟩ 1 1 [.int .i64 (nA : Int)] rfl rfl (World.news_of_block (cs := #[.int .i64 (nA : Int)]) (t := 3) (fr := (0, 0)) (heap_alloc_new _ _)) (by simp [Value.oneCell']) (by omega) (by unfold maxLen; omega) (by omega) (by simp; omega) _ rfl ?_; intro gg cap1 w7 hown1 hgrow hat hlt1; have HJ7 := Lib.hid (HJ3.out.app _ nA hown1 hgrow); clear hown1 hgrow hat hlt1) | (go_at_call 67; ((with_reducible refine (c67J x.s _ HJ7.out (by rw [HNA.out]; omega)).mono ?_); rintro e w8 ⟨rfl, hj⟩; have HJ8 := Lib.hid hj; clear hj)))
            go_ret2
            have hre : r = none := by have := HST.out; rw [if_pos hbL] at this; exact this
            subst hre
            exact ⟨rfl, HB1.out.trans (HJ8.out.bel.mono HB1.out.size)⟩
          · have hbLz : ¬ ((100000 : Int) < (L : Int)) := by omega
            go_wp2_with (first | (go_at_call 66; ((with_reducible refine (c66J _ HJ8.out L HLL.out).mono ?_); rintro e w' ⟨rfl, rfl⟩)) | (go_at_call 66; ((with_reducible refine (c66J _ HJ3.out nA HNA.out).mono ?_); rintro e w' ⟨rfl, rfl⟩)) | (at_builtin; refine wpList_append_lies _ rfl _ _ _ rfl w1.heap.size 3 i0 _ 1 8 Tryz.underlying37 hi0 hz0 hz1 hz2 rfl (by omega) _ (g).length ((g).map fun n : Nat => Value.int .i64 (n : Int)) rfl ((HJ3.out.row).alloc _) ⟨w5.heap.size, 0, none⟩ 1 1 [.int .i64 (nA : Int)] rfl rfl (World.news_of_block (cs := #[.int .i64 (nA : Int)]) (t := 3) (fr := (0, 0)) (heap_alloc_new _ _)) (by simp [Value.oneCell']) (by omega) (by unfold maxLen; omega) (by omega) (by simp; omega) _ rfl ?_; intro gg cap1 w7 hown1 hgrow hat hlt1; have HJ7 := Lib.hid (HJ3.out.app _ nA hown1 hgrow); clear hown1 hgrow hat hlt1) | (go_at_call 67; ((with_reducible refine (c67J x.s _ HJ7.out (by rw [HNA.out]; omega)).mono ?_); rintro e w8 ⟨rfl, hj⟩; have HJ8 := Lib.hid hj; clear hj)))
            go_roundw
            case rel =>
              have hst := HST.out
              rw [if_neg hbL] at hst
              have hm := HM.out
              rw [HMID.out] at hm
              refine ⟨i + 1, t ++ x.s.data.toList, g ++ [nA], f, by omega, by go_num, rfl, HJ8.out, ?_, ?_⟩
              · have hp := JS.Ok.put hm.1 hm.2.1 x (by show (t ++ x.s.data.toList).length ≤ 100000; rw [HLL.out]; omega)
                unfold JS.put at hp
                simp only [HNA.out] at hp
                exact hp
              · rw [hst]
                unfold JS.put
                simp only [HNA.out]
            case measure => simp [intOf]; omega
        · have hgl : 0 < g.length := HOK.out.p hpos
          obtain ⟨k, hk⟩ : ∃ k, k = g.length - 5 := ⟨_, rfl⟩
          have hkg : k < g.length := by omega
          have hmax : max ((g.length : Int) - 5) 0 = (k : Int) := by omega
          have hfi : f + g.length = i := HOK.out.n
          obtain ⟨q, cq, hq, hcell⟩ := HJ.out.cell hgl
          injection hq with q1 q2 q3
          subst q1 q3
          have kq := hcell k hkg
          have c0 : (0 : Int) ≤ (k : Int) := by omega
          have c1 : (k : Int) < (g.length : Int) := by omega
          have hpz : (0 : Int) < (i : Int) := by omega
          have KS : Hid (∀ W, JW w1 w1.heap.size t g (.slice (some ⟨q, 0, none⟩) g.length ng) W → W.cell? ⟨q, k, none⟩ = some (.int .i64 (g.getD k 0 : Nat))) := Lib.hid (fun W hW => by
            obtain ⟨q', cq', hq', hcell'⟩ := hW.cell hgl
            injection hq' with q1' q2' q3'
            injection q1' with q1'; injection q1' with q1'
            subst q1'
            exact hcell' k hkg)
          have hgm : g.getD k 0 ≤ t.length := HOK.out.m _ (by rw [List.getD_eq_getElem?_getD, List.getElem?_eq_getElem hkg]; exact List.getElem_mem hkg)
          obtain ⟨gk, hgk⟩ : ∃ gk, g.getD k 0 = gk := ⟨_, rfl⟩
          rw [hgk] at KS hgm kq
          have HGK := Lib.hid hgk
          have C63 := Lib.hid (fun (W : World) (hW : JW w1 w1.heap.size t g (.slice (some ⟨q, 0, none⟩) g.length ng) W) (s : ByteArray) (hs : s.size ≤ 1073741824) => c63 H68.out s p _ _ W (HP.out.up hW.bel (Nat.le_of_lt hW.lt)) ((HR.out.below (HB1.out.trans (hW.bel.mono HB1.out.size))).sub (f + k) (i + 1) (by omega) (by omega)) hs)
          have w1q : IntKind.i64.wrap ((f : Int) + (k : Int)) = (f : Int) + (k : Int) := IntWalk.i64_in _ (by omega)
          have w2q : IntKind.i64.wrap ((i : Int) + 1) = (i : Int) + 1 := IntWalk.i64_in _ (by omega)
          have w3q : (0 : Int) ≤ (f : Int) + (k : Int) := by omega
          have w4q : (f : Int) + (k : Int) ≤ (i : Int) + 1 := by omega
          have w5q : (i : Int) + 1 ≤ (cp0 : Int) := by omega
          have w6q : ((f : Int) + (k : Int)).toNat = f + k := by omega
          have w7q : ((i : Int) + 1).toNat = i + 1 := by omega
          have w8q : (0 : Int) ≤ (gk : Int) := by omega
          have w9q : (gk : Int) ≤ (t.length : Int) := by omega
          obtain ⟨S, hS⟩ : ∃ S : ByteArray, S = ⟨t.toArray⟩ := ⟨_, rfl⟩
          have hSl : S.size = t.length := by rw [hS]; show t.toArray.size = _; simp
          have w10 : (gk : Int) ≤ (S.size : Int) := by omega
          have w11 : gk ≤ S.size := by omega
          have w12 : (S.size : Int) ≤ 100000 := by omega
          have w13 : (S.extract gk S.size).size + x.s.size ≤ 9223372036854775807 := by rw [size_ext S gk S.size (Nat.le_refl _)]; omega
          have w14 : S.size - gk + x.s.size ≤ 9223372036854775807 := by omega
          have w15 : ¬ (9223372036854775807 < S.size - gk + x.s.size) := by omega
          have w16 : ¬ (9223372036854775807 < (S.extract gk S.size).size + x.s.size) := by omega
          have HS := Lib.hid hS
          have HSL := Lib.hid hSl
          clear hS hSl
          have w17 : ¬ cp0 = f + k := by omega
          obtain ⟨bq, hbq⟩ : ∃ bq, readF (S.extract gk S.size ++ x.s) ((ts.drop (f + k)).take (i + 1 - (f + k))) = bq := ⟨_, rfl⟩
          have w18 : (S.extract gk S.size ++ x.s).size ≤ 1073741824 := by rw [ByteArray.size_append, size_ext S gk S.size (Nat.le_refl _)]; omega
          have W18 := Lib.hid w18
          have HBQ := Lib.hid hbq
          have HK := Lib.hid hk
          have HFI := Lib.hid hfi
          clear hcell q2 hgk hk hfi hbq w18
          go_wp2_with (go_at_call 62; ((with_reducible refine (c62 x _ _ HK15.out).mono ?_); rintro e w3 ⟨rfl, hb3⟩; have HJ3 : Hid (JW w1 w1.heap.size t g (.slice (some ⟨q, 0, none⟩) g.length ng) w3) := Lib.hid ((HJ.out.alloc _).below hb3); clear hb3))
          go_region_held3 (fun W : World => W.cell? ⟨q, k, none⟩ = some (.int .i64 (gk : Nat))) (first | exact KS.out _ HJ3.out | exact KS.out _ HJ3.out.drew)
            (first | (go_at_call 64; ((with_reducible refine (c64 _ (by first | exact HJ3.out | exact HJ3.out.drew) S HS.out).mono ?_); rintro e w4 ⟨rfl, hbd, hbb, ho⟩; replace HJ3 : Hid (JW w1 w1.heap.size t g (.slice (some ⟨q, 0, none⟩) g.length ng) w4) := Lib.hid (by first | exact HJ3.out.others hbd hbb ho | exact HJ3.out.drew.others hbd hbb ho); clear hbd hbb ho)) | (go_at_call 63; ((with_reducible refine (C63.out _ (by first | exact HJ3.out | exact HJ3.out.drew) _ W18.out).mono ?_); rintro e w5 ⟨rfl, hbb⟩; rw [HBQ.out]; replace HJ3 : Hid (JW w1 w1.heap.size t g (.slice (some ⟨q, 0, none⟩) g.length ng) w5) := Lib.hid (by first | exact HJ3.out.below hbb | exact HJ3.out.drew.below hbb); clear hbb)))
          rcases bq with _ | _
          · have hmid : JS.mid ts i ⟨t, g, f⟩ x = ⟨t ++ [32], [], i⟩ := by
              unfold JS.mid JS.glues JS.text JS.k
              simp only []
              rw [if_neg (by omega), ← HK.out, HGK.out, ← HS.out, HBQ.out, if_neg (by decide)]
            have HMID := Lib.hid hmid
            clear hmid
            go_wp2_with (go_at_call 65; ((with_reducible refine (c65J _ HJ3.out (by omega)).mono ?_); rintro e w6 ⟨rfl, hj⟩; have HJ6 := Lib.hid hj.clear; clear hj))
            obtain ⟨nA, hnA⟩ : ∃ nA, (t ++ [32]).length = nA := ⟨_, rfl⟩
            obtain ⟨L, hL⟩ : ∃ L, (t ++ [32] ++ x.s.data.toList).length = L := ⟨_, rfl⟩
            have hLn : L = nA + x.s.size := by rw [← hL, ← hnA, List.length_append]; rfl
            have hnAb : nA ≤ 100001 := by rw [← hnA]; first | (simp only [List.length_append, List.length_cons, List.length_nil]; omega) | omega
            have hgAl : (([] : List Nat)).length ≤ 20000 := by first | (show (0 : Nat) ≤ 20000; omega) | (have := HOK.out.n; simp only [] at this; omega)
            have hstep := joinGo_step ts i ⟨t, g, f⟩ ⟨t ++ [32], ([] : List Nat), i⟩ x hlt HX.out (HMID.out)
            rw [HGO.out] at hstep
            have hput : (JS.put ⟨t ++ [32], ([] : List Nat), i⟩ x).t.length = L := hL
            rw [hput] at hstep
            have HST := Lib.hid hstep
            have HNA := Lib.hid hnA
            have HLL := Lib.hid hL
            have HB1W : w1.heap.size ≤ w6.heap.size := Nat.le_of_lt HJ6.out.lt
            have HLN := Lib.hid hLn
            have HM := Lib.hid (HOK.out.mid ts x)
            have hL2 : L ≤ 1100001 := by omega
            clear hstep hput hnA hL hLn
            by_cases hbL : 100000 < L
            · have hbLz : (100000 : Int) < (L : Int) := by omega
              go_wp2_with (first | (go_at_call 66; ((with_reducible refine (c66J _ HJ8.out L HLL.out).mono ?_); rintro e w' ⟨rfl, rfl⟩)) | (go_at_call 66; ((with_reducible refine (c66J _ HJ6.out nA HNA.out).mono ?_); rintro e w' ⟨rfl, rfl⟩)) | (at_builtin; refine wpList_append_lies _ rfl _ _ _ rfl w1.heap.size 3 i0 _ 1 8 Tryz.underlying37 hi0 hz0 hz1 hz2 rfl (by omega) _ (([] : List Nat)).length ((([] : List Nat)).map fun n : Nat => Value.int .i64 (n : Int)) rfl ((HJ6.out.row).alloc _) ⟨w6.heap.size, 0, none⟩ 1 1 [.int .i64 (nA : Int)] rfl rfl (World.news_of_block (cs := #[.int .i64 (nA : Int)]) (t := 3) (fr := (0, 0)) (heap_alloc_new _ _)) (by simp [Value.oneCell']) (by omega) (by unfold maxLen; omega) (by omega) (by simp; omega) _ rfl ?_; intro gg cap1 w7 hown1 hgrow hat hlt1; have HJ7 := Lib.hid (HJ6.out.app _ nA hown1 hgrow); clear hown1 hgrow hat hlt1) | (go_at_call 67; ((with_reducible refine (c67J x.s _ HJ7.out (by rw [HNA.out]; omega)).mono ?_); rintro e w8 ⟨rfl, hj⟩; have HJ8 := Lib.hid hj; clear hj)))
              go_ret2
              have hre : r = none := by have := HST.out; rw [if_pos hbL] at this; exact this
              subst hre
              exact ⟨rfl, HB1.out.trans (HJ8.out.bel.mono HB1.out.size)⟩
            · have hbLz : ¬ ((100000 : Int) < (L : Int)) := by omega
              go_wp2_with (first | (go_at_call 66; ((with_reducible refine (c66J _ HJ8.out L HLL.out).mono ?_); rintro e w' ⟨rfl, rfl⟩)) | (go_at_call 66; ((with_reducible refine (c66J _ HJ6.out nA HNA.out).mono ?_); rintro e w' ⟨rfl, rfl⟩)) | (at_builtin; refine wpList_append_lies _ rfl _ _ _ rfl w1.heap.size 3 i0 _ 1 8 Tryz.underlying37 hi0 hz0 hz1 hz2 rfl (by omega) _ (([] : List Nat)).length ((([] : List Nat)).map fun n : Nat => Value.int .i64 (n : Int)) rfl ((HJ6.out.row).alloc _) ⟨w6.heap.size, 0, none⟩ 1 1 [.int .i64 (nA : Int)] rfl rfl (World.news_of_block (cs := #[.int .i64 (nA : Int)]) (t := 3) (fr := (0, 0)) (heap_alloc_new _ _)) (by simp [Value.oneCell']) (by omega) (by unfold maxLen; omega) (by omega) (by simp; omega) _ rfl ?_; intro gg cap1 w7 hown1 hgrow hat hlt1; have HJ7 := Lib.hid (HJ6.out.app _ nA hown1 hgrow); clear hown1 hgrow hat hlt1) | (go_at_call 67; ((with_reducible refine (c67J x.s _ HJ7.out (by rw [HNA.out]; omega)).mono ?_); rintro e w8 ⟨rfl, hj⟩; have HJ8 := Lib.hid hj; clear hj)))
              go_roundw
              case rel =>
                have hst := HST.out
                rw [if_neg hbL] at hst
                have hm := HM.out
                rw [HMID.out] at hm
                refine ⟨i + 1, t ++ [32] ++ x.s.data.toList, ([] : List Nat) ++ [nA], i, by omega, by go_num, rfl, HJ8.out, ?_, ?_⟩
                · have hp := JS.Ok.put hm.1 hm.2.1 x (by show (t ++ [32] ++ x.s.data.toList).length ≤ 100000; rw [HLL.out]; omega)
                  unfold JS.put at hp
                  simp only [HNA.out] at hp
                  exact hp
                · rw [hst]
                  unfold JS.put
                  simp only [HNA.out]
              case measure => simp [intOf]; omega
          · have hmid : JS.mid ts i ⟨t, g, f⟩ x = ⟨t, g, f⟩ := by
              unfold JS.mid JS.glues JS.text JS.k
              simp only []
              rw [if_neg (by omega), ← HK.out, HGK.out, ← HS.out, HBQ.out, if_pos rfl]
            have HMID := Lib.hid hmid
            clear hmid
            go_wp2_with fail
            obtain ⟨nA, hnA⟩ : ∃ nA, (t).length = nA := ⟨_, rfl⟩
            obtain ⟨L, hL⟩ : ∃ L, (t ++ x.s.data.toList).length = L := ⟨_, rfl⟩
            have hLn : L = nA + x.s.size := by rw [← hL, ← hnA, List.length_append]; rfl
            have hnAb : nA ≤ 100001 := by rw [← hnA]; first | (simp only [List.length_append, List.length_cons, List.length_nil]; omega) | omega
            have hgAl : (g).length ≤ 20000 := by first | (show (0 : Nat) ≤ 20000; omega) | (have := HOK.out.n; simp only [] at this; omega)
            have hstep := joinGo_step ts i ⟨t, g, f⟩ ⟨t, g, f⟩ x hlt HX.out (HMID.out)
            rw [HGO.out] at hstep
            have hput : (JS.put ⟨t, g, f⟩ x).t.length = L := hL
            rw [hput] at hstep
            have HST := Lib.hid hstep
            have HNA := Lib.hid hnA
            have HLL := Lib.hid hL
            have HB1W : w1.heap.size ≤ w5.heap.size := Nat.le_of_lt HJ3.out.lt
            have HLN := Lib.hid hLn
            have HM := Lib.hid (HOK.out.mid ts x)
            have hL2 : L ≤ 1100001 := by omega
            clear hstep hput hnA hL hLn
            by_cases hbL : 100000 < L
            · have hbLz : (100000 : Int) < (L : Int) := by omega
              go_wp2_with (first | (go_at_call 66; ((with_reducible refine (c66J _ HJ8.out L HLL.out).mono ?_); rintro e w' ⟨rfl, rfl⟩)) | (go_at_call 66; ((with_reducible refine (c66J _ HJ3.out nA HNA.out).mono ?_); rintro e w' ⟨rfl, rfl⟩)) | (at_builtin; refine wpList_append_lies _ rfl _ _ _ rfl w1.heap.size 3 i0 _ 1 8 Tryz.underlying37 hi0 hz0 hz1 hz2 rfl (by omega) _ (g).length ((g).map fun n : Nat => Value.int .i64 (n : Int)) rfl ((HJ3.out.row).alloc _) ⟨w5.heap.size, 0, none⟩ 1 1 [.int .i64 (nA : Int)] rfl rfl (World.news_of_block (cs := #[.int .i64 (nA : Int)]) (t := 3) (fr := (0, 0)) (heap_alloc_new _ _)) (by simp [Value.oneCell']) (by omega) (by unfold maxLen; omega) (by omega) (by simp; omega) _ rfl ?_; intro gg cap1 w7 hown1 hgrow hat hlt1; have HJ7 := Lib.hid (HJ3.out.app _ nA hown1 hgrow); clear hown1 hgrow hat hlt1) | (go_at_call 67; ((with_reducible refine (c67J x.s _ HJ7.out (by rw [HNA.out]; omega)).mono ?_); rintro e w8 ⟨rfl, hj⟩; have HJ8 := Lib.hid hj; clear hj)))
              go_ret2
              have hre : r = none := by have := HST.out; rw [if_pos hbL] at this; exact this
              subst hre
              exact ⟨rfl, HB1.out.trans (HJ8.out.bel.mono HB1.out.size)⟩
            · have hbLz : ¬ ((100000 : Int) < (L : Int)) := by omega
              go_wp2_with (first | (go_at_call 66; ((with_reducible refine (c66J _ HJ8.out L HLL.out).mono ?_); rintro e w' ⟨rfl, rfl⟩)) | (go_at_call 66; ((with_reducible refine (c66J _ HJ3.out nA HNA.out).mono ?_); rintro e w' ⟨rfl, rfl⟩)) | (at_builtin; refine wpList_append_lies _ rfl _ _ _ rfl w1.heap.size 3 i0 _ 1 8 Tryz.underlying37 hi0 hz0 hz1 hz2 rfl (by omega) _ (g).length ((g).map fun n : Nat => Value.int .i64 (n : Int)) rfl ((HJ3.out.row).alloc _) ⟨w5.heap.size, 0, none⟩ 1 1 [.int .i64 (nA : Int)] rfl rfl (World.news_of_block (cs := #[.int .i64 (nA : Int)]) (t := 3) (fr := (0, 0)) (heap_alloc_new _ _)) (by simp [Value.oneCell']) (by omega) (by unfold maxLen; omega) (by omega) (by simp; omega) _ rfl ?_; intro gg cap1 w7 hown1 hgrow hat hlt1; have HJ7 := Lib.hid (HJ3.out.app _ nA hown1 hgrow); clear hown1 hgrow hat hlt1) | (go_at_call 67; ((with_reducible refine (c67J x.s _ HJ7.out (by rw [HNA.out]; omega)).mono ?_); rintro e w8 ⟨rfl, hj⟩; have HJ8 := Lib.hid hj; clear hj)))
              go_roundw
              case rel =>
                have hst := HST.out
                rw [if_neg hbL] at hst
                have hm := HM.out
                rw [HMID.out] at hm
                refine ⟨i + 1, t ++ x.s.data.toList, g ++ [nA], f, by omega, by go_num, rfl, HJ8.out, ?_, ?_⟩
                · have hp := JS.Ok.put hm.1 hm.2.1 x (by show (t ++ x.s.data.toList).length ≤ 100000; rw [HLL.out]; omega)
                  unfold JS.put at hp
                  simp only [HNA.out] at hp
                  exact hp
                · rw [hst]
                  unfold JS.put
                  simp only [HNA.out]
              case measure => simp [intOf]; omega
      · have hd : decide (i < ts.length) = false := by simpa using hlt
        have hil : ts.length - i = 0 := by omega
        go_wp2_with (go_at_call 64; ((with_reducible refine (c64 _ HJ.out _ rfl).mono ?_); rintro e w3 ⟨rfl, _, hb3, _⟩; have HB3 := Lib.hid hb3; clear hb3))
        go_ret2
        have hre : r = some t := by rw [← HGO.out, hil]; rfl
        subst hre
        exact ⟨rfl, HW.out.trans (HB3.out.mono HB1.out.size)⟩
end Go.Proofs.YtagcfgoofiibfaaGreatDoor
namespace Go.Proofs.YtagcfgoofiibfaaGreatDoor
open Go Go.RowKit

/-- a byte of a comment, as a blank -/
def stp (x : UInt8) : UInt8 := if x = 10 ∨ x = 9 then x else 32
def strip1 (l : List UInt8) (a b : Nat) : List UInt8 := l.mapIdx fun k x => if a ≤ k ∧ k < b then stp x else x
def stripL (l : List UInt8) (ys : List (Nat × Nat)) : List UInt8 := ys.foldl (fun l y => strip1 l y.1 y.2) l
theorem strip1_len (l : List UInt8) (a b : Nat) : (strip1 l a b).length = l.length := by simp [strip1]
theorem stripL_len : ∀ (ys : List (Nat × Nat)) (l : List UInt8), (stripL l ys).length = l.length
  | [], l => rfl
  | y :: ys, l => by show (stripL (strip1 l y.1 y.2) ys).length = _; rw [stripL_len ys, strip1_len]
theorem strip1_get (l : List UInt8) (a b k : Nat) : (strip1 l a b)[k]? = l[k]?.map fun x => if a ≤ k ∧ k < b then stp x else x := by simp [strip1, List.getElem?_mapIdx]
theorem strip1_nil (l : List UInt8) (a : Nat) : strip1 l a a = l := by
  apply List.ext_getElem?
  intro k
  rw [strip1_get]
  rcases l[k]? with _ | x
  · rfl
  · simp; omega
theorem strip1_step (l : List UInt8) (a i : Nat) (x : UInt8) (ha : a ≤ i) (hx : (strip1 l a i)[i]? = some x) : strip1 l a (i + 1) = (strip1 l a i).set i (stp x) := by
  have hi : i < (strip1 l a i).length := by
    rcases Nat.lt_or_ge i (strip1 l a i).length with h | h
    · exact h
    · rw [List.getElem?_eq_none h] at hx; cases hx
  have hx' := hx
  rw [strip1_get] at hx'
  rcases hl : l[i]? with _ | y
  · rw [hl] at hx'; cases hx'
  · rw [hl] at hx'
    simp at hx'
    apply List.ext_getElem?
    intro k
    by_cases e : i = k
    · subst e
      rw [List.getElem?_set_self hi, strip1_get, hl]
      simp [ha, hx']
    · rw [List.getElem?_set_ne e, strip1_get, strip1_get]
      rcases l[k]? with _ | z
      · rfl
      · simp only [Option.map_some]
        by_cases h : a ≤ k ∧ k < i
        · rw [if_pos h, if_pos (by omega)]
        · rw [if_neg h, if_neg (by omega)]
theorem strip1_keep (l : List UInt8) (a i : Nat) (x : UInt8) (ha : a ≤ i) (hx : (strip1 l a i)[i]? = some x) (h : x = 10 ∨ x = 9) : strip1 l a (i + 1) = strip1 l a i := by
  rw [strip1_step l a i x ha hx]
  have e : stp x = x := by unfold stp; rw [if_pos h]
  rw [e]
  apply List.ext_getElem?
  intro k
  by_cases e : i = k
  · subst e
    have hi : i < (strip1 l a i).length := by
      rcases Nat.lt_or_ge i (strip1 l a i).length with h | h
      · exact h
      · rw [List.getElem?_eq_none h] at hx; cases hx
    rw [List.getElem?_set_self hi, hx]
  · rw [List.getElem?_set_ne e]

/-- bytes in a block -/
structure BytesAt (w : World) (g : Nat) (l : List UInt8) : Prop where
  lt : g < w.heap.size
  c : ∀ (j : Nat) (x : UInt8), l[j]? = some x → w.cell? ⟨g, j, none⟩ = some (.int .u8 (x.toNat : Int))
  f : ∀ j, j < l.length → w.frozen? ⟨g, j, none⟩ = false
theorem BytesAt.below {w w' : World} {g : Nat} {l : List UInt8} (h : BytesAt w g l) (hb : Below w.heap.size w w') : BytesAt w' g l :=
  ⟨Nat.lt_of_lt_of_le h.lt hb.size, fun j x hx => (hb.cell (p := ⟨g, j, none⟩) h.lt).trans (h.c j x hx), fun j hj => (hb.frozen (p := ⟨g, j, none⟩) h.lt).trans (h.f j hj)⟩
theorem BytesAt.set {w : World} {g : Nat} {l : List UInt8} (h : BytesAt w g l) (i : Nat) (y : UInt8) (hi : i < l.length) : BytesAt (w.setCell ⟨g, i, none⟩ (.int .u8 (y.toNat : Int))) g (l.set i y) := by
  refine ⟨by simpa using h.lt, fun j x hx => ?_, fun j hj => ?_⟩
  · by_cases e : i = j
    · subst e
      rw [List.getElem?_set_self hi] at hx
      injection hx with hx
      subst hx
      exact World.cell?_setCell_same w (a := ⟨g, i, none⟩) (u := .int .u8 ((l[i]'hi).toNat : Int)) _ (h.c i _ (List.getElem?_eq_getElem hi))
    · rw [List.getElem?_set_ne e] at hx
      rw [World.cell?_setCell_other w (a := ⟨g, i, none⟩) (b := ⟨g, j, none⟩) _ (by intro q; injection q with _ q; exact e q)]
      exact h.c j x hx
  · rw [World.frozen?_setCell]; exact h.f j (by simpa using hj)

/-- the comments of a scanner -/
theorem SC.spans {g : Nat} {s : ByteArray} {i : Nat} {tb : Value} {ps : List Tk} {ys : List (Nat × Nat)} {w : World} (H : SC g s i tb ps ys w) : ∃ a cap, w.cell? ⟨g, 4, none⟩ = some (.slice a ys.length cap) ∧ (0 < ys.length → ∃ b, a = some ⟨b, 0, none⟩ ∧ b < w.heap.size ∧
    ∀ (k : Nat) (y : Nat × Nat), ys[k]? = some y → w.cell? ⟨b, k * 2, none⟩ = some (.int .i64 (y.1 : Int)) ∧ w.cell? ⟨b, k * 2 + 1, none⟩ = some (.int .i64 (y.2 : Int))) := by
  obtain ⟨vo, vc, xs, h1, h2⟩ := H
  have hc : w.cell? ⟨g, 4, none⟩ = some vc := by rw [cell_of_row _ _ _ _ _ _ h1.blk]; rfl
  have hh := h1.rc
  rcases h1.rc.2 with ⟨rfl, h0⟩ | ⟨b, cap, cur, rfl, _, hg, _⟩
  · exact ⟨none, 0, by rw [hc, h0], fun h => by omega⟩
  · refine ⟨_, _, hc, fun _ => ⟨b, rfl, lt_of_blk hg, fun k y hy => ?_⟩⟩
    have hl : ∀ (zs : List (Nat × Nat)) (k : Nat) (y : Nat × Nat), zs[k]? = some y → (spanCells zs)[k * 2]? = some (.int .i64 (y.1 : Int)) ∧ (spanCells zs)[k * 2 + 1]? = some (.int .i64 (y.2 : Int)) := by
      intro zs
      induction zs with
      | nil => intro k y h; simp at h
      | cons z zs ih =>
        intro k y h
        rcases k with _ | k
        · simp at h; subst h; exact ⟨rfl, rfl⟩
        · have := ih k y (by simpa using h)
          rw [show (k + 1) * 2 = k * 2 + 1 + 1 by omega, show k * 2 + 1 + 1 + 1 = (k * 2 + 1) + 1 + 1 by omega]
          show (_ :: _ :: spanCells zs)[k * 2 + 1 + 1]? = _ ∧ (_ :: _ :: spanCells zs)[(k * 2 + 1) + 1 + 1]? = _
          simp only [List.getElem?_cons_succ]
          exact this
    obtain ⟨h3, h4⟩ := hl ys k y hy
    have c1 := World.ownsRow.cells hh (g := b) rfl _ _ h3
    have c2 := World.ownsRow.cells hh (g := b) rfl _ _ h4
    rw [addr_add] at c1 c2
    exact ⟨c1, c2⟩

theorem Sc.clen {s : ByteArray} {i : Nat} {ps : List Tk} {ys : List (Nat × Nat)} (h : Sc s i ps ys) : ys.length ≤ s.size - i := by
  induction h with
  | fin i hi => simp
  | blank i qs zs hi hb _ ih => omega
  | com i j qs zs hi hb hc _ ih => have := item_com s i j hi hc; simp; omega
  | tok i p qs zs hi hb hc _ ih => have := item_tok s i p hi hc; omega
/-- Strip's answer -/
def stripF (s : ByteArray) : Except Int ByteArray := match tokens s with
  | .error (_, e) => .error e
  | .ok _ => match scan s with
    | .ok (_, ys) => .ok ⟨(stripL s.data.toList ys).toArray⟩
    | .error (_, e) => .error e
def StripTo (r : Except Int ByteArray) (w : World) (e : Ending) (w' : World) : Prop :=
  (match r with
   | .ok t => e = .returned (.tuple #[.string t, .int .i64 0])
   | .error er => e = .returned (.tuple #[.string ByteArray.empty, .int .i64 er])) ∧ Below w.heap.size w w'
end Go.Proofs.YtagcfgoofiibfaaGreatDoor
namespace Go.Proofs.YtagcfgoofiibfaaGreatDoor
open Go Go.RowKit

theorem Tryz.und81 : Tryz.prog.underlying 81 = some (.slice 5) := by kernel_rfl
theorem Tryz.und5 : Tryz.prog.underlying 5 = some (.int .u8) := by kernel_rfl
theorem Tryz.und9 : Tryz.prog.underlying 9 = some .string := by kernel_rfl

theorem c69T (w : World) (hT : TI w) : Calls Tryz.prog 69 #[] w fun e w' => ∃ p, e = .returned (.pointer (some ⟨p, 0, none⟩)) ∧ TabAt w'.heap.size p w' ∧ w.heap.size ≤ p ∧ Below w.heap.size w w' := c69 w hT

set_option maxRecDepth 100000 in
set_option maxHeartbeats 6400000 in
theorem c51 (h24 : C24) (h68 : C68) (s : ByteArray) (w : World) (hT : TI w) (hsz : s.size ≤ 100000 ∨ ∃ a e, tokens s = .error (a, e)) : Calls Tryz.prog 51 #[.string s] w (StripTo (stripF s) w) := by
  have hc := h24 s w hT
  obtain ⟨r, hr⟩ : ∃ r, stripF s = r := ⟨_, rfl⟩
  rw [hr]
  unfold stripF at hr
  rcases htk : tokens s with ⟨a, er⟩ | ts
  · rw [htk] at hc hr
    have he := tokens_er htk
    have he1 : (er != 0) = true := by simp; omega
    simp only [] at hr
    subst hr
    have HC := Lib.hid hc
    clear hc htk he hT h24 h68
    go_enter Tryz.func51, Tryz.ntmps51
    go_wp2_with (go_at_call 24; ((with_reducible refine HC.out.mono ?_); rintro e w1 ⟨rfl, hb1⟩; have HB1 := Lib.hid hb1; clear hb1))
    go_ret2
    exact ⟨rfl, HB1.out⟩
  · rw [htk] at hc hr
    simp only [] at hr
    have hsz2 : s.size ≤ 100000 := by
      rcases hsz with h | ⟨a, e, h⟩
      · exact h
      · rw [htk] at h; cases h
    rcases hsc : scan s with ⟨a, er⟩ | ⟨ps, ys⟩
    · exfalso
      unfold tokens at htk
      rw [if_neg (by omega), hsc] at htk
      cases htk
    · rw [hsc] at hr
      simp only [] at hr
      subst hr
      have hcom := ((scan_ok_iff s ps ys).1 hsc).coms
      have hyl : ys.length ≤ s.size := by have := ((scan_ok_iff s ps ys).1 hsc).clen; omega
      have H68 : Hid (∀ (p : Nat) (w : World), TabAt w.heap.size p w → Calls Tryz.prog 68 #[.pointer (some ⟨p, 0, none⟩), .string s] w (ScanTo s p (.ok (ps, ys)) w)) := Lib.hid (fun p w h => by rw [← hsc]; exact h68 s p w h (by omega))
      have HC := Lib.hid hc
      have HT := Lib.hid hT
      have HCOM := Lib.hid hcom
      clear hc htk hT h24 h68 hsc hcom hsz
      go_enter Tryz.func51, Tryz.ntmps51
      go_wp2_with (first | (go_at_call 24; ((with_reducible refine HC.out.mono ?_); rintro e w1 ⟨⟨vt, rfl, hvt⟩, hb1⟩; obtain ⟨at_, cpt, rfl, _⟩ := hvt.shape; have HB1 := Lib.hid hb1; clear hb1 hvt)) | (go_at_call 69; ((with_reducible refine (c69T _ (HT.out.below HB1.out)).mono ?_); rintro e w2 ⟨p, rfl, hp, hpl, hb2⟩; have HB2 : Hid (Below w.heap.size w w2) := Lib.hid (HB1.out.trans (hb2.mono HB1.out.size)); have HP := Lib.hid hp; clear hb2 hp)) | (go_at_call 68; ((with_reducible refine (H68.out p _ HP.out).mono ?_); rintro e w3 ⟨g, i, rfl, hg, hS, hb3⟩; have HB3 : Hid (Below w.heap.size w w3) := Lib.hid (HB2.out.trans (hb3.mono HB2.out.size)); have HS := Lib.hid hS; have hgl := hS.lt; obtain ⟨av, cv, kv, hv⟩ := hS.spans; have HSP := Lib.hid hv; clear hb3 hS hv)))
      rw [run_bytes_of_string w3 9 81 5 s Tryz.und9 Tryz.und81 Tryz.und5]
      simp only [Result.andThen]
      rw [Oper.upon_value]
      obtain ⟨C, hC⟩ : ∃ C, grownCap w3 s.size 0 5 = C := ⟨_, rfl⟩
      have hCs : s.size ≤ C := by rw [← hC]; exact grownCap_ge w3 s.size 0 5
      rw [hC]
      generalize hW4 : (w3.drew.alloc (.cells (bytesRow s C) 5 ((bytesRow s C).size, (bytesRow s C).size + 1))) = W4
      have hB4 : Below w3.heap.size w3 W4 := by rw [← hW4]; exact ((Below.refl _ _).drew).alloc (Nat.le_refl _) _
      have hrs : (bytesRow s C).size = C := by unfold bytesRow; simp; omega
      have hBy : BytesAt W4 w3.heap.size s.data.toList := by
        rw [← hW4]
        refine ⟨by show w3.heap.size < (w3.drew.alloc _).heap.size; simp, fun j x hx => ?_, fun j hj => ?_⟩
        · have hj : j < s.data.size := by
            rcases Nat.lt_or_ge j s.data.size with h | h
            · exact h
            · rw [List.getElem?_eq_none (by simpa using h)] at hx; cases hx
          have h1 := World.cell?_alloc_mark w3.drew (bytesRow s C) 5 ((bytesRow s C).size, (bytesRow s C).size + 1) j
          have h2 := bytesRow_at s C j hj
          rw [h2] at h1
          have e : s.data[j] = x := by
            rw [List.getElem?_eq_getElem (by simpa using hj)] at hx
            injection hx
          rw [e] at h1
          exact h1
        · have h1 := World.frozen?_alloc_mark w3.drew (bytesRow s C) 5 (bytesRow s C).size ((bytesRow s C).size + 1) j
          have hjs : j < s.size := by simpa using hj
          rw [hrs] at h1
          have e : decide (C ≤ j) = false := by simp; omega
          rw [e, Bool.false_and] at h1
          rw [hrs]; exact h1
      have HB4 := Lib.hid hB4
      have HBY := Lib.hid hBy
      have hCz : (s.size : Int) ≤ (C : Int) := by omega
      have kv4 : W4.cell? ⟨g, 4, none⟩ = some (.slice av ys.length cv) := (hB4.cell (p := ⟨g, 4, none⟩) hgl).trans kv
      clear hW4 hB4 hBy hrs hC kv
      go_wp2
      go_loopw [37] (fun s37 wr => ∃ j : Nat, j ≤ ys.length ∧ s37 = .int .i64 (j : Int) ∧ BytesAt wr w3.heap.size (stripL s.data.toList (ys.take j)) ∧ Below w3.heap.size w3 wr) (fun s37 _ => ys.length - (intOf s37).toNat)
      case atStart => exact ⟨0, Nat.zero_le _, rfl, HBY.out, HB4.out⟩
      case round =>
        obtain ⟨j, hj, rfl, hby, hbl⟩ := hrel
        rename World => wo
        have HBJ := Lib.hid hby
        have HBL := Lib.hid hbl
        clear hby hbl
        by_cases hlt : j < ys.length
        · obtain ⟨y, hy⟩ : ∃ y, ys[j]? = some y := ⟨_, List.getElem?_eq_getElem hlt⟩
          obtain ⟨b, rfl, hbs, hsp⟩ := HSP.out (by omega)
          obtain ⟨s1, s2⟩ := hsp j y hy
          have hyc := HCOM.out y (List.mem_of_getElem? hy)
          obtain ⟨ya, yb⟩ := y
          simp only [] at s1 s2 hyc
          have k1 := (HBL.out.cell (p := ⟨b, j * 2, none⟩) hbs).trans s1
          have k2 := (HBL.out.cell (p := ⟨b, j * 2 + 1, none⟩) hbs).trans s2
          have HY := Lib.hid hy
          have b0 : (0 : Int) ≤ (j : Int) := by omega
          have b1 : (j : Int) < (ys.length : Int) := by omega
          obtain ⟨Lj, hLj⟩ : ∃ Lj, stripL s.data.toList (ys.take j) = Lj := ⟨_, rfl⟩
          have hLl : Lj.length = s.size := by rw [← hLj, stripL_len]; simp
          rw [hLj] at HBJ
          have HLJ := Lib.hid hLj
          have HLL := Lib.hid hLl
          clear hsp s1 s2 hy hLj hLl
          go_wp2
          go_loopw [13] (fun s13 wi => ∃ i : Nat, ya ≤ i ∧ i ≤ yb ∧ s13 = .int .i64 (i : Int) ∧ BytesAt wi w3.heap.size (strip1 Lj ya i) ∧ wi.heap[wo.heap.size]? = some (.cells #[.int .i64 (ya : Int), .int .i64 (yb : Int)] 124 (0, 0)) ∧ Below w3.heap.size w3 wi) (fun s13 _ => yb - (intOf s13).toNat)
          case atStart => exact ⟨ya, Nat.le_refl _, by omega, rfl, by rw [strip1_nil]; exact HBJ.out.below ((Below.refl _ _).alloc (Nat.le_refl _) _), blk_new _ _ rfl _, HBL.out.alloc HBL.out.size _⟩
          case round =>
            obtain ⟨i, hai, hib, rfl, hbi, hbk, hbe⟩ := hrel
            have kd : wr.cell? ⟨wo.heap.size, 1, none⟩ = some (.int .i64 (yb : Int)) := by rw [cell_of_row _ _ _ _ _ _ hbk]; rfl
            by_cases hlt2 : i < yb
            · have hsl : (strip1 Lj ya i).length = s.size := by rw [strip1_len]; exact HLL.out
              obtain ⟨x, hx⟩ : ∃ x, (strip1 Lj ya i)[i]? = some x := ⟨_, List.getElem?_eq_getElem (by omega)⟩
              have kx := hbi.c i x hx
              have kf := hbi.f i (by omega)
              have i0 : (0 : Int) ≤ (i : Int) := by omega
              have i1 : (i : Int) < (s.size : Int) := by omega
              have hne : wo.heap.size ≠ w3.heap.size := by have := HBJ.out.lt; omega
              have HX := Lib.hid hx
              have HBI := Lib.hid hbi
              have HBK := Lib.hid hbk
              have HBE := Lib.hid hbe
              have HNE := Lib.hid hne
              have HSL := Lib.hid hsl
              clear hx hbi hbk hbe hne hsl
              by_cases h10 : x = 10
              · have e10 : ((x.toNat : Int) != 10) = false := by subst h10; rfl
                have hk := Lib.hid (strip1_keep Lj ya i x hai HX.out (.inl h10))
                clear h10
                go_wp2
                go_roundw
                case rel => exact ⟨i + 1, by omega, by omega, by go_num, by rw [hk.out]; exact HBI.out, HBK.out, HBE.out⟩
                case measure => simp [intOf]; omega
              · by_cases h9 : x = 9
                · have e10 : ((x.toNat : Int) != 10) = true := by subst h9; rfl
                  have e9 : ((x.toNat : Int) != 9) = false := by subst h9; rfl
                  have hk := Lib.hid (strip1_keep Lj ya i x hai HX.out (.inr h9))
                  clear h10 h9
                  go_wp2
                  go_roundw
                  case rel => exact ⟨i + 1, by omega, by omega, by go_num, by rw [hk.out]; exact HBI.out, HBK.out, HBE.out⟩
                  case measure => simp [intOf]; omega
                · have e10 : ((x.toNat : Int) != 10) = true := by
                    simp only [bne_iff_ne, ne_eq]
                    intro h; exact h10 (UInt8.toNat_inj.1 (by show x.toNat = 10; omega))
                  have e9 : ((x.toNat : Int) != 9) = true := by
                    simp only [bne_iff_ne, ne_eq]
                    intro h; exact h9 (UInt8.toNat_inj.1 (by show x.toNat = 9; omega))
                  have hk : strip1 Lj ya (i + 1) = (strip1 Lj ya i).set i 32 := by
                    rw [strip1_step Lj ya i x hai HX.out]; unfold stp; rw [if_neg (by rintro (h | h); exact h10 h; exact h9 h)]
                  have HK := Lib.hid hk
                  clear h10 h9 hk
                  go_wp2
                  go_roundw
                  case rel =>
                    refine ⟨i + 1, by omega, by omega, by go_num, ?_, ?_, ?_⟩
                    · rw [HK.out]; exact HBI.out.set i 32 (by rw [HSL.out]; omega)
                    · rw [heap_setCell_other _ _ _ _ HNE.out]; exact HBK.out
                    · exact HBE.out.setCell (p := ⟨w3.heap.size, i, none⟩) (Nat.le_refl _) _
                  case measure => simp [intOf]; omega
            · obtain rfl : i = yb := by omega
              have hd : decide ((i : Int) < (i : Int)) = false := by simp
              have HBI := Lib.hid hbi
              have HBE := Lib.hid hbe
              clear hbi hbk hbe
              go_wp2
              go_roundw
              case rel =>
                refine ⟨j + 1, by omega, by go_num, ?_, HBE.out⟩
                rw [List.take_add_one, HY.out]
                unfold stripL
                rw [List.foldl_append]
                have := HLJ.out
                unfold stripL at this
                rw [this]
                exact HBI.out
              case measure => simp [intOf]; omega
        · have hd : decide (j < ys.length) = false := by simpa using hlt
          have hje : ys.take j = ys := List.take_of_length_le (by omega)
          rw [hje] at HBJ
          obtain ⟨R, hR⟩ : ∃ R, stripL s.data.toList ys = R := ⟨_, rfl⟩
          have hRl : R.length = s.size := by rw [← hR, stripL_len]; simp
          rw [hR] at HBJ ⊢
          have HRL := Lib.hid hRl
          have HRE := Lib.hid hR
          have hcv := run_convert_bytes_back wo 81 9 5 ⟨w3.heap.size, 0, none⟩ C R Tryz.und81 Tryz.und5 Tryz.und9 (fun q hq => by rw [addr_add]; exact HBJ.out.c q _ (List.getElem?_eq_getElem hq))
          rw [hRl] at hcv
          clear hR hRl
          go_wp2
          go_ret2
          exact ⟨by show Ending.returned (.tuple #[.string ⟨R.toArray⟩, .int .i64 0]) = Ending.returned (.tuple #[.string ⟨(stripL s.data.toList ys).toArray⟩, .int .i64 0]); rw [HRE.out], HB3.out.trans (HBL.out.mono HB3.out.size)⟩
end Go.Proofs.YtagcfgoofiibfaaGreatDoor
