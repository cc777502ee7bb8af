/- The law LexBack: its walk and its statement: LC0, LD0, LD1, LD2, LD4, M10, M11, M12, M13, M14, LY0, LZ4. -/
import Derived.Test.YtagcfgoofiibfaaGreatDoorLexBackM
import Derived.Test.YtagcfgoofiibfaaGreatDoorLexBackP
import Derived.Deep.RegionHeld3
import Derived.Test.YtagcfgoofiibfaaGreatDoorG41
import Derived.Test.YtagcfgoofiibfaaGreatDoorLexBackN
import Derived.Test.YtagcfgoofiibfaaGreatDoorLexBackF
import Derived.Carry
set_option linter.unusedVariables false
set_option linter.unusedSimpArgs false
namespace Go.Proofs.YtagcfgoofiibfaaGreatDoor
open Go Go.RowKit
theorem tok_err_call {r : Nat × Int} (s : ByteArray) (h : tokens s = .error r) (w : World) (hT : TI w) : Calls Tryz.prog 24 #[.string s] w fun e w' => e = .returned (.tuple #[.slice none 0 0, .int .i64 (r.1 : Int), .int .i64 r.2]) ∧ Below w.heap.size w w' := by
  have := H24 s w hT
  rw [h] at this
  exact this
theorem tok_ok_call {ts : List Tk} (s : ByteArray) (h : tokens s = .ok ts) (w : World) (hT : TI w) : Calls Tryz.prog 24 #[.string s] w fun e w' => (∃ a cp, e = .returned (.tuple #[.slice a ts.length cp, .int .i64 0, .int .i64 0]) ∧ TokRow w' (.slice a ts.length cp) ts) ∧ Below w.heap.size w w' := by
  refine (H24 s w hT).mono ?_
  rw [h]
  rintro e w' ⟨⟨v, rfl, hr⟩, hb⟩
  obtain ⟨a, cp, rfl, _⟩ := hr.shape
  exact ⟨⟨a, cp, rfl, hr⟩, hb⟩
end Go.Proofs.YtagcfgoofiibfaaGreatDoor
namespace Go.Proofs.YtagcfgoofiibfaaGreatDoor
open Go Go.RowKit
theorem likeF_refl (x : Tk) : likeF x x = true := by unfold likeF; simp
theorem likeL_refl : ∀ a : List Tk, likeL a a = true
  | [] => rfl
  | x :: a => by rw [likeL, likeF_refl, likeL_refl a]; rfl
end Go.Proofs.YtagcfgoofiibfaaGreatDoor
namespace Go.Proofs.YtagcfgoofiibfaaGreatDoor
open Go Go.RowKit
theorem TokSl.at {w : World} {a : Option Addr} {n cp : Nat} {l : List Tk} (h : TokSl w (.slice a n cp) l) (k : Nat) (hk : k < l.length) : ∃ b o x dv, a = some ⟨b, o, none⟩ ∧ b < w.heap.size ∧ l[k]? = some x ∧ IntsAt w dv x.d ∧ n = l.length ∧ n ≤ cp ∧ cp ≤ maxLen ∧
    w.cell? ⟨b, o + k * 8, none⟩ = some (.int .i64 x.k) ∧ w.cell? ⟨b, o + k * 8 + 1, none⟩ = some (.string x.s) ∧ w.cell? ⟨b, o + k * 8 + 2, none⟩ = some (.bool false) ∧ w.cell? ⟨b, o + k * 8 + 3, none⟩ = some dv ∧
      w.cell? ⟨b, o + k * 8 + 4, none⟩ = some (.int .i64 (x.at_ : Int)) ∧ w.cell? ⟨b, o + k * 8 + 5, none⟩ = some (.int .i64 (x.en : Int)) ∧ w.cell? ⟨b, o + k * 8 + 6, none⟩ = some (.int .i64 x.line) ∧ w.cell? ⟨b, o + k * 8 + 7, none⟩ = some (.int .i64 x.col) := by
  obtain ⟨a', cp', e, h1, h2, h3⟩ := h
  injection e with e1 e2 e3
  subst e1 e2 e3
  obtain ⟨b, o, e, hlt, hc⟩ := h3 (by omega)
  obtain ⟨dv, i, x0, x1, x2, x3, x4, x5, x6, x7⟩ := hc k _ (List.getElem?_eq_getElem hk)
  exact ⟨b, o, _, dv, e, hlt, List.getElem?_eq_getElem hk, i, rfl, h1, h2, x0, x1, x2, x3, x4, x5, x6, x7⟩
end Go.Proofs.YtagcfgoofiibfaaGreatDoor
namespace Go.Proofs.YtagcfgoofiibfaaGreatDoor
open Go Go.RowKit
theorem like_down (n : Nat) (l : Int) (x : Tk) : likeF (x.down n l) x = true := by
  unfold likeF Tk.down; simp
structure TogN (s : ByteArray) (L : Int) (n k : Nat) (x : Tk) : Prop where
  i1 : wrap64 ((n : Int) + (k : Int)) = ((n + k : Nat) : Int)
  l1 : wrap64 (x.line + L) = x.line + L
  a1 : wrap64 ((x.at_ : Int) + (s.size : Int)) = ((x.at_ + s.size : Nat) : Int)
  a2 : wrap64 (((x.at_ + s.size : Nat) : Int) + 1) = ((x.at_ + (s.size + 1) : Nat) : Int)
  e1 : wrap64 ((x.en : Int) + (s.size : Int)) = ((x.en + s.size : Nat) : Int)
  e2 : wrap64 (((x.en + s.size : Nat) : Int) + 1) = ((x.en + (s.size + 1) : Nat) : Int)
  k1 : wrap64 ((k : Int) + 1) = ((k + 1 : Nat) : Int)
end Go.Proofs.YtagcfgoofiibfaaGreatDoor
namespace Go.Proofs.YtagcfgoofiibfaaGreatDoor
open Go Go.RowKit
theorem TokSl.caps {w : World} {a : Option Addr} {n cp : Nat} {ts : List Tk} (h : TokSl w (.slice a n cp) ts) : ts.length ≤ cp ∧ cp ≤ maxLen := by
  obtain ⟨_, _, e, h1, h2, _⟩ := h
  injection e with _ _ e
  subst e
  exact ⟨h1, h2⟩
end Go.Proofs.YtagcfgoofiibfaaGreatDoor
set_option linter.unusedVariables false
namespace Go.Proofs.YtagcfgoofiibfaaGreatDoor
open Go Go.RowKit
theorem GtSl.sub2 {w : World} {b o n cap : Nat} {ts : List Tk} (h : GtSl w (.slice (some ⟨b, o, none⟩) n cap) ts) (i j : Nat) (hij : i < j) (hj : j ≤ n) : GtSl w (.slice (some ⟨b, o + i * 8, none⟩) (j - i) (cap - i)) ((ts.drop i).take (j - i)) := by
  obtain ⟨b', o', e, h2⟩ := h.sub i j hij hj
  injection e with e; injection e with e1 e2
  subst e1 e2
  exact h2
set_option exponentiation.threshold 400 in
theorem spell_len {x : Tk} (h : ValidT x) : (spellF x).size ≤ 1000000 := by
  obtain ⟨k, s, d, a_, e_, l_, c_⟩ := x
  cases h with
  | num h1 h2 h3 h4 h5 =>
    simp only [] at h1 h3 h5
    subst h1
    unfold spellF
    rw [if_pos rfl]
    show (Lib.decDigits (numL d)).length ≤ _
    rw [Lib.decDigits_length]
    have := nDig_le 360 (numL d) (by omega) (numL_big h3 h5)
    omega
  | name h1 h2 h3 h4 =>
    simp only [] at h1 h3
    subst h1
    rw [spell_s (by simp) (by simp) (by simp) (by simp)]
    show s.size ≤ _
    omega
  | str h1 h2 h3 h4 =>
    simp only [] at h1 h3
    subst h1
    unfold spellF
    rw [if_neg (by simp), if_pos rfl]
    have := flat_len s.data.toList
    have e : s.data.toList.length = s.size := Array.length_toList
    show (34 :: (s.data.toList.flatMap escB ++ [34])).length ≤ _
    simp only [List.length_cons, List.length_append, List.length_nil]
    omega
  | key h1 h2 h3 =>
    simp only [] at h1 h3
    subst h1
    rw [spell_s (by simp) (by simp) (by simp) (by simp)]
    have h4 : s.data.toList ∈ wordsL := by unfold isWord at h3; simpa using h3
    have h5 : ∀ l ∈ wordsL, l.length ≤ 1000 := by decide +kernel
    have h6 := h5 _ h4
    have e : s.data.toList.length = s.size := Array.length_toList
    show s.size ≤ _
    omega
  | sign h1 h2 h3 h4 =>
    simp only [] at h1 h4
    subst h1
    rw [spell_s (by simp) (by simp) (by simp) (by simp)]
    have := canon_size h4
    show s.size ≤ _
    omega
  | line h1 h2 h3 =>
    simp only [] at h1
    rcases h1 with rfl | rfl
    · unfold spellF; rw [if_neg (by simp), if_neg (by simp), if_pos rfl]; decide
    · unfold spellF; rw [if_neg (by simp), if_neg (by simp), if_neg (by simp), if_pos rfl]; decide
theorem c62t (x : Tk) (z4 z5 z6 z7 : Int) (dv : Value) (w : World) (hv : ValidT x) (h : IntsG w dv x.d) (hP : TP w) :
    Calls Tryz.prog 62 #[.agg #[.int .i64 x.k, .string x.s, .bool false, dv, .int .i64 z4, .int .i64 z5, .int .i64 z6, .int .i64 z7]] w fun e w' => e = .returned (.string (spellF x)) ∧ Below w.heap.size w w' := by
  have h2 := c62v ⟨x.k, x.s, false, x.d, z4, z5, z6, z7⟩ dv w (by
    cases hv with
    | num a b c d e => exact .num a b c d e
    | name a b c d => exact .name a b c d
    | str a b c d => exact .str a b c d
    | key a b c => exact .key a b c
    | sign a b c d => exact .sign a b c d
    | line a b c => exact .line a b c) rfl h hP
  have e : spellF (Gk.tk ⟨x.k, x.s, false, x.d, z4, z5, z6, z7⟩) = spellF x := spellF_key rfl
  rw [e] at h2
  exact h2
theorem gOk_mid {st : JS} {i : Nat} (h : st.Ok i) (ts : List Tk) (x : Tk) : (gMid ts i st x).f + (gMid ts i st x).g.length = i ∧ (∀ y ∈ (gMid ts i st x).g, y ≤ (gMid ts i st x).t.length) ∧ (gMid ts i st x).t.length ≤ 100001 :=
  JS.Ok.mid h ts { x with s := spellF x }
theorem gOk_put {st : JS} {i : Nat} (h1 : st.f + st.g.length = i) (h2 : ∀ y ∈ st.g, y ≤ st.t.length) (x : Tk) (hl : (gPut st x).t.length ≤ 100000) : (gPut st x).Ok (i + 1) :=
  JS.Ok.put h1 h2 { x with s := spellF x } hl
theorem gGo_step (ts : List Tk) (i : Nat) (st st' : JS) (x : Tk) (hi : i < ts.length) (hx : ts[i]? = some x) (hm : gMid ts i st x = st') : gGo ts (ts.length - i) i st = if 100000 < (gPut st' x).t.length then none else gGo ts (ts.length - (i + 1)) (i + 1) (gPut st' x) := by
  rw [show ts.length - i = (ts.length - (i + 1)) + 1 by omega]
  simp only [gGo, hx, hm]
set_option maxRecDepth 100000 in
set_option maxHeartbeats 6400000 in
theorem c23g (v : Value) (ts : List Tk) (w : World) (hT : TI w) (hP : TP w) (hr : GtSl w v ts) (hv : ∀ t ∈ ts, ValidT t) (hck : Calls Tryz.prog 61 #[v] w (ChkTo w)) : Calls Tryz.prog 23 #[v] w (JoinTo (gJoin ts) w) := by
  have HR := Lib.hid hr
  obtain ⟨a0, cp0, rfl, hc0, hm0, _⟩ := hr
  have CK := Lib.hid hck
  obtain ⟨i0, hi0, hz0, hz1, hz2⟩ := info_parts Tryz.info3
  have HTP := Lib.hid hP
  have HV := Lib.hid hv
  obtain ⟨r, hrj⟩ : ∃ r, gJoin ts = r := ⟨_, rfl⟩
  rw [hrj]
  unfold gJoin at hrj
  clear hck hv hT hP
  by_cases hbig : 20000 < ts.length
  · rw [if_pos hbig] at hrj
    subst hrj
    have hbz : (20000 : Int) < (ts.length : Int) := by omega
    go_enter Tryz.func23, Tryz.ntmps23
    go_wp2_with (go_at_call 61; ((with_reducible refine CK.out.mono ?_); rintro e w1 ⟨p, rfl, hp, hb1⟩; have HB1 := Lib.hid hb1; clear hb1 hp))
    go_ret2
    exact ⟨rfl, HB1.out⟩
  · rw [if_neg hbig] at hrj
    have HRJ := Lib.hid hrj
    have hbz : ¬ ((20000 : Int) < (ts.length : Int)) := by omega
    clear hrj
    go_enter Tryz.func23, Tryz.ntmps23
    go_wp2_with (go_at_call 61; ((with_reducible refine CK.out.mono ?_); rintro e w1 ⟨p, rfl, hp, hb1⟩; have HB1 := Lib.hid hb1; have HP := Lib.hid hp; clear hb1 hp))
    go_loopw [7, 8, 26] (fun s7 s8 s26 wr => ∃ (i : Nat) (t : List UInt8) (g : List Nat) (f : Nat), i ≤ ts.length ∧ s26 = .int .i64 (i : Int) ∧ s8 = .int .i64 (f : Int) ∧ JW w1 w1.heap.size t g s7 wr ∧ JS.Ok ⟨t, g, f⟩ i ∧ gGo ts (ts.length - i) i ⟨t, g, f⟩ = r)
      (fun _ _ s26 _ => ts.length - (intOf s26).toNat)
    case atStart =>
      refine ⟨0, [], [], 0, Nat.zero_le _, rfl, rfl, ⟨.inl ⟨Nat.le_refl _, _, blk_new _ _ rfl _, ⟨rfl, .inl ⟨rfl, rfl⟩⟩, by intro h; cases h⟩, World.ownsRow_nil _ _ _ _, (Below.refl _ _).alloc (Nat.le_refl _) _⟩, ⟨rfl, by omega, by simp, by simp⟩, HRJ.out⟩
    case round =>
      obtain ⟨i, t, g, f, hi, rfl, rfl, hJ, hok, hgo⟩ := hrel
      have HJ := Lib.hid hJ
      have HOK := Lib.hid hok
      have HGO := Lib.hid hgo
      have hW : Below w.heap.size w wr := HB1.out.trans (hJ.bel.mono HB1.out.size)
      have HW := Lib.hid hW
      obtain ⟨ag, ng, rfl⟩ := row_form hJ.row
      clear hJ hok hgo hW
      by_cases hlt : i < ts.length
      · obtain ⟨x, hx⟩ : ∃ x, ts[i]? = some x := ⟨_, List.getElem?_eq_getElem hlt⟩
        have hvx := HV.out x (List.mem_of_getElem? hx)
        obtain ⟨a0', cap, he, hc1, hm1, hcl⟩ := HR.out.below HW.out
        injection he with e1 e2 e3
        subst e1 e3
        obtain ⟨gb, ob, rfl, hgb, hcl⟩ := hcl (by omega)
        obtain ⟨dv, z4, z5, z6, z7, hiv, x0, x1, x2, x3, x4, x5, x6, x7⟩ := hcl i x hx
        obtain ⟨ad, cpd, rfl⟩ := hiv.row
        have hPr := HTP.out.below HW.out
        have C62 := Lib.hid (fun X (hX : Below wr.heap.size wr X) => c62t x z4 z5 z6 z7 _ X hvx (hiv.below hX) (hPr.below hX))
        have hxl := spell_len hvx
        obtain ⟨E, hE⟩ : ∃ E, spellF x = E := ⟨_, rfl⟩
        rw [hE] at C62 hxl
        have HE := Lib.hid hE
        have hxs : E.size ≤ 1000000 := hxl
        have htl := HOK.out.l
        simp only [] at htl
        have b0 : (0 : Int) ≤ (i : Int) := by omega
        have b1 : (i : Int) < (ts.length : Int) := by omega
        have HX := Lib.hid hx
        have HCL := Lib.hid hcl
        clear hcl hiv hvx hx e2 hPr hE hxl
        rcases Nat.eq_zero_or_pos i with hi0z | hpos
        · have hzi : ¬ ((0 : Int) < (i : Int)) := by omega
          have hmid : gMid ts i ⟨t, g, f⟩ x = ⟨t, g, f⟩ := by
            unfold gMid
            rw [if_pos hi0z]
          have HMID := Lib.hid hmid
          have HZ := Lib.hid hi0z
          clear hmid hi0z
          go_wp2_with (go_at_call 62; ((with_reducible refine (C62.out _ ((Below.refl _ _).alloc (Nat.le_refl _) _)).mono ?_); rintro e w5 ⟨rfl, hb3⟩; have HJ3 : Hid (JW w1 w1.heap.size t g (.slice ag g.length ng) w5) := Lib.hid ((HJ.out.alloc _).below hb3); clear hb3))
          obtain ⟨nA, hnA⟩ : ∃ nA, (t).length = nA := ⟨_, rfl⟩
          obtain ⟨L, hL⟩ : ∃ L, (t ++ E.data.toList).length = L := ⟨_, rfl⟩
          have hLn : L = nA + E.size := by rw [← hL, ← hnA, List.length_append]; rfl
          have hnAb : nA ≤ 100001 := by rw [← hnA]; first | (simp only [List.length_append, List.length_cons, List.length_nil]; omega) | omega
          have hgAl : (g).length ≤ 20000 := by first | (show (0 : Nat) ≤ 20000; omega) | (have := HOK.out.n; simp only [] at this; omega)
          have hstep := gGo_step ts i ⟨t, g, f⟩ ⟨t, g, f⟩ x hlt HX.out (HMID.out)
          rw [HGO.out] at hstep
          have hput : (gPut ⟨t, g, f⟩ x).t.length = L := by unfold gPut; rw [HE.out]; exact hL
          rw [hput] at hstep
          have HST := Lib.hid hstep
          have HNA := Lib.hid hnA
          have HLL := Lib.hid hL
          have HB1W : w1.heap.size ≤ w5.heap.size := Nat.le_of_lt HJ3.out.lt
          have HLN := Lib.hid hLn
          have HM := Lib.hid (gOk_mid HOK.out ts x)
          have hL2 : L ≤ 1100001 := by omega
          clear hstep hput hnA hL hLn
          by_cases hbL : 100000 < L
          · have hbLz : (100000 : Int) < (L : Int) := by omega
            go_wp2_with (first | (go_at_call 66; ((with_reducible refine (c66J _ HJ8.out L HLL.out).mono ?_); rintro e w' ⟨rfl, rfl⟩)) | (go_at_call 66; ((with_reducible refine (c66J _ HJ3.out nA HNA.out).mono ?_); rintro e w' ⟨rfl, rfl⟩)) | (at_builtin; refine wpList_append_lies _ rfl _ _ _ rfl w1.heap.size 3 i0 _ 1 8 Tryz.underlying37 hi0 hz0 hz1 hz2 rfl (by omega) _ (g).length ((g).map fun n : Nat => Value.int .i64 (n : Int)) rfl ((HJ3.out.row).alloc _) ⟨w5.heap.size, 0, none⟩ 1 1 [.int .i64 (nA : Int)] rfl rfl (World.news_of_block (cs := #[.int .i64 (nA : Int)]) (t := 3) (fr := (0, 0)) (heap_alloc_new _ _)) (by simp [Value.oneCell']) (by omega) (by unfold maxLen; omega) (by omega) (by simp; omega) _ rfl ?_; intro gg cap1 w7 hown1 hgrow hat hlt1; have HJ7 := Lib.hid (HJ3.out.app _ nA hown1 hgrow); clear hown1 hgrow hat hlt1) | (go_at_call 67; ((with_reducible refine (c67J E _ HJ7.out (by rw [HNA.out]; omega)).mono ?_); rintro e w8 ⟨rfl, hj⟩; have HJ8 := Lib.hid hj; clear hj)))
            go_ret2
            have hre : r = none := by have := HST.out; rw [if_pos hbL] at this; exact this
            subst hre
            exact ⟨rfl, HB1.out.trans (HJ8.out.bel.mono HB1.out.size)⟩
          · have hbLz : ¬ ((100000 : Int) < (L : Int)) := by omega
            go_wp2_with (first | (go_at_call 66; ((with_reducible refine (c66J _ HJ8.out L HLL.out).mono ?_); rintro e w' ⟨rfl, rfl⟩)) | (go_at_call 66; ((with_reducible refine (c66J _ HJ3.out nA HNA.out).mono ?_); rintro e w' ⟨rfl, rfl⟩)) | (at_builtin; refine wpList_append_lies _ rfl _ _ _ rfl w1.heap.size 3 i0 _ 1 8 Tryz.underlying37 hi0 hz0 hz1 hz2 rfl (by omega) _ (g).length ((g).map fun n : Nat => Value.int .i64 (n : Int)) rfl ((HJ3.out.row).alloc _) ⟨w5.heap.size, 0, none⟩ 1 1 [.int .i64 (nA : Int)] rfl rfl (World.news_of_block (cs := #[.int .i64 (nA : Int)]) (t := 3) (fr := (0, 0)) (heap_alloc_new _ _)) (by simp [Value.oneCell']) (by omega) (by unfold maxLen; omega) (by omega) (by simp; omega) _ rfl ?_; intro gg cap1 w7 hown1 hgrow hat hlt1; have HJ7 := Lib.hid (HJ3.out.app _ nA hown1 hgrow); clear hown1 hgrow hat hlt1) | (go_at_call 67; ((with_reducible refine (c67J E _ HJ7.out (by rw [HNA.out]; omega)).mono ?_); rintro e w8 ⟨rfl, hj⟩; have HJ8 := Lib.hid hj; clear hj)))
            go_roundw
            case rel =>
              have hst := HST.out
              rw [if_neg hbL] at hst
              have hm := HM.out
              rw [HMID.out] at hm
              refine ⟨i + 1, t ++ E.data.toList, g ++ [nA], f, by omega, by go_num, rfl, HJ8.out, ?_, ?_⟩
              · have hp := gOk_put hm.1 hm.2.1 x (by unfold gPut; rw [HE.out]; show (t ++ E.data.toList).length ≤ 100000; rw [HLL.out]; omega)
                unfold gPut at hp
                simp only [HNA.out, HE.out] at hp
                exact hp
              · rw [hst]
                unfold gPut
                simp only [HNA.out, HE.out]
            case measure => simp [intOf]; omega
        · have hgl : 0 < g.length := HOK.out.p hpos
          obtain ⟨k, hk⟩ : ∃ k, k = g.length - 5 := ⟨_, rfl⟩
          have hkg : k < g.length := by omega
          have hmax : max ((g.length : Int) - 5) 0 = (k : Int) := by omega
          have hfi : f + g.length = i := HOK.out.n
          obtain ⟨q, cq, hq, hcell⟩ := HJ.out.cell hgl
          injection hq with q1 q2 q3
          subst q1 q3
          have kq := hcell k hkg
          have c0 : (0 : Int) ≤ (k : Int) := by omega
          have c1 : (k : Int) < (g.length : Int) := by omega
          have hpz : (0 : Int) < (i : Int) := by omega
          have KS : Hid (∀ W, JW w1 w1.heap.size t g (.slice (some ⟨q, 0, none⟩) g.length ng) W → W.cell? ⟨q, k, none⟩ = some (.int .i64 (g.getD k 0 : Nat))) := Lib.hid (fun W hW => by
            obtain ⟨q', cq', hq', hcell'⟩ := hW.cell hgl
            injection hq' with q1' q2' q3'
            injection q1' with q1'; injection q1' with q1'
            subst q1'
            exact hcell' k hkg)
          have hgm : g.getD k 0 ≤ t.length := HOK.out.m _ (by rw [List.getD_eq_getElem?_getD, List.getElem?_eq_getElem hkg]; exact List.getElem_mem hkg)
          obtain ⟨gk, hgk⟩ : ∃ gk, g.getD k 0 = gk := ⟨_, rfl⟩
          rw [hgk] at KS hgm kq
          have HGK := Lib.hid hgk
          have C63 := Lib.hid (fun (W : World) (hW : JW w1 w1.heap.size t g (.slice (some ⟨q, 0, none⟩) g.length ng) W) (s : ByteArray) (hs : s.size ≤ 1073741824) => c63g H68 s p _ _ W (HP.out.up hW.bel (Nat.le_of_lt hW.lt)) ((HR.out.below (HB1.out.trans (hW.bel.mono HB1.out.size))).sub2 (f + k) (i + 1) (by omega) (by omega)) hs)
          have w1q : IntKind.i64.wrap ((f : Int) + (k : Int)) = (f : Int) + (k : Int) := IntWalk.i64_in _ (by omega)
          have w2q : IntKind.i64.wrap ((i : Int) + 1) = (i : Int) + 1 := IntWalk.i64_in _ (by omega)
          have w3q : (0 : Int) ≤ (f : Int) + (k : Int) := by omega
          have w4q : (f : Int) + (k : Int) ≤ (i : Int) + 1 := by omega
          have w5q : (i : Int) + 1 ≤ (cp0 : Int) := by omega
          have w6q : ((f : Int) + (k : Int)).toNat = f + k := by omega
          have w7q : ((i : Int) + 1).toNat = i + 1 := by omega
          have w8q : (0 : Int) ≤ (gk : Int) := by omega
          have w9q : (gk : Int) ≤ (t.length : Int) := by omega
          obtain ⟨S, hS⟩ : ∃ S : ByteArray, S = ⟨t.toArray⟩ := ⟨_, rfl⟩
          have hSl : S.size = t.length := by rw [hS]; show t.toArray.size = _; simp
          have w10 : (gk : Int) ≤ (S.size : Int) := by omega
          have w11 : gk ≤ S.size := by omega
          have w12 : (S.size : Int) ≤ 100000 := by omega
          have w13 : (S.extract gk S.size).size + E.size ≤ 9223372036854775807 := by rw [size_ext S gk S.size (Nat.le_refl _)]; omega
          have w14 : S.size - gk + E.size ≤ 9223372036854775807 := by omega
          have w15 : ¬ (9223372036854775807 < S.size - gk + E.size) := by omega
          have w16 : ¬ (9223372036854775807 < (S.extract gk S.size).size + E.size) := by omega
          have HS := Lib.hid hS
          have HSL := Lib.hid hSl
          clear hS hSl
          have w17 : ¬ cp0 = f + k := by omega
          obtain ⟨bq, hbq⟩ : ∃ bq, readF (S.extract gk S.size ++ E) ((ts.drop (f + k)).take (i + 1 - (f + k))) = bq := ⟨_, rfl⟩
          have w18 : (S.extract gk S.size ++ E).size ≤ 1073741824 := by rw [ByteArray.size_append, size_ext S gk S.size (Nat.le_refl _)]; omega
          have W18 := Lib.hid w18
          have HBQ := Lib.hid hbq
          have HK := Lib.hid hk
          have HFI := Lib.hid hfi
          clear hcell q2 hgk hk hfi hbq w18
          go_wp2_with (go_at_call 62; ((with_reducible refine (C62.out _ ((Below.refl _ _).alloc (Nat.le_refl _) _)).mono ?_); rintro e w3 ⟨rfl, hb3⟩; have HJ3 : Hid (JW w1 w1.heap.size t g (.slice (some ⟨q, 0, none⟩) g.length ng) w3) := Lib.hid ((HJ.out.alloc _).below hb3); clear hb3))
          go_region_held3 (fun W : World => W.cell? ⟨q, k, none⟩ = some (.int .i64 (gk : Nat))) (first | exact KS.out _ HJ3.out | exact KS.out _ HJ3.out.drew)
            (first | (go_at_call 64; ((with_reducible refine (c64 _ (by first | exact HJ3.out | exact HJ3.out.drew) S HS.out).mono ?_); rintro e w4 ⟨rfl, hbd, hbb, ho⟩; replace HJ3 : Hid (JW w1 w1.heap.size t g (.slice (some ⟨q, 0, none⟩) g.length ng) w4) := Lib.hid (by first | exact HJ3.out.others hbd hbb ho | exact HJ3.out.drew.others hbd hbb ho); clear hbd hbb ho)) | (go_at_call 63; ((with_reducible refine (C63.out _ (by first | exact HJ3.out | exact HJ3.out.drew) _ W18.out).mono ?_); rintro e w5 ⟨rfl, hbb⟩; rw [HBQ.out]; replace HJ3 : Hid (JW w1 w1.heap.size t g (.slice (some ⟨q, 0, none⟩) g.length ng) w5) := Lib.hid (by first | exact HJ3.out.below hbb | exact HJ3.out.drew.below hbb); clear hbb)))
          rcases bq with _ | _
          · have hmid : gMid ts i ⟨t, g, f⟩ x = ⟨t ++ [32], [], i⟩ := by
              unfold gMid gGlues gText JS.k
              simp only []
              rw [HE.out, if_neg (by omega), ← HK.out, HGK.out, ← HS.out, HBQ.out, if_neg (by decide)]
            have HMID := Lib.hid hmid
            clear hmid
            go_wp2_with (go_at_call 65; ((with_reducible refine (c65J _ HJ3.out (by omega)).mono ?_); rintro e w6 ⟨rfl, hj⟩; have HJ6 := Lib.hid hj.clear; clear hj))
            obtain ⟨nA, hnA⟩ : ∃ nA, (t ++ [32]).length = nA := ⟨_, rfl⟩
            obtain ⟨L, hL⟩ : ∃ L, (t ++ [32] ++ E.data.toList).length = L := ⟨_, rfl⟩
            have hLn : L = nA + E.size := by rw [← hL, ← hnA, List.length_append]; rfl
            have hnAb : nA ≤ 100001 := by rw [← hnA]; first | (simp only [List.length_append, List.length_cons, List.length_nil]; omega) | omega
            have hgAl : (([] : List Nat)).length ≤ 20000 := by first | (show (0 : Nat) ≤ 20000; omega) | (have := HOK.out.n; simp only [] at this; omega)
            have hstep := gGo_step ts i ⟨t, g, f⟩ ⟨t ++ [32], ([] : List Nat), i⟩ x hlt HX.out (HMID.out)
            rw [HGO.out] at hstep
            have hput : (gPut ⟨t ++ [32], ([] : List Nat), i⟩ x).t.length = L := by unfold gPut; rw [HE.out]; exact hL
            rw [hput] at hstep
            have HST := Lib.hid hstep
            have HNA := Lib.hid hnA
            have HLL := Lib.hid hL
            have HB1W : w1.heap.size ≤ w6.heap.size := Nat.le_of_lt HJ6.out.lt
            have HLN := Lib.hid hLn
            have HM := Lib.hid (gOk_mid HOK.out ts x)
            have hL2 : L ≤ 1100001 := by omega
            clear hstep hput hnA hL hLn
            by_cases hbL : 100000 < L
            · have hbLz : (100000 : Int) < (L : Int) := by omega
              go_wp2_with (first | (go_at_call 66; ((with_reducible refine (c66J _ HJ8.out L HLL.out).mono ?_); rintro e w' ⟨rfl, rfl⟩)) | (go_at_call 66; ((with_reducible refine (c66J _ HJ6.out nA HNA.out).mono ?_); rintro e w' ⟨rfl, rfl⟩)) | (at_builtin; refine wpList_append_lies _ rfl _ _ _ rfl w1.heap.size 3 i0 _ 1 8 Tryz.underlying37 hi0 hz0 hz1 hz2 rfl (by omega) _ (([] : List Nat)).length ((([] : List Nat)).map fun n : Nat => Value.int .i64 (n : Int)) rfl ((HJ6.out.row).alloc _) ⟨w6.heap.size, 0, none⟩ 1 1 [.int .i64 (nA : Int)] rfl rfl (World.news_of_block (cs := #[.int .i64 (nA : Int)]) (t := 3) (fr := (0, 0)) (heap_alloc_new _ _)) (by simp [Value.oneCell']) (by omega) (by unfold maxLen; omega) (by omega) (by simp; omega) _ rfl ?_; intro gg cap1 w7 hown1 hgrow hat hlt1; have HJ7 := Lib.hid (HJ6.out.app _ nA hown1 hgrow); clear hown1 hgrow hat hlt1) | (go_at_call 67; ((with_reducible refine (c67J E _ HJ7.out (by rw [HNA.out]; omega)).mono ?_); rintro e w8 ⟨rfl, hj⟩; have HJ8 := Lib.hid hj; clear hj)))
              go_ret2
              have hre : r = none := by have := HST.out; rw [if_pos hbL] at this; exact this
              subst hre
              exact ⟨rfl, HB1.out.trans (HJ8.out.bel.mono HB1.out.size)⟩
            · have hbLz : ¬ ((100000 : Int) < (L : Int)) := by omega
              go_wp2_with (first | (go_at_call 66; ((with_reducible refine (c66J _ HJ8.out L HLL.out).mono ?_); rintro e w' ⟨rfl, rfl⟩)) | (go_at_call 66; ((with_reducible refine (c66J _ HJ6.out nA HNA.out).mono ?_); rintro e w' ⟨rfl, rfl⟩)) | (at_builtin; refine wpList_append_lies _ rfl _ _ _ rfl w1.heap.size 3 i0 _ 1 8 Tryz.underlying37 hi0 hz0 hz1 hz2 rfl (by omega) _ (([] : List Nat)).length ((([] : List Nat)).map fun n : Nat => Value.int .i64 (n : Int)) rfl ((HJ6.out.row).alloc _) ⟨w6.heap.size, 0, none⟩ 1 1 [.int .i64 (nA : Int)] rfl rfl (World.news_of_block (cs := #[.int .i64 (nA : Int)]) (t := 3) (fr := (0, 0)) (heap_alloc_new _ _)) (by simp [Value.oneCell']) (by omega) (by unfold maxLen; omega) (by omega) (by simp; omega) _ rfl ?_; intro gg cap1 w7 hown1 hgrow hat hlt1; have HJ7 := Lib.hid (HJ6.out.app _ nA hown1 hgrow); clear hown1 hgrow hat hlt1) | (go_at_call 67; ((with_reducible refine (c67J E _ HJ7.out (by rw [HNA.out]; omega)).mono ?_); rintro e w8 ⟨rfl, hj⟩; have HJ8 := Lib.hid hj; clear hj)))
              go_roundw
              case rel =>
                have hst := HST.out
                rw [if_neg hbL] at hst
                have hm := HM.out
                rw [HMID.out] at hm
                refine ⟨i + 1, t ++ [32] ++ E.data.toList, ([] : List Nat) ++ [nA], i, by omega, by go_num, rfl, HJ8.out, ?_, ?_⟩
                · have hp := gOk_put hm.1 hm.2.1 x (by unfold gPut; rw [HE.out]; show (t ++ [32] ++ E.data.toList).length ≤ 100000; rw [HLL.out]; omega)
                  unfold gPut at hp
                  simp only [HNA.out, HE.out] at hp
                  exact hp
                · rw [hst]
                  unfold gPut
                  simp only [HNA.out, HE.out]
              case measure => simp [intOf]; omega
          · have hmid : gMid ts i ⟨t, g, f⟩ x = ⟨t, g, f⟩ := by
              unfold gMid gGlues gText JS.k
              simp only []
              rw [HE.out, if_neg (by omega), ← HK.out, HGK.out, ← HS.out, HBQ.out, if_pos rfl]
            have HMID := Lib.hid hmid
            clear hmid
            go_wp2_with fail
            obtain ⟨nA, hnA⟩ : ∃ nA, (t).length = nA := ⟨_, rfl⟩
            obtain ⟨L, hL⟩ : ∃ L, (t ++ E.data.toList).length = L := ⟨_, rfl⟩
            have hLn : L = nA + E.size := by rw [← hL, ← hnA, List.length_append]; rfl
            have hnAb : nA ≤ 100001 := by rw [← hnA]; first | (simp only [List.length_append, List.length_cons, List.length_nil]; omega) | omega
            have hgAl : (g).length ≤ 20000 := by first | (show (0 : Nat) ≤ 20000; omega) | (have := HOK.out.n; simp only [] at this; omega)
            have hstep := gGo_step ts i ⟨t, g, f⟩ ⟨t, g, f⟩ x hlt HX.out (HMID.out)
            rw [HGO.out] at hstep
            have hput : (gPut ⟨t, g, f⟩ x).t.length = L := by unfold gPut; rw [HE.out]; exact hL
            rw [hput] at hstep
            have HST := Lib.hid hstep
            have HNA := Lib.hid hnA
            have HLL := Lib.hid hL
            have HB1W : w1.heap.size ≤ w5.heap.size := Nat.le_of_lt HJ3.out.lt
            have HLN := Lib.hid hLn
            have HM := Lib.hid (gOk_mid HOK.out ts x)
            have hL2 : L ≤ 1100001 := by omega
            clear hstep hput hnA hL hLn
            by_cases hbL : 100000 < L
            · have hbLz : (100000 : Int) < (L : Int) := by omega
              go_wp2_with (first | (go_at_call 66; ((with_reducible refine (c66J _ HJ8.out L HLL.out).mono ?_); rintro e w' ⟨rfl, rfl⟩)) | (go_at_call 66; ((with_reducible refine (c66J _ HJ3.out nA HNA.out).mono ?_); rintro e w' ⟨rfl, rfl⟩)) | (at_builtin; refine wpList_append_lies _ rfl _ _ _ rfl w1.heap.size 3 i0 _ 1 8 Tryz.underlying37 hi0 hz0 hz1 hz2 rfl (by omega) _ (g).length ((g).map fun n : Nat => Value.int .i64 (n : Int)) rfl ((HJ3.out.row).alloc _) ⟨w5.heap.size, 0, none⟩ 1 1 [.int .i64 (nA : Int)] rfl rfl (World.news_of_block (cs := #[.int .i64 (nA : Int)]) (t := 3) (fr := (0, 0)) (heap_alloc_new _ _)) (by simp [Value.oneCell']) (by omega) (by unfold maxLen; omega) (by omega) (by simp; omega) _ rfl ?_; intro gg cap1 w7 hown1 hgrow hat hlt1; have HJ7 := Lib.hid (HJ3.out.app _ nA hown1 hgrow); clear hown1 hgrow hat hlt1) | (go_at_call 67; ((with_reducible refine (c67J E _ HJ7.out (by rw [HNA.out]; omega)).mono ?_); rintro e w8 ⟨rfl, hj⟩; have HJ8 := Lib.hid hj; clear hj)))
              go_ret2
              have hre : r = none := by have := HST.out; rw [if_pos hbL] at this; exact this
              subst hre
              exact ⟨rfl, HB1.out.trans (HJ8.out.bel.mono HB1.out.size)⟩
            · have hbLz : ¬ ((100000 : Int) < (L : Int)) := by omega
              go_wp2_with (first | (go_at_call 66; ((with_reducible refine (c66J _ HJ8.out L HLL.out).mono ?_); rintro e w' ⟨rfl, rfl⟩)) | (go_at_call 66; ((with_reducible refine (c66J _ HJ3.out nA HNA.out).mono ?_); rintro e w' ⟨rfl, rfl⟩)) | (at_builtin; refine wpList_append_lies _ rfl _ _ _ rfl w1.heap.size 3 i0 _ 1 8 Tryz.underlying37 hi0 hz0 hz1 hz2 rfl (by omega) _ (g).length ((g).map fun n : Nat => Value.int .i64 (n : Int)) rfl ((HJ3.out.row).alloc _) ⟨w5.heap.size, 0, none⟩ 1 1 [.int .i64 (nA : Int)] rfl rfl (World.news_of_block (cs := #[.int .i64 (nA : Int)]) (t := 3) (fr := (0, 0)) (heap_alloc_new _ _)) (by simp [Value.oneCell']) (by omega) (by unfold maxLen; omega) (by omega) (by simp; omega) _ rfl ?_; intro gg cap1 w7 hown1 hgrow hat hlt1; have HJ7 := Lib.hid (HJ3.out.app _ nA hown1 hgrow); clear hown1 hgrow hat hlt1) | (go_at_call 67; ((with_reducible refine (c67J E _ HJ7.out (by rw [HNA.out]; omega)).mono ?_); rintro e w8 ⟨rfl, hj⟩; have HJ8 := Lib.hid hj; clear hj)))
              go_roundw
              case rel =>
                have hst := HST.out
                rw [if_neg hbL] at hst
                have hm := HM.out
                rw [HMID.out] at hm
                refine ⟨i + 1, t ++ E.data.toList, g ++ [nA], f, by omega, by go_num, rfl, HJ8.out, ?_, ?_⟩
                · have hp := gOk_put hm.1 hm.2.1 x (by unfold gPut; rw [HE.out]; show (t ++ E.data.toList).length ≤ 100000; rw [HLL.out]; omega)
                  unfold gPut at hp
                  simp only [HNA.out, HE.out] at hp
                  exact hp
                · rw [hst]
                  unfold gPut
                  simp only [HNA.out, HE.out]
              case measure => simp [intOf]; omega
      · have hd : decide (i < ts.length) = false := by simpa using hlt
        have hil : ts.length - i = 0 := by omega
        go_wp2_with (go_at_call 64; ((with_reducible refine (c64 _ HJ.out _ rfl).mono ?_); rintro e w3 ⟨rfl, _, hb3, _⟩; have HB3 := Lib.hid hb3; clear hb3))
        go_ret2
        have hre : r = some t := by rw [← HGO.out, hil]; rfl
        subst hre
        exact ⟨rfl, HW.out.trans (HB3.out.mono HB1.out.size)⟩
end Go.Proofs.YtagcfgoofiibfaaGreatDoor
set_option linter.unusedVariables false
namespace Go.Proofs.YtagcfgoofiibfaaGreatDoor
open Go Go.RowKit
def FewTo (ts : List Gk) (w : World) (e : Ending) (w' : World) : Prop := ∃ b : Bool, e = .returned (.bool b) ∧ (b = true → ts.length ≤ 300) ∧ Below w.heap.size w w'
set_option maxRecDepth 100000 in
set_option maxHeartbeats 3200000 in
theorem c22 (v : Value) (ts : List Gk) (w : World) (hr : GkSl w v ts) : Calls Tryz.prog 22 #[v] w (FewTo ts w) := by
  have HR := Lib.hid hr
  obtain ⟨a0, cp0, rfl, hc0, hm0, _⟩ := hr
  have hml : ts.length ≤ 9223372036854775807 := by unfold maxLen at hm0; omega
  clear hm0 hc0
  go_enter Tryz.func22, Tryz.ntmps22
  go_wp2
  go_loopw [3, 8] (fun s3 s8 wr => ∃ (k : Nat) (z : Int), k ≤ ts.length ∧ s8 = .int .i64 (k : Int) ∧ s3 = .int .i64 z ∧ Below w.heap.size w wr) (fun _ s8 _ => ts.length - (intOf s8).toNat)
  case atStart => exact ⟨0, 0, Nat.zero_le _, rfl, rfl, Below.refl _ _⟩
  case round =>
    obtain ⟨k, z, hk, rfl, rfl, hB⟩ := hrel
    by_cases hlt : k < ts.length
    · obtain ⟨b, o, t, dv, rfl, hb1, ht, hi, x0, x1, x2, x3, x4, x5, x6, x7⟩ := (HR.out.below hB).at k hlt
      obtain ⟨ad, cpd, rfl⟩ := hi.row
      have b0 : (0 : Int) ≤ (k : Int) := by omega
      have b2 : (k : Int) < (ts.length : Int) := by omega
      have HB := Lib.hid hB
      clear hi ht hB
      go_wp2
      go_roundw
      case rel => exact ⟨k + 1, _, by omega, by go_num, rfl, HB.out.trans (((Below.refl wr.heap.size wr).alloc (Nat.le_refl _) _).mono HB.out.size)⟩
      case measure => simp [intOf]; omega
    · have hd : decide (k < ts.length) = false := by simpa using hlt
      have HB := Lib.hid hB
      clear hB
      by_cases h3 : ts.length ≤ 300
      · have h3z : (ts.length : Int) ≤ 300 := by omega
        have H3 := Lib.hid h3
        clear h3
        go_wp2
        go_ret
        exact ⟨_, rfl, fun _ => H3.out, HB.out⟩
      · have h3z : ¬ (ts.length : Int) ≤ 300 := by omega
        clear h3
        go_wp2
        go_ret
        exact ⟨_, rfl, fun h => (by cases h), HB.out⟩
end Go.Proofs.YtagcfgoofiibfaaGreatDoor
set_option linter.unusedVariables false
namespace Go.Proofs.YtagcfgoofiibfaaGreatDoor
open Go Go.RowKit
set_option maxRecDepth 100000 in
set_option maxHeartbeats 3200000 in
theorem c23bad (v : Value) (ts : List Gk) (w : World) (hT : TI w) (hr : GkSl w v ts) (ho : ∀ t ∈ ts, GkOk t) (hb : ts.all vldK = false) : Calls Tryz.prog 23 #[v] w fun e w' => e = .returned (.tuple #[.string ByteArray.empty, .int .i64 25]) ∧ Below w.heap.size w w' := by
  have hck := c61k v ts w hT hr ho
  rw [hb] at hck
  have CK : Hid (Calls Tryz.prog 61 #[v] w fun e w' => e = .returned (.tuple #[.pointer none, .int .i64 25]) ∧ Below w.heap.size w w') := Lib.hid (hck.mono fun e w' h => by
    rcases h with ⟨h, _⟩ | ⟨_, h⟩
    · cases h
    · exact h)
  obtain ⟨a0, cp0, rfl, _⟩ := hr
  clear hck hT ho hb
  go_enter Tryz.func23, Tryz.ntmps23
  go_wp2_with (go_at_call 61; ((with_reducible refine CK.out.mono ?_); rintro e w1 ⟨rfl, hb1⟩; have HB1 := Lib.hid hb1; clear hb1))
  go_ret2
  exact ⟨rfl, HB1.out⟩
set_option maxRecDepth 100000 in
set_option maxHeartbeats 3200000 in
theorem c4no (v : Value) (ts : List Gk) (w : World) (hT : TI w) (hr : GkSl w v ts) (E : Int) (hE : E ≠ 0) (h23 : ∀ X, Below w.heap.size w X → Calls Tryz.prog 23 #[v] X fun e w' => e = .returned (.tuple #[.string ByteArray.empty, .int .i64 E]) ∧ Below X.heap.size X w') :
    Calls Tryz.prog 4 #[v] w fun e w' => e = .returned (.bool true) ∧ Below w.heap.size w w' := by
  have HT := Lib.hid hT
  have HR := Lib.hid hr
  have H23 := Lib.hid h23
  have C22 := Lib.hid (fun X (hX : Below w.heap.size w X) => c22 v ts X (hr.below hX))
  obtain ⟨a0, cp0, rfl, _⟩ := hr
  have hE2 : (E != 0) = true := by simpa using hE
  clear hT h23 hE
  go_enter Tryz.func4, Tryz.ntmps4
  go_wp2_with (first | (go_at_call 16; ((with_reducible refine (c16 _ HT.out).mono ?_); rintro e w' ⟨rfl, hb⟩; have HB := Lib.hid hb; clear hb)) | (go_at_call 22; ((with_reducible refine (C22.out _ HB.out).mono ?_); rintro e w2 ⟨b, rfl, _, hb⟩; have hB := HB.out.trans (hb.mono HB.out.size); clear HB hb; have HB := Lib.hid hB; clear hB; rcases b with _ | _)) | (go_at_call 23; ((with_reducible refine (H23.out _ HB.out).mono ?_); rintro e w3 ⟨rfl, hb⟩; have hB := HB.out.trans (hb.mono HB.out.size); clear HB hb; have HB := Lib.hid hB; clear hB)))
  all_goals
    go_wp2_with (go_at_call 23; ((with_reducible refine (H23.out _ HB.out).mono ?_); rintro e w3 ⟨rfl, hb⟩; have hB := HB.out.trans (hb.mono HB.out.size); clear HB hb; have HB := Lib.hid hB; clear hB))
    go_ret
    exact ⟨rfl, HB.out⟩
end Go.Proofs.YtagcfgoofiibfaaGreatDoor
set_option linter.unusedVariables false
namespace Go.Proofs.YtagcfgoofiibfaaGreatDoor
open Go Go.RowKit
theorem like_of_key {a b : List Tk} (h : a.map Tk.key = b.map Tk.key) : likeL a b = true := by
  have hl : a.length = b.length := by have := congrArg List.length h; simpa using this
  refine (likeL_iff a b).2 ⟨hl, fun j x y hx hy => ?_⟩
  have h1 : (a.map Tk.key)[j]? = (b.map Tk.key)[j]? := by rw [h]
  rw [List.getElem?_map, List.getElem?_map, hx, hy] at h1
  simp only [Option.map_some, Option.some.injEq] at h1
  unfold Tk.key at h1
  injection h1 with e1 e2
  injection e2 with e2 e3
  unfold likeF
  rw [e1, e2, e3]; simp
set_option maxRecDepth 100000 in
set_option maxHeartbeats 6400000 in
theorem c4ok (v : Value) (ts : List Tk) (gs : List Gk) (w : World) (hT : TI w) (hg : GkSl w v gs) (hr : GtSl w v ts) (S : ByteArray) (q : List Tk) (hz : S.size ≤ 100000)
    (h23 : ∀ X, Below w.heap.size w X → Calls Tryz.prog 23 #[v] X fun e w' => e = .returned (.tuple #[.string S, .int .i64 0]) ∧ Below X.heap.size X w')
    (hq : tokens S = .ok q) (hk : likeL q ts = true) (h0 : ∀ x, q[0]? = some x → x.at_ = 0) (he : ∀ x, q[q.length - 1]? = some x → x.en = S.size) (hba : ∀ i x y, q[i]? = some x → q[i + 1]? = some y → BackAt S ts x y) :
    Calls Tryz.prog 4 #[v] w fun e w' => e = .returned (.bool true) ∧ Below w.heap.size w w' := by
  have HT := Lib.hid hT
  have HR := Lib.hid hr
  have H23 := Lib.hid h23
  have C22 := Lib.hid (fun X (hX : Below w.heap.size w X) => c22 v gs X (hg.below hX))
  have C2 := Lib.hid (tok_ok_call S hq)
  have DQ := Lib.hid (tokens_d hq)
  have HLK := Lib.hid hk
  have H0 := Lib.hid h0
  have HE := Lib.hid he
  have HBA := Lib.hid hba
  have HZ := Lib.hid hz
  obtain ⟨a0, cp0, rfl, _⟩ := hg
  clear hT h23 hr hq hk h0 he hba hz
  go_enter Tryz.func4, Tryz.ntmps4
  go_wp2_with (first | (go_at_call 16; ((with_reducible refine (c16 _ HT.out).mono ?_); rintro e w' ⟨rfl, hb⟩; have HB := Lib.hid hb; clear hb)) | (go_at_call 22; ((with_reducible refine (C22.out _ HB.out).mono ?_); rintro e w2 ⟨b, rfl, _, hb⟩; have hB := HB.out.trans (hb.mono HB.out.size); clear HB hb; have HB := Lib.hid hB; clear hB; rcases b with _ | _)))
  all_goals
    go_wp2_with (first | (go_at_call 23; ((with_reducible refine (H23.out _ HB.out).mono ?_); rintro e w3 ⟨rfl, hb⟩; have hB := HB.out.trans (hb.mono HB.out.size); clear HB hb; have HB := Lib.hid hB; clear hB)) | (go_at_call 24; ((with_reducible refine (C2.out _ (TI.below HT.out HB.out)).mono ?_); rintro e w4 ⟨⟨a2, cp2, rfl, hr⟩, hb⟩; have hB := HB.out.trans (hb.mono HB.out.size); have HR2 := Lib.hid hr.sl; clear HB hb hr; have HB := Lib.hid hB; clear hB)) | (go_at_call 25; ((with_reducible refine (c25g _ _ q ts _ HR2.out (HR.out.below HB.out) DQ.out).mono ?_); rintro e w' ⟨rfl, hb⟩; rw [HLK.out]; have hB := HB.out.trans (hb.mono HB.out.size); have hR := HR2.out.below hb; clear HB hb HR2; have HB := Lib.hid hB; have HR2 := Lib.hid hR; clear hB hR; obtain ⟨hc1, hm1⟩ := HR2.out.caps; have hmx : (maxLen : Nat) = 9223372036854775807 := rfl; have hln : (q.length : Int) ≤ 9223372036854775807 := (by omega); clear hc1 hm1 hmx)))
  · go_ret
    exact ⟨rfl, HB.out⟩
  go_loopw [7] (fun s7 wr => ∃ k : Nat, 1 ≤ k ∧ (k ≤ q.length ∨ k = 1) ∧ s7 = .int .i64 (k : Int) ∧ Below w'.heap.size w' wr) (fun s7 _ => q.length - (intOf s7).toNat)
  case atStart => exact ⟨1, Nat.le_refl _, .inr rfl, rfl, Below.refl _ _⟩
  case round =>
    obtain ⟨k, hk1, hk, rfl, hG⟩ := hrel
    have HGr := Lib.hid hG
    clear hG
    by_cases hlt : k < q.length
    · obtain ⟨m, hm⟩ : ∃ m, k = m + 1 := ⟨k - 1, by omega⟩
      obtain ⟨b1, o1, x, dx, hax, hb1, hx, ix, _, _, _, x0, x1, x2, x3, x4, x5, x6, x7⟩ := (HR2.out.below HGr.out).at m (by omega)
      obtain ⟨b2, o2, y, dy, rfl, hb2, hy, iy, _, _, _, y0, y1, y2, y3, y4, y5, y6, y7⟩ := (HR2.out.below HGr.out).at k hlt
      injection hax with hax; injection hax with ha1 ha2
      subst ha1 ha2
      have bk := HBA.out m x y hx (by rw [← hm]; exact hy)
      have hltz : (k : Int) < (q.length : Int) := by omega
      have h0k : (0 : Int) ≤ (k : Int) := by omega
      have hmz : (m : Int) < (q.length : Int) := by omega
      have h0m : (0 : Int) ≤ (m : Int) := by omega
      have wk : IntKind.i64.wrap ((k : Int) - 1) = (m : Int) := by rw [IntWalk.i64_in _ (by omega)]; omega
      have wk2 : (k : Int) - 1 = (m : Int) := by omega
      have wm : IntKind.i64.wrap (m : Int) = (m : Int) := IntWalk.i64_in _ (by omega)
      have HLT := Lib.hid hlt
      have HK := Lib.hid hk
      have HK1 := Lib.hid hk1
      have HM := Lib.hid hm
      by_cases hae : y.at_ = x.en
      · have l1 : ((y.at_ : Int) == (x.en : Int)) = true := by simp [hae]
        clear hx hy ix iy bk hae hlt hk hk1 hm
        go_wp2
        go_quiet (fail)
        go_wp2
        go_roundw
        case rel => exact ⟨k + 1, by omega, .inl (by have := HLT.out; omega), by go_num, HGr.out.trans ((Dr.below (Dr.here _ _) _).mono HGr.out.size)⟩
        case measure => have := HLT.out; simp [intOf]; omega
      · obtain ⟨hy1, hnl⟩ := bk.or.resolve_left hae
        have ble := bk.le
        have hzS := HZ.out
        have l1 : ((y.at_ : Int) == (x.en : Int)) = false := by simp; omega
        have g1 : (0 : Int) ≤ (x.en : Int) := by omega
        have g2 : (x.en : Int) ≤ (S.size : Int) := by omega
        have g3 : (0 : Int) ≤ (y.at_ : Int) := by omega
        have g4 : (y.at_ : Int) ≤ (S.size : Int) := by omega
        have g5 : x.en ≤ S.size := by omega
        have n1 : ¬ 9223372036854775807 < (S.extract 0 x.en).size + (S.extract y.at_ S.size).size := by rw [size_ext S _ _ g5, size_ext S _ _ (Nat.le_refl _)]; omega
        have n2 : ¬ 9223372036854775807 < x.en + (S.size - y.at_) := by omega
        have n3 : (S.extract 0 x.en).size + (S.extract y.at_ S.size).size ≤ 9223372036854775807 := by omega
        have n4 : x.en + (S.size - y.at_) ≤ 9223372036854775807 := by omega
        have w5 : IntKind.i64.wrap ((x.en : Int) + 1) = (x.en : Int) + 1 := IntWalk.i64_in _ (by omega)
        have l2 : ((y.at_ : Int) != (x.en : Int) + 1) = false := by simp; omega
        obtain ⟨T, hTT⟩ : ∃ T, S.extract 0 x.en ++ S.extract y.at_ S.size = T := ⟨_, rfl⟩
        rw [hTT] at hnl
        have HTT := Lib.hid hTT
        rcases htk : tokens T with ⟨a, er⟩ | r
        · have her : er ≠ 0 := by rcases tokens_er htk with h | h <;> omega
          have l3 : (er == 0) = false := by simpa using her
          have C3 := Lib.hid (tok_err_call T htk)
          have HTr := Lib.hid (TI.below HT.out (HB.out.trans (HGr.out.mono HB.out.size)))
          clear hx hy ix iy bk hae hlt hk hk1 hm hy1 hnl ble hzS her htk HTT
          go_wp2
          go_quiet (fail)
          go_wp2
          go_quiet (fail)
          go_wp2_with (go_at_call 24; ((with_reducible refine (C3.out _ (TI.below HTr.out (by first | exact (Dr.below (Dr.here _ _) _) | exact (Dr.below (Dr.here2 _ _ _) _)))).mono ?_); rintro e w4 ⟨rfl, hb⟩; have hw4 : Below wr.heap.size wr w4 := (Dr.below (by first | exact Dr.here _ _ | exact Dr.here2 _ _ _) _).trans (hb.mono (Nat.le_refl _)); have yy := (hw4.cell (p := ⟨b2, o2 + k * 8 + 4, none⟩) hb2).trans y4; have xx := (hw4.cell (p := ⟨b2, o2 + m * 8 + 5, none⟩) hb2).trans x5; have HW4 := Lib.hid hw4; clear hb hw4))
          go_quiet (fail)
          go_wp2
          go_roundw
          case rel => exact ⟨k + 1, by omega, .inl (by have := HLT.out; omega), by go_num, HGr.out.trans ((HW4.out.trans ((Dr.below (Dr.here _ _) _))).mono HGr.out.size)⟩
          case measure => have := HLT.out; simp [intOf]; omega
        · have hnr := hnl r htk
          have C3 := Lib.hid (tok_ok_call T htk)
          have HNR := Lib.hid hnr
          have DR := Lib.hid (tokens_d htk)
          have HWr := Lib.hid (HB.out.trans (HGr.out.mono HB.out.size))
          have HTr := Lib.hid (TI.below HT.out HWr.out)
          have HRr := Lib.hid (HR.out.below HWr.out)
          clear hx hy ix iy bk hae hlt hk hk1 hm hy1 hnl ble hzS htk HTT hnr
          go_wp2
          go_quiet (fail)
          go_wp2
          go_quiet (fail)
          go_wp2_with (go_at_call 24; ((with_reducible refine (C3.out _ (TI.below HTr.out (by first | exact (Dr.below (Dr.here _ _) _) | exact (Dr.below (Dr.here2 _ _ _) _)))).mono ?_); rintro e w4 ⟨⟨a3, cp3, rfl, hr3⟩, hb⟩; have hw4 : Below wr.heap.size wr w4 := (Dr.below (by first | exact Dr.here _ _ | exact Dr.here2 _ _ _) _).trans (hb.mono (Nat.le_refl _)); have yy := (hw4.cell (p := ⟨b2, o2 + k * 8 + 4, none⟩) hb2).trans y4; have xx := (hw4.cell (p := ⟨b2, o2 + m * 8 + 5, none⟩) hb2).trans x5; have HW4 := Lib.hid hw4; have HR3 := Lib.hid hr3.sl; have HR4 := Lib.hid (HRr.out.below hw4); clear hr3; clear hb hw4))
          have hb24 : b2 < w4.heap.size := Nat.lt_of_lt_of_le hb2 HW4.out.size
          have KS : Hid (∀ W, Below w4.heap.size w4 W → W.cell? ⟨b2, o2 + k * 8 + 4, none⟩ = some (.int .i64 (y.at_ : Int)) ∧ W.cell? ⟨b2, o2 + m * 8 + 5, none⟩ = some (.int .i64 (x.en : Int))) := Lib.hid (fun W hW => ⟨(hW.cell (p := ⟨b2, o2 + k * 8 + 4, none⟩) hb24).trans yy, (hW.cell (p := ⟨b2, o2 + m * 8 + 5, none⟩) hb24).trans xx⟩)
          have HB4 : Hid (Below w4.heap.size w4 w4) := Lib.hid (Below.refl _ _)
          clear yy xx hb24
          go_region_held3 (fun W : World => W.cell? ⟨b2, o2 + k * 8 + 4, none⟩ = some (.int .i64 (y.at_ : Int)) ∧ W.cell? ⟨b2, o2 + m * 8 + 5, none⟩ = some (.int .i64 (x.en : Int))) (first | exact KS.out _ HB4.out | exact KS.out _ HB4.out.drew)
            ((go_at_call 25; ((with_reducible refine (c25g _ _ r ts _ (HR3.out.below (by first | exact HB4.out | exact HB4.out.drew)) (HR4.out.below (by first | exact HB4.out | exact HB4.out.drew)) DR.out).mono ?_); rintro e w6 ⟨rfl, hbb⟩; rw [HNR.out]; replace HB4 : Hid (Below w4.heap.size w4 w6) := Lib.hid (by first | exact HB4.out.trans (hbb.mono HB4.out.size) | exact HB4.out.drew.trans (hbb.mono HB4.out.size)); clear hbb)))
          all_goals
            go_wp2
            go_roundw
            case rel => exact ⟨k + 1, by omega, .inl (by have := HLT.out; omega), by go_num, HGr.out.trans ((HW4.out.trans (HB4.out.mono HW4.out.size)).mono HGr.out.size)⟩
            case measure => have := HLT.out; simp [intOf]; omega
    · have hltz : ¬ ((k : Int) < (q.length : Int)) := by omega
      by_cases hq0 : q.length = 0
      · have hz0 : ((q.length : Int) == 0) = true := by simp [hq0]
        clear hq0
        go_wp2
        go_ret
        exact ⟨rfl, HB.out.trans (HGr.out.mono HB.out.size)⟩
      · obtain ⟨b1, o1, x, dx, hax, hb1, hx, ix, _, _, _, x0, x1, x2, x3, x4, x5, x6, x7⟩ := (HR2.out.below HGr.out).at 0 (by omega)
        obtain ⟨M, hM⟩ : ∃ M, q.length = M + 1 := ⟨q.length - 1, by omega⟩
        obtain ⟨b2, o2, y, dy, rfl, hb2, hy, iy, _, _, _, y0, y1, y2, y3, y4, y5, y6, y7⟩ := (HR2.out.below HGr.out).at M (by omega)
        injection hax with hax; injection hax with ha1 ha2
        subst ha1 ha2
        have f0 := H0.out x hx
        have f1 := HE.out y (by rw [hM]; exact hy)
        rw [f0] at x4
        rw [f1] at y5
        have x4' : wr.cell? ⟨b2, o2 + 4, none⟩ = some (.int .i64 0) := by simpa using x4
        have hz0 : ((q.length : Int) == 0) = false := beq_eq_false_iff_ne.2 (by omega)
        have wM : IntKind.i64.wrap ((q.length : Int) - 1) = (M : Int) := by rw [IntWalk.i64_in _ (by omega)]; omega
        have wM2 : (q.length : Int) - 1 = (M : Int) := by omega
        have wM3 : wrap64 ((q.length : Int) - 1) = (M : Int) := by rw [wM2]; unfold wrap64; omega
        have b0 : (0 : Int) ≤ (M : Int) := by omega
        have b2' : (M : Int) < (q.length : Int) := by omega
        have b3 : (0 : Int) < (q.length : Int) := by omega
        clear hx hy ix iy f0 f1 hM hq0 hlt hk hk1
        go_wp2
        go_ret
        exact ⟨rfl, HB.out.trans (HGr.out.mono HB.out.size)⟩
end Go.Proofs.YtagcfgoofiibfaaGreatDoor
set_option linter.unusedVariables false
namespace Go.Proofs.YtagcfgoofiibfaaGreatDoor
open Go Go.RowKit
theorem gJoin_len {ts : List Tk} {out : List UInt8} (h : gJoin ts = some out) : ts.length ≤ 20000 := by
  unfold gJoin at h
  split at h
  · cases h
  · omega
theorem c4 (v : Value) (gs : List Gk) (w : World) (hT : TI w) (hP : TP w) (hg : GkSl w v gs) (ho : ∀ t ∈ gs, GkOk t) : Calls Tryz.prog 4 #[v] w fun e w' => e = .returned (.bool true) ∧ Below w.heap.size w w' := by
  rcases hb : gs.all vldK with _ | _
  · exact c4no v gs w hT hg 25 (by decide) fun X hX => c23bad v gs X (TI.below hT hX) (hg.below hX) ho hb
  · have hall := List.all_eq_true.1 hb
    have hgt : GtSl w v (gs.map Gk.tk) := hg.gt fun t ht => (vldK_ok (hall t ht)).2
    have hv : ∀ t ∈ gs.map Gk.tk, ValidT t := fun t ht => by
      obtain ⟨g, hg1, rfl⟩ := List.mem_map.1 ht
      exact (vldK_ok (hall g hg1)).1
    have h23 : ∀ X, Below w.heap.size w X → Calls Tryz.prog 23 #[v] X (JoinTo (gJoin (gs.map Gk.tk)) X) := fun X hX =>
      c23g v (gs.map Gk.tk) X (TI.below hT hX) (hP.below hX) (hgt.below hX) hv ((c61k v gs X (TI.below hT hX) (hg.below hX) ho).mono fun e w' h => by
        rcases h with ⟨_, h⟩ | ⟨h, _⟩
        · exact h
        · rw [hb] at h; cases h)
    rcases hj : gJoin (gs.map Gk.tk) with _ | out
    · rw [hj] at h23
      exact c4no v gs w hT hg 2 (by decide) fun X hX => h23 X hX
    · rw [hj] at h23
      have hsz : out.length ≤ 100000 := by
        rcases gJoin_jr hv hj with ⟨_, rfl⟩ | ⟨_, _, _, _, _, h⟩
        · simp
        · exact h
      obtain ⟨q, h1, h2, h3, h4, h5⟩ := back_plain hv (gJoin_len hj) hj ⟨out.toArray⟩ rfl
      exact c4ok v (gs.map Gk.tk) gs w hT hg hgt ⟨out.toArray⟩ q hsz (fun X hX => h23 X hX) h1 (like_of_key h2) h3 h4 h5
end Go.Proofs.YtagcfgoofiibfaaGreatDoor
namespace Go.Proofs.YtagcfgoofiibfaaGreatDoor
open Go Go.ChangeShapes Go.WideShapes Go.ChangeAt Go.RowKit
theorem pow_data : (Rows.laid_internal_strconv_uint64pow10 : DataW Unit) = Lib.tabData .u64 Lib.pow10Tab := by kernel_rfl
theorem glob_pow : Tryz.prog.globalNamed "internal/strconv.uint64pow10" = some 5 := by kernel_rfl
theorem tp_of_laid {W : World} (h : laidMetH Tryz.prog laidL W) : TP W := by
  rw [MakeChecks.laidMetH_plain _ _ _ (by kernel_rfl)] at h
  obtain ⟨g, t, cs, fuel, p, hg, hty, hv, hd⟩ := Lib.laidMet.reads h (n := "internal/strconv.uint64pow10") (d := Rows.laid_internal_strconv_uint64pow10) (by unfold laidL Rows.lexBytesRow; simp)
  rw [pow_data] at hd
  obtain rfl := Option.some.inj (glob_pow.symm.trans hg)
  obtain ⟨e, he⟩ : ∃ e, (Tryz.prog.globals[5]?).map (·.type) = some e ∧ Tryz.prog.underlying e = some (.array 20 148) ∧ Tryz.prog.cellsOf e = 20 := ⟨_, rfl, by kernel_rfl, by kernel_rfl⟩
  obtain rfl := Option.some.inj (he.1.symm.trans hty)
  have := Lib.cells_of_tab he.2.1 (show Tryz.prog.underlying 148 = some (.int .u64) by kernel_rfl) (by kernel_rfl) he.2.2 hd
  unfold TP Lib.TabIs
  rw [hv, ← this]
end Go.Proofs.YtagcfgoofiibfaaGreatDoor
namespace Go.Proofs.YtagcfgoofiibfaaGreatDoor
open Go Go.ChangeMaps Go.ChangeShapes Go.WideShapes Go.ChangeAt Go.RowKit
set_option maxRecDepth 100000 in
theorem lexBack_lifted (os : Os) (started : os.Started) (H : Type) (enc : TypeId × Value → H) :
    ReturnsInHanded {} Tryz.checked os 4 .any (fun w args => (Rows.lexBackSpec.pre enc Tryz.prog Tryz.f4 [] false w args ∧ laidMetH Tryz.prog laidL w) ∧ sizedMet enc Tryz.prog Tryz.f4 (OpenSpec.ofChange Rows.lexBackSpec) false w args)
      (Rows.lexBackSpec.post enc Tryz.prog Tryz.f4 false true false false) := by
  refine returnsInHanded_of_change_and (C := Tryz.checked) (X := fun w _ => laidMetH Tryz.prog laidL w) (fun _ _ _ hh h => h.of_heap hh) own started (by kernel_rfl) Tryz.func4
    (ChangeSpec.witness_shaped (enc := enc) (C := Tryz.checked) (os := os) (X := fun w _ => laidMetH Tryz.prog laidL w) false (World.laidAll Tryz.prog os laidL) #[.slice none 0 0] 8 (World.laidAll_os _ _ _)
      (start_shaped os) (by kernel_rfl) (by kernel_rfl) (by kernel_rfl) (start_met os _)) ?_
  intro W base args ds gs before hval0 hW _ _ hL _
  have hval : ∀ (j : Nat) t v, Tryz.f4.params[j]? = some t → args[j]? = some v → Value.okWide Tryz.prog W .any base t v := hval0
  have hW' := hW
  obtain ⟨p, q, hA0, hV, rfl, _, _⟩ := hW
  have hA : DataW.TrodAll enc Tryz.prog W 0 (fun _ => true) true Tryz.f4.params.toList args.toList ds p := hA0
  rw [Tryz.params4] at hA hval
  obtain ⟨v0, d0, rfl, rfl, h0⟩ := trodAll_one hA
  obtain ⟨rfl, rfl⟩ := trodVars_none hV
  have h0k := h0
  obtain ⟨a0, len, cap, rfl⟩ := okWide_slice Tryz.underlying30 (hval 0 30 v0 rfl rfl)
  obtain ⟨fuel, hf⟩ := h0
  obtain ⟨v, ts, hcs, hgk, hok⟩ := open_toks hf
  simp [Value.cells] at hcs
  subst hcs
  simp only [List.append_nil] at hW'
  refine (c4 _ ts W (ti_of_laid hL) (tp_of_laid hL) hgk hok).mono fun e W' ⟨he, hb⟩ => ?_
  subst he
  have hlt : ∀ x ∈ p, x.block < W.heap.size := fun x hx => by simpa using hW'.lt x hx
  exact ⟨_, rfl, _, _, _, [], p, [], hW', trodAll_mk1 (shut_bool Tryz.underlying4 _), trodAll_mk1 (Below.trod lexBack_fact1 (by kernel_rfl) (of_decide_eq_true (by kernel_rfl)) h0k hb hlt), rfl, hb.frame _, fun h => by cases h⟩
theorem lexBack_bare : Rows.LexBackSaid :=
  OpenClaim.holds_of_wide 4 Tryz.f4 rfl rfl rfl rfl rfl rfl rfl ⟨rfl, rfl, rfl, rfl, rfl⟩ rfl rfl rfl rfl rfl lexBack_named Tryz.func4 lexBack_closed
    (of_decide_eq_true (by kernel_rfl)) lexBack_wrap (fun os started H enc _ => lexBack_lifted os started H enc)
theorem lexBack_holds : Rows.LexBackCardSaid :=
  Claim7.holds_tied_plain_at .later [] [.data, .data, .data, .data, .listed, .data, .pinned] true (true, "598e79093b2262133a9d99cdf3b0e1040e74e7a98986b3c01bfbd78ee9122216") true
    lexBack_bare (fun _ h => by cases h) (by kernel_rfl) (fun _ h => by cases h) lexBack_row_tie rfl ⟨rfl, rfl⟩ lexBack_main rfl
    (fun f fn hf hfn => by
      obtain rfl : f = 4 := Option.some.inj (lexBack_named.symm.trans hf) |>.symm
      obtain rfl : fn = Tryz.f4 := (Option.some.inj (Tryz.func4.symm.trans hfn)).symm
      exact ⟨lexBack_looks, fun j t ht => by
        rw [Tryz.params4] at ht
        have hm : t ∈ [30] := by simpa using Array.mem_of_getElem? ht
        have hall : ([30].all fun u => !Tryz.prog.wantsStandIn u) = true := by kernel_rfl
        exact (show Tryz.prog.wantsStandIn t = false by simpa using List.all_eq_true.1 hall t hm)⟩)
    lexBack_goes
#print axioms lexBack_holds
end Go.Proofs.YtagcfgoofiibfaaGreatDoor
