/-
  The walk of CompBook. Conditions: as each theorem states.
  The law CompBook. Conditions: as each theorem states.
-/
import Derived.Test.YtecaolkbllbokaaMB34
namespace Go.Proofs.Ytecaolkbllbokaa.TG
open Go.RowKit Go.Great
set_option linter.unusedSimpArgs false
set_option linter.unusedVariables false

set_option maxRecDepth 100000 in
set_option maxHeartbeats 16000000 in
theorem book_main (u : Un) (mem : Int) (pt pf : Option Addr) (ct cf B : Nat) (w : World) (hL : LawU w B pt pf ct u) (hfar : farB u = false) (hc0 : compE u mem = 0) (hc1 : compE u 65536 = 0) :
    Calls Try.prog 6 #[.agg #[.slice pt u.texts.length ct, .slice pf u.funcs.length cf], .int .i64 mem] w fun e w' => e = .returned (.bool true) ∧ w.grownBy w' none := by
  have hU := hL.at_
  have FA := Lib.hid (fun (W : World) (g : w.grownBy W none) => far_any u hL.sz pt pf ct cf B W (unitAt_kept hU g (by simp)))
  have RC := Lib.hid (fun (W : World) (g : w.grownBy W none) => rcompile_any u mem pt pf ct cf B W (unitAt_kept hU g (by simp)) (unOK_kept hL.ok hU g))
  have RO := Lib.hid (fun (W : World) (g : w.grownBy W none) => rorig_any u pt pf ct cf B W (unitAt_kept hU g (by simp)) (unOK_kept hL.ok hU g))
  have CO := Lib.hid (fun (W : World) (g : w.grownBy W none) => comp_any u mem pt pf ct cf B W (unitAt_kept hU g (by simp)) (unOK_kept hL.ok hU g))
  have OG := Lib.hid (fun (W : World) (g : w.grownBy W none) => orig_any u pt pf ct cf B W (unitAt_kept hU g (by simp)) (unOK_kept hL.ok hU g))
  have BX := Lib.hid (boxU_new w (.slice pt u.texts.length ct) (.slice pf u.funcs.length cf))
  have G0 := Lib.hid (World.grownBy_alloc w (.cells #[.slice pt u.texts.length ct, .slice pf u.funcs.length cf] 25) none)
  have b0 := boxU_0 BX.out
  have b1 := boxU_1 BX.out
  have bl := boxU_lt BX.out
  have HFAR := Lib.hid hfar
  have HC0 := Lib.hid hc0
  have HC1 := Lib.hid hc1
  have SM := Lib.hid (pgU_small u mem)
  have SO := Lib.hid (orgsU_small u)
  have ON := orgs_n hc1
  obtain ⟨on1, on2, on3⟩ := ON
  have hni : ((orgsU u).length : Int) ≤ 64 := by omega
  have hnj : (1 : Int) ≤ ((orgsU u).length : Int) := by omega
  have OP := Lib.hid (orgs_pos hc1)
  obtain ⟨qi, qi0, qi1, qi2, qi3⟩ := info_parts pgm_info
  obtain ⟨ti, ti0, ti1, ti2, ti3⟩ := info_parts ints_info
  obtain ⟨li, li0, li1, li2, li3⟩ := info_parts lists_info
  clear hL hU hfar hc0 hc1 on1
  go_enter Try.func6, Try.ntmps6
  go_wp2_with (first
    | (go_at_call 8; refine (FA.out _ G0.out).mono ?_; rintro e w1 ⟨he, g1⟩; rw [HFAR.out] at he; subst he; have X1 := Lib.hid (boxU_kept BX.out g1 (by simp)); have b0 := boxU_0 X1.out; have b1 := boxU_1 X1.out; have bl := boxU_lt X1.out; have G1 := Lib.hid (grownBy_trans G0.out g1); clear g1)
    | (go_at_call 12; refine (RC.out _ G1.out).mono ?_; intro e w2 hp; obtain ⟨vd2, vF2, he, g2, o2⟩ := prog_of_ref hp; obtain ⟨pd2, cd2, pF2, cF2, e2, e2'⟩ := prog_slices o2; subst e2; subst e2'; rw [HC0.out] at he; subst he; have A2 := Lib.hid (World.grownBy_alloc w2 (.cells #[.int .i64 (pgU u mem).mem, .slice pd2 (pgU u mem).data.length cd2, .slice pF2 (pgU u mem).funcs.length cF2] 32) none); have X3 := Lib.hid (boxU_kept (boxU_kept X1.out g2 (by simp)) A2.out (by simp)); have V3 := Lib.hid (heap_alloc_new w2 (.cells #[.int .i64 (pgU u mem).mem, .slice pd2 (pgU u mem).data.length cd2, .slice pF2 (pgU u mem).funcs.length cF2] 32)); have R3 := Lib.hid (prog_kept o2 A2.out); have G3 := Lib.hid (grownBy_trans (grownBy_trans G1.out g2) A2.out); have b0 := boxU_0 X3.out; have b1 := boxU_1 X3.out; have bl := boxU_lt X3.out; clear hp g2 o2 A2)
    | (go_at_call 16; refine (RO.out _ G3.out).mono ?_; intro e w4 hp; obtain ⟨v4, he, g4, o4⟩ := org_of_ref hp; obtain ⟨p4, c4, hv4⟩ := org_slice o4; subst hv4; rw [HC1.out] at he; subst he; have X4 := Lib.hid (boxU_kept X3.out g4 (by simp)); have V4 := Lib.hid (boxP_kept V3.out g4 (by simp)); have R4 := Lib.hid (prog_kept R3.out g4); have O4 := Lib.hid o4; have G4 := Lib.hid (grownBy_trans G3.out g4); have b0 := boxU_0 X4.out; have b1 := boxU_1 X4.out; have bl := boxU_lt X4.out; clear hp g4 o4))
  clear b0 b1 bl
  go_loopw [9, 10, 11, 12] (fun vp vi vl t wr => ∃ (ps : List P1) (vs lv : List Value), t = .int .i64 (ps.length : Nat) ∧ ps.length ≤ 3 ∧ Book w4.heap.size wr u (pgU u mem).mem (orgsU u).length vp vi vl ps vs lv ∧ w4.grownBy wr none) (fun _ _ _ t _ => 3 - (intOf t).toNat)
  case atStart => exact ⟨[], [], [], rfl, by decide, book_nil _ _ _ _ _, grownBy_refl _ _⟩
  case round =>
    obtain ⟨ps, vs, lv, rfl, hps, hB, hg⟩ := hrel
    have HB := Lib.hid hB
    have HG := Lib.hid hg
    have X5 := Lib.hid (boxU_kept X4.out hg (by simp))
    have V5 := Lib.hid (boxP_kept V4.out hg (by simp))
    have R5 := Lib.hid (prog_kept R4.out hg)
    have b0 := boxU_0 X5.out
    have b1 := boxU_1 X5.out
    have bl := boxU_lt X5.out
    by_cases hlt : (ps.length : Int) < 3
    · have hvs : vs.length ≤ 192 := by
        rw [hB.n1]
        exact Nat.mul_le_mul (show ps.length ≤ 3 by omega) on3
      have hlv : lv.length ≤ 3 := by rw [hB.n2]; omega
      have hc3 : ps.length + 1 ≤ maxLen := by unfold maxLen; omega
      have hc4 : (ps.length + 1) * 56 ≤ 140737488355328 := by omega
      have hc5 : vs.length + (orgsU u).length ≤ maxLen := by unfold maxLen; omega
      have hc6 : (vs.length + (orgsU u).length) * 24 ≤ 140737488355328 := by omega
      have hc7 : lv.length + 1 ≤ maxLen := by unfold maxLen; omega
      have hc8 : (lv.length + 1) * 24 ≤ 140737488355328 := by omega
      clear hB hg
      go_wp2_with (first
        | (go_at_call 11; refine (CO.out _ (grownBy_trans G4.out HG.out)).mono ?_; intro e w5 hp; obtain ⟨P, pd, cd, pF, cF, eD, eF, rfl, g5, o5, a5, l5, k5⟩ := p1_made HC0.out hp; have ED := Lib.hid eD; have EF := Lib.hid eF; have A5 := Lib.hid (World.grownBy_alloc w5 (.cells #[.int .i64 (pgU u mem).mem, .slice pd (pgU u mem).data.length cd, .slice pF (pgU u mem).funcs.length cF] 32) none); have X6 := Lib.hid (boxU_kept (boxU_kept X5.out g5 (by simp)) A5.out (by simp)); have V6 := Lib.hid (boxP_kept (boxP_kept V5.out g5 (by simp)) A5.out (by simp)); have Z6 := Lib.hid (heap_alloc_new w5 (.cells #[.int .i64 (pgU u mem).mem, .slice pd (pgU u mem).data.length cd, .slice pF (pgU u mem).funcs.length cF] 32)); have O6 := Lib.hid (prog_kept o5 A5.out); have G6 := Lib.hid (grownBy_trans g5 A5.out); have P5 := Lib.hid a5; have L5 := Lib.hid l5; have K5 := Lib.hid k5; have GG := Lib.hid g5; have b0 := boxU_0 X6.out; have b1 := boxU_1 X6.out; have bl := boxU_lt X6.out; clear hp g5 o5 a5 l5 k5 eD eF)
        | (go_at_call 15; refine (OG.out _ (grownBy_trans (grownBy_trans G4.out HG.out) G6.out)).mono ?_; intro e w7 hp; obtain ⟨v7, xs, rfl, g7, l7⟩ := lists_of_comp HC1.out hp; obtain ⟨gv, cv, hv7, hgl7, hc7x⟩ := own_get l7.ow on2; subst hv7; have LS7 := Lib.hid l7; have G7 := Lib.hid (grownBy_trans G6.out g7); have GA7 := Lib.hid (grownBy_trans A5.out g7); have Z7 := Lib.hid (boxP_kept Z6.out g7 (by simp)); have V7 := Lib.hid (boxP_kept V6.out g7 (by simp)); have O7 := Lib.hid (prog_kept O6.out g7); have R7 := Lib.hid (prog_kept R5.out G7.out); obtain ⟨p0, p1, p2, pl⟩ := boxP_see Z7.out; obtain ⟨q0, q1, q2, ql⟩ := boxP_see V7.out; clear hp g7 l7 hgl7 hc7x b0 b1 bl)
        | (go_at_call 14; refine (prog_same (pgU u mem) _ _ _ _ _ _ w7 SM.out.1 SM.out.2.1 SM.out.2.2 O7.out R7.out).mono ?_; rintro e w8 ⟨rfl, g8⟩; have Z8 := Lib.hid (boxP_kept Z7.out g8 (by simp)); have T8 := Lib.hid (turn_at HB.out HG.out.size GG.out P5.out K5.out L5.out GA7.out LS7.out G6.out.size g8 OP.out); clear p0 p1 p2 pl q0 q1 q2 ql; obtain ⟨p0, p1, p2, pl⟩ := boxP_see Z8.out; have G8 := Lib.hid (grownBy_trans HG.out (grownBy_trans G7.out g8)); clear g8)
        | (at_builtin; refine wpList_append_own_at _ rfl _ _ 50 rfl w4.heap.size 32 qi (.agg #[.int .i64 0, .slice none 0 0, .slice none 0 0]) 3 56 pgm_und qi0 qi1 qi2 qi3 rfl (by decide) u9 _ _ rfl (T8.out.p.po.alloc _) ⟨w8.heap.size, 0, none⟩ 1 1 [.int .i64 (pgU u mem).mem, .slice pd (pgU u mem).data.length cd, .slice pF (pgU u mem).funcs.length cF] rfl rfl (three_new w8 _ _ _ _) (three_cell _ _ _ _ _ _ _) hc3 hc4 (Nat.le_trans G8.out.size (World.grownBy_alloc w8 _ none).size) ?_; intro v9 w9 hown9 hgr9 hnil9 hat9; have TA := turn_a T8.out hgr9 (by rw [ED.out, EF.out]; exact hown9); obtain ⟨ta1, ta2, ta3, ta4⟩ := TA; have P9 := Lib.hid ta1; have I9 := Lib.hid ta2; have L9 := Lib.hid ta3; have S9 := Lib.hid ta4; have G9 := Lib.hid (grow_row (grownBy_trans G8.out (World.grownBy_alloc w8 _ none)) hgr9 (fun k hk => (T8.out.p.po.lt k hk).1)); have H9 := Lib.hid (Nat.le_trans (World.grownBy_alloc w8 _ none).size hgr9.size); clear hown9 hgr9 hnil9 hat9 ta1 ta2 ta3 ta4)
        | (at_builtin; refine wpList_append_own_at _ rfl _ _ 41 rfl w4.heap.size 47 ti (.slice none 0 0) 1 24 ints_und ti0 ti1 ti2 ti3 rfl (by decide) u10 _ _ rfl I9.out.io ⟨gv, 0, none⟩ (orgsU u).length cv xs rfl (by rw [S9.out.len]; simp) (lists_news S9.out) (lists_one S9.out) hc5 hc6 G9.out.size ?_; intro v10 w10 hown10 hgr10 hnil10 hat10; have TB := turn_b T8.out P9.out I9.out L9.out S9.out (Nat.le_trans T8.out.bw H9.out) hgr10 hown10 hat10; obtain ⟨tb1, tb2, tb3, tb4, tb5⟩ := TB; have P10 := Lib.hid tb1; have I10 := Lib.hid tb2; have L10 := Lib.hid tb3; have S10 := Lib.hid tb4; have N10 := Lib.hid tb5; have G10 := Lib.hid (grow_row G9.out hgr10 (fun k hk => (I9.out.io.lt k hk).1)); clear hown10 hgr10 hnil10 hat10 tb1 tb2 tb3 tb4 tb5)
        | (at_builtin; refine wpList_append_own_at _ rfl _ _ 51 rfl w4.heap.size 41 li (.slice none 0 0) 1 24 lists_und li0 li1 li2 li3 rfl (by decide) u11 _ _ rfl (L10.out.lr.alloc _) ⟨w10.heap.size, 0, none⟩ 1 1 [.slice (some ⟨gv, 0, none⟩) (orgsU u).length cv] rfl rfl (one_new w10 _ _) (one_slice _ _ _) hc7 hc8 (Nat.le_trans G10.out.size (World.grownBy_alloc w10 _ none).size) ?_; intro v11 w11 hown11 hgr11 hnil11 hat11; have TC := Lib.hid (turn_c P10.out I10.out L10.out S10.out N10.out hgr11 hown11); have G11 := Lib.hid (grow_row (grownBy_trans G10.out (World.grownBy_alloc w10 _ none)) hgr11 (fun k hk => (L10.out.lr.lt k hk).1)); clear hown11 hgr11 hnil11 hat11))
      go_roundw
      case rel => exact ⟨ps ++ [P], vs ++ xs, lv ++ [_], (by simp), (by rw [List.length_append]; simp; omega), turn_end TC.out HB.out.n1 HB.out.n2 T8.out.ls.len, G11.out⟩
      case measure => simp [intOf]; omega
    · have h3 : ps.length = 3 := by omega
      have hvn : vs.length = 3 * (orgsU u).length := by rw [hB.n1, h3]
      have hv0 : 0 < vs.length := by omega
      have hv1 : vs.length ≤ 100000 := by omega
      have hl3 : lv.length = 3 := by rw [hB.n2, h3]
      have LB := Lib.hid (hB.l)
      obtain ⟨Al, cAl, gl0, cl0, hvl, -⟩ := bkL_see hB.l on2 (i := 0) (by omega)
      rw [hl3] at hvl
      subst hvl
      obtain ⟨wB, hwB⟩ : ∃ wB, wB = wr := ⟨_, rfl⟩
      subst hwB
      clear hB hg
      go_wp2_with (first
        | (go_at_call 11; refine (CO.out _ (grownBy_trans G4.out HG.out)).mono ?_; intro e w5 hp; obtain ⟨vd5, vF5, he, g5, o5⟩ := prog_of_comp hp; obtain ⟨pd, cd, pF, cF, e5, e5'⟩ := prog_slices o5; subst e5; subst e5'; rw [HC0.out] at he; subst he; have A5 := Lib.hid (World.grownBy_alloc w5 (.cells #[.int .i64 (pgU u mem).mem, .slice pd (pgU u mem).data.length cd, .slice pF (pgU u mem).funcs.length cF] 32) none); have X6 := Lib.hid (boxU_kept (boxU_kept X5.out g5 (by simp)) A5.out (by simp)); have Z6 := Lib.hid (heap_alloc_new w5 (.cells #[.int .i64 (pgU u mem).mem, .slice pd (pgU u mem).data.length cd, .slice pF (pgU u mem).funcs.length cF] 32)); have O6 := Lib.hid (prog_kept o5 A5.out); have G6 := Lib.hid (grownBy_trans g5 A5.out); have GG := Lib.hid g5; have b0 := boxU_0 X6.out; have b1 := boxU_1 X6.out; have bl := boxU_lt X6.out; clear hp g5 o5)
        | (go_at_call 15; refine (OG.out _ (grownBy_trans (grownBy_trans G4.out HG.out) G6.out)).mono ?_; intro e w7 hp; obtain ⟨v7, he, g7, o7⟩ := org_of_comp hp; obtain ⟨p7, c7, hv7⟩ := org_slice o7; subst hv7; rw [HC1.out] at he; subst he; have G7 := Lib.hid (grownBy_trans G6.out g7); have Z7 := Lib.hid (boxP_kept Z6.out g7 (by simp)); have O7 := Lib.hid (prog_kept O6.out g7); have OR7 := Lib.hid o7; clear hp g7 o7 b0 b1 bl)
        | (go_at_call 20; obtain ⟨A, cA, K, G, hvp, hgs, hgo, hin, hty⟩ := book_gr2 HB.out.p h3 G7.out; subst hvp; refine (grown_progs A cA K 3 G (pAt ps) w7 (by decide) hgo hgs).mono ?_; rintro e w8 ⟨rfl, s8⟩; have S8 := Lib.hid s8; have HIN := Lib.hid hin; have HTY := Lib.hid hty; have I8 := Lib.hid (bkI_sp (bkI_kept HB.out.i G7.out) s8 hty); clear s8 hgs hgo hin hty)
        | (go_at_call 21; obtain ⟨L, hIA⟩ := book_ints I8.out hv1; refine (grown_ints u10 vs L w8 hv0 hIA).mono ?_; rintro e w9 ⟨rfl, s9⟩; have SS := Lib.hid (book_sp HB.out.i S8.out HIN.out s9); have G9 := Lib.hid (law_grow (grownBy_trans HG.out G7.out) SS.out (Nat.le_refl _)); have L9 := Lib.hid (book_L (bkL_kept LB.out G7.out) S8.out HTY.out I8.out s9); have V9 := Lib.hid (boxP_kept V4.out G9.out (by simp)); have hs5 := GG.out.size; have hs6 := G6.out.size; have Z9 := Lib.hid (boxP_sp Z7.out SS.out (by unfold PT; omega)); have O9 := Lib.hid (prog_sp O7.out SS.out (by intro k hk; unfold PT; omega)); have R9 := Lib.hid (prog_kept R4.out G9.out); have OR9 := Lib.hid (orgAt_sp OR7.out SS.out (by intro k hk; unfold PT; omega)); have OO9 := Lib.hid (orgAt_kept O4.out G9.out); obtain ⟨p0, p1, p2, pl⟩ := boxP_see Z9.out; obtain ⟨q0, q1, q2, ql⟩ := boxP_see V9.out; clear s9 hIA hs5 hs6)
        | (go_at_call 14; refine (prog_same (pgU u mem) _ _ _ _ _ _ w9 SM.out.1 SM.out.2.1 SM.out.2.2 O9.out R9.out).mono ?_; rintro e w10 ⟨rfl, g10⟩; have G10 := Lib.hid (grownBy_trans G9.out g10); have OR10 := Lib.hid (orgAt_kept OR9.out g10); have OO10 := Lib.hid (orgAt_kept OO9.out g10); have L10 := Lib.hid (bkL_kept L9.out g10); clear g10 p0 p1 p2 pl q0 q1 q2 ql))
      go_loopw [21] (fun i wr => ∃ q : Nat, i = .int .i64 q ∧ q ≤ (orgsU u).length ∧ w10.grownBy wr none) (fun i _ => (orgsU u).length - (intOf i).toNat)
      case atStart => exact ⟨0, rfl, Nat.zero_le _, grownBy_refl _ _⟩
      case round =>
        obtain ⟨q, rfl, hq, hg⟩ := hrel
        have HG2 := Lib.hid hg
        by_cases hlt2 : (q : Int) < ((orgsU u).length : Int)
        · obtain ⟨l, hql⟩ : ∃ l, (orgsU u)[q]? = some l := ⟨_, List.getElem?_eq_getElem (by omega)⟩
          obtain ⟨ga, ka, pa, ca, ea, la, xa, oa⟩ := org_get (orgAt_kept OR10.out hg) hql
          obtain ⟨gb, kb, pb, cb, eb, lb, xb, ob⟩ := org_get (orgAt_kept OO10.out hg) hql
          injection ea with ea1 ea2 ea3
          injection eb with eb1 eb2 eb3
          subst ea1; subst eb1
          have hl4 := SO.out q l hql
          have SI := Lib.hid (fun (W : World) (g : wr.grownBy W none) => same_ints l _ _ _ _ W (by omega) (oa.kept g (Classical.em _)) (ob.kept g (Classical.em _)))
          clear hg ea2 ea3 eb2 eb3 oa ob hql
          go_wp2
          go_region_held3 (fun W' => W'.cell? ⟨ga, q, none⟩ = some (.slice pa l.length ca) ∧ W'.cell? ⟨gb, q, none⟩ = some (.slice pb l.length cb) ∧ ga < W'.heap.size ∧ gb < W'.heap.size) (first | exact ⟨by assumption, by assumption, by assumption, by assumption⟩) (first | (go_at_call 17; refine (SI.out _ (grownBy_drew (grownBy_refl _ _))).mono ?_; rintro e w11 ⟨rfl, g11⟩; have g11 : wr.grownBy w11 none := grownBy_trans (grownBy_drew (grownBy_refl wr none)) g11; have G11 := Lib.hid (grownBy_trans HG2.out g11); have t0 := g11.cell xa (by simp); have t1 := g11.cell xb (by simp); have t2 := Nat.lt_of_lt_of_le la g11.size; have t3 := Nat.lt_of_lt_of_le lb g11.size; clear g11))
          go_wp2
          go_roundw
          case rel => exact ⟨q + 1, by go_num, by omega, G11.out⟩
          case measure => simp [intOf]; omega
        · clear hg
          go_wp2
          obtain ⟨wC, hwC⟩ : ∃ wC, wC = wr := ⟨_, rfl⟩
          subst hwC
          have LC := Lib.hid (bkL_kept L10.out HG2.out)
          have GC := Lib.hid (grownBy_trans G10.out HG2.out)
          go_loopw [22] (fun i wr => ∃ q : Nat, i = .int .i64 q ∧ q ≤ 3 ∧ BkL w4.heap.size wr (orgsU u).length u10 (.slice (some ⟨Al, 0, none⟩) 3 cAl) lv ∧ w4.grownBy wr none) (fun i _ => 3 - (intOf i).toNat)
          case atStart => exact ⟨0, rfl, by decide, LC.out, GC.out⟩
          case round =>
            obtain ⟨q, rfl, hq3, hl, hg⟩ := hrel
            have HL3 := Lib.hid hl
            have HG3 := Lib.hid hg
            by_cases hlt3 : (q : Int) < 3
            · obtain ⟨_, _, g, c, eA, hvq, -⟩ := bkL_see hl on2 (i := q) (by omega)
              have HV := Lib.hid hvq
              clear hl hg eA hvq
              go_wp2
              obtain ⟨wD, hwD⟩ : ∃ wD, wD = wr := ⟨_, rfl⟩
              subst hwD
              go_loopw [23] (fun k wr => ∃ j : Nat, k = .int .i64 j ∧ j ≤ (orgsU u).length ∧ BkL w4.heap.size wr (orgsU u).length u10 (.slice (some ⟨Al, 0, none⟩) 3 cAl) lv ∧ w4.grownBy wr none) (fun k _ => (orgsU u).length - (intOf k).toNat)
              case atStart => exact ⟨0, rfl, Nat.zero_le _, HL3.out, HG3.out⟩
              case round =>
                clear HL3 HG3
                obtain ⟨j, rfl, hj, hl, hg⟩ := hrel
                have HL4 := Lib.hid hl
                have HG4 := Lib.hid hg
                obtain ⟨-, -, c0, l0, l1, hx, hz, hlo⟩ := bkL_at hl on2 HV.out
                have HLO := Lib.hid hlo
                by_cases hlt4 : (j : Int) < ((orgsU u).length : Int)
                · obtain ⟨x, x0⟩ := hx j (by omega)
                  have z0 := hz j
                  clear hl hg hx hz hlo
                  go_wp2
                  go_roundw
                  case rel => exact ⟨j + 1, by go_num, by omega, bkL_kept (bkL_store HL4.out HV.out) (World.grownBy_alloc _ _ none), grownBy_trans (grow_new HG4.out (grownBy_set wr g j _) HLO.out) (World.grownBy_alloc _ _ none)⟩
                  case measure => simp [intOf]; omega
                · clear hl hg hx hz hlo
                  go_wp2
                  go_roundw
                  case rel => exact ⟨q + 1, by go_num, by omega, HL4.out, HG4.out⟩
                  case measure => simp [intOf]; omega
            · have X5 := Lib.hid (boxU_kept X4.out hg (by simp))
              have V5 := Lib.hid (boxP_kept V4.out hg (by simp))
              have R5 := Lib.hid (prog_kept R4.out hg)
              have b0 := boxU_0 X5.out
              have b1 := boxU_1 X5.out
              have bl := boxU_lt X5.out
              clear hl hg
              go_wp2_with (first
                | (go_at_call 11; refine (CO.out _ (grownBy_trans G4.out HG3.out)).mono ?_; intro e w15 hp; obtain ⟨vd5, vF5, he, g5, o5⟩ := prog_of_comp hp; obtain ⟨pd5, cd5, pF5, cF5, e5, e5'⟩ := prog_slices o5; subst e5; subst e5'; rw [HC0.out] at he; subst he; have A15 := Lib.hid (World.grownBy_alloc w15 (.cells #[.int .i64 (pgU u mem).mem, .slice pd5 (pgU u mem).data.length cd5, .slice pF5 (pgU u mem).funcs.length cF5] 32) none); have V16 := Lib.hid (boxP_kept (boxP_kept V5.out g5 (by simp)) A15.out (by simp)); have R16 := Lib.hid (prog_kept (prog_kept R5.out g5) A15.out); have Z16 := Lib.hid (heap_alloc_new w15 (.cells #[.int .i64 (pgU u mem).mem, .slice pd5 (pgU u mem).data.length cd5, .slice pF5 (pgU u mem).funcs.length cF5] 32)); have O16 := Lib.hid (prog_kept o5 A15.out); have G16 := Lib.hid (grownBy_trans g5 A15.out); obtain ⟨q0, q1, q2, ql⟩ := boxP_see V16.out; obtain ⟨p0, p1, p2, pl⟩ := boxP_see Z16.out; clear hp g5 o5 b0 b1 bl)
                | (go_at_call 14; refine (prog_same (pgU u mem) _ _ _ _ _ _ _ SM.out.1 SM.out.2.1 SM.out.2.2 O16.out R16.out).mono ?_; rintro e w17 ⟨rfl, g17⟩; have G17 := Lib.hid (grownBy_trans G16.out g17); clear g17 p0 p1 p2 pl q0 q1 q2 ql)
                | (go_at_call 9; refine (head_true _).mono ?_; rintro e w18 ⟨rfl, hg⟩; have G18 := Lib.hid (grownBy_trans (grownBy_trans G4.out HG3.out) (grownBy_trans G17.out hg)); clear hg))
              go_ret
              exact ⟨rfl, G18.out⟩

end Go.Proofs.Ytecaolkbllbokaa.TG

namespace Go.Proofs.Ytecaolkbllbokaa.TG
open Go.RowKit Go.Great
set_option linter.unusedSimpArgs false
set_option linter.unusedVariables false

set_option maxRecDepth 100000 in
set_option maxHeartbeats 8000000 in
theorem book_far (u : Un) (mem : Int) (pt pf : Option Addr) (ct cf B : Nat) (w : World) (hL : LawU w B pt pf ct u) (hfar : farB u = true) :
    Calls Try.prog 6 #[.agg #[.slice pt u.texts.length ct, .slice pf u.funcs.length cf], .int .i64 mem] w fun e w' => e = .returned (.bool true) ∧ w.grownBy w' none := by
  have hU := hL.at_
  have FA := Lib.hid (fun (W : World) (g : w.grownBy W none) => far_any u hL.sz pt pf ct cf B W (unitAt_kept hU g (by simp)))
  have BX := Lib.hid (boxU_new w (.slice pt u.texts.length ct) (.slice pf u.funcs.length cf))
  have G0 := Lib.hid (World.grownBy_alloc w (.cells #[.slice pt u.texts.length ct, .slice pf u.funcs.length cf] 25) none)
  have b0 := boxU_0 BX.out
  have b1 := boxU_1 BX.out
  have bl := boxU_lt BX.out
  have HFAR := Lib.hid hfar
  clear hL hU hfar
  go_enter Try.func6, Try.ntmps6
  go_wp2_with (first
    | (go_at_call 8; refine (FA.out _ G0.out).mono ?_; rintro e w1 ⟨he, g1⟩; rw [HFAR.out] at he; subst he; have G1 := Lib.hid (grownBy_trans G0.out g1); clear g1)
    | (go_at_call 9; refine (head_true _).mono ?_; rintro e w3 ⟨rfl, hg⟩; have G3 := Lib.hid (grownBy_trans G1.out hg); clear hg))
  go_ret
  exact ⟨rfl, G3.out⟩

set_option maxRecDepth 100000 in
set_option maxHeartbeats 8000000 in
theorem book_err (u : Un) (mem : Int) (pt pf : Option Addr) (ct cf B : Nat) (w : World) (hL : LawU w B pt pf ct u) (hfar : farB u = false) (code : Int) (hcode : compE u mem = code) (hne : ¬ code = 0) :
    Calls Try.prog 6 #[.agg #[.slice pt u.texts.length ct, .slice pf u.funcs.length cf], .int .i64 mem] w fun e w' => e = .returned (.bool true) ∧ w.grownBy w' none := by
  have hU := hL.at_
  have FA := Lib.hid (fun (W : World) (g : w.grownBy W none) => far_any u hL.sz pt pf ct cf B W (unitAt_kept hU g (by simp)))
  have RC := Lib.hid (fun (W : World) (g : w.grownBy W none) => rcompile_any u mem pt pf ct cf B W (unitAt_kept hU g (by simp)) (unOK_kept hL.ok hU g))
  have BX := Lib.hid (boxU_new w (.slice pt u.texts.length ct) (.slice pf u.funcs.length cf))
  have G0 := Lib.hid (World.grownBy_alloc w (.cells #[.slice pt u.texts.length ct, .slice pf u.funcs.length cf] 25) none)
  have b0 := boxU_0 BX.out
  have b1 := boxU_1 BX.out
  have bl := boxU_lt BX.out
  have HFAR := Lib.hid hfar
  have HC := Lib.hid hcode
  clear hL hU hfar hcode
  go_enter Try.func6, Try.ntmps6
  go_wp2_with (first
    | (go_at_call 8; refine (FA.out _ G0.out).mono ?_; rintro e w1 ⟨he, g1⟩; rw [HFAR.out] at he; subst he; have X1 := Lib.hid (boxU_kept BX.out g1 (by simp)); have b0 := boxU_0 X1.out; have b1 := boxU_1 X1.out; have bl := boxU_lt X1.out; have G1 := Lib.hid (grownBy_trans G0.out g1); clear g1)
    | (go_at_call 12; refine (RC.out _ G1.out).mono ?_; intro e w2 hp; obtain ⟨vd2, vF2, he, g2, o2⟩ := prog_of_ref hp; obtain ⟨pd2, cd2, pF2, cF2, e2, e2'⟩ := prog_slices o2; subst e2; subst e2'; rw [HC.out] at he; subst he; have G3 := Lib.hid (grownBy_trans (grownBy_trans G1.out g2) (World.grownBy_alloc w2 (.cells #[.int .i64 (pgU u mem).mem, .slice pd2 (pgU u mem).data.length cd2, .slice pF2 (pgU u mem).funcs.length cF2] 32) none)); clear hp g2 o2)
    | (go_at_call 9; refine (head_true _).mono ?_; rintro e w4 ⟨rfl, hg⟩; have G4 := Lib.hid (grownBy_trans G3.out hg); clear hg))
  go_ret
  exact ⟨rfl, G4.out⟩

set_option maxRecDepth 100000 in
set_option maxHeartbeats 8000000 in
theorem book_orig (u : Un) (mem : Int) (pt pf : Option Addr) (ct cf B : Nat) (w : World) (hL : LawU w B pt pf ct u) (hfar : farB u = false) (hc0 : compE u mem = 0) (code : Int) (hcode : compE u 65536 = code) (hne : ¬ code = 0) :
    Calls Try.prog 6 #[.agg #[.slice pt u.texts.length ct, .slice pf u.funcs.length cf], .int .i64 mem] w fun e w' => e = .returned (.bool true) ∧ w.grownBy w' none := by
  have hU := hL.at_
  have FA := Lib.hid (fun (W : World) (g : w.grownBy W none) => far_any u hL.sz pt pf ct cf B W (unitAt_kept hU g (by simp)))
  have RC := Lib.hid (fun (W : World) (g : w.grownBy W none) => rcompile_any u mem pt pf ct cf B W (unitAt_kept hU g (by simp)) (unOK_kept hL.ok hU g))
  have RO := Lib.hid (fun (W : World) (g : w.grownBy W none) => rorig_any u pt pf ct cf B W (unitAt_kept hU g (by simp)) (unOK_kept hL.ok hU g))
  have BX := Lib.hid (boxU_new w (.slice pt u.texts.length ct) (.slice pf u.funcs.length cf))
  have G0 := Lib.hid (World.grownBy_alloc w (.cells #[.slice pt u.texts.length ct, .slice pf u.funcs.length cf] 25) none)
  have b0 := boxU_0 BX.out
  have b1 := boxU_1 BX.out
  have bl := boxU_lt BX.out
  have HFAR := Lib.hid hfar
  have HC0 := Lib.hid hc0
  have HC1 := Lib.hid hcode
  clear hL hU hfar hc0 hcode
  go_enter Try.func6, Try.ntmps6
  go_wp2_with (first
    | (go_at_call 8; refine (FA.out _ G0.out).mono ?_; rintro e w1 ⟨he, g1⟩; rw [HFAR.out] at he; subst he; have X1 := Lib.hid (boxU_kept BX.out g1 (by simp)); have b0 := boxU_0 X1.out; have b1 := boxU_1 X1.out; have bl := boxU_lt X1.out; have G1 := Lib.hid (grownBy_trans G0.out g1); clear g1)
    | (go_at_call 12; refine (RC.out _ G1.out).mono ?_; intro e w2 hp; obtain ⟨vd2, vF2, he, g2, o2⟩ := prog_of_ref hp; obtain ⟨pd2, cd2, pF2, cF2, e2, e2'⟩ := prog_slices o2; subst e2; subst e2'; rw [HC0.out] at he; subst he; have A2 := Lib.hid (World.grownBy_alloc w2 (.cells #[.int .i64 (pgU u mem).mem, .slice pd2 (pgU u mem).data.length cd2, .slice pF2 (pgU u mem).funcs.length cF2] 32) none); have X3 := Lib.hid (boxU_kept (boxU_kept X1.out g2 (by simp)) A2.out (by simp)); have G3 := Lib.hid (grownBy_trans (grownBy_trans G1.out g2) A2.out); have b0 := boxU_0 X3.out; have b1 := boxU_1 X3.out; have bl := boxU_lt X3.out; clear hp g2 o2)
    | (go_at_call 16; refine (RO.out _ G3.out).mono ?_; intro e w4 hp; obtain ⟨v4, he, g4, o4⟩ := org_of_ref hp; obtain ⟨p4, c4, hv4⟩ := org_slice o4; subst hv4; rw [HC1.out] at he; subst he; have G4 := Lib.hid (grownBy_trans G3.out g4); clear hp g4 o4 b0 b1 bl)
    | (go_at_call 9; refine (head_true _).mono ?_; rintro e w5 ⟨rfl, hg⟩; have G5 := Lib.hid (grownBy_trans G4.out hg); clear hg))
  go_ret
  exact ⟨rfl, G5.out⟩

theorem law_book (u : Un) (mem : Int) (pt pf : Option Addr) (ct cf B : Nat) (w : World) (hL : LawU w B pt pf ct u) :
    Calls Try.prog 6 #[.agg #[.slice pt u.texts.length ct, .slice pf u.funcs.length cf], .int .i64 mem] w fun e w' => e = .returned (.bool true) ∧ w.grownBy w' none := by
  cases hfar : farB u with
  | true => exact book_far u mem pt pf ct cf B w hL hfar
  | false =>
    by_cases h0 : compE u mem = 0
    · by_cases h1 : compE u 65536 = 0
      · exact book_main u mem pt pf ct cf B w hL hfar h0 h1
      · exact book_orig u mem pt pf ct cf B w hL hfar h0 _ rfl h1
    · exact book_err u mem pt pf ct cf B w hL hfar _ rfl h0

end Go.Proofs.Ytecaolkbllbokaa.TG
