/-
  Walks of the checker's part: the kids and the end. Conditions: as each theorem states.
  Walks of the checker's part: the whole, by how deep it stands; and all. Conditions: as each theorem states.
  Walk of the checker's all: a function's parts. Conditions: as each theorem states.
-/
import Derived.Test.YtecaolkbllbokaaMB05
namespace Go.Proofs.Ytecaolkbllbokaa.TG
open Go.RowKit Go.Great
set_option linter.unusedSimpArgs false
set_option linter.unusedVariables false

set_option maxRecDepth 100000 in
set_option maxHeartbeats 2000000 in
theorem part_main (g : Nat) (hg : g ≤ 64) (deep : Int) (hd : deep + g = 64) (tc : TypeId) (what : Int) (Bc bf of cp cf nl cl nt ct : Nat) (pt pf pl pp : Option Addr) (fs : List Int) (hfs : fs.length ≤ 1000000) (ps : List (Int × Int × Int)) (hnp : ps.length ≤ 17592186044415) (s : St) (k n kc : Int) (hp : ps[s.a]? = some (k, n, kc)) (he : aloneE nl nt fs s.l k n kc what = 0)
    (hs0 : 0 ≤ s.l ∧ s.l + g ≤ 66) (hs1 : 0 ≤ s.m ∧ s.m ≤ 10000000000000000)
    (hI : ∀ (what : Int) (s : St) (w : World), s.a ≤ ps.length → 0 ≤ s.l → s.l + g ≤ 67 → 0 ≤ s.m → s.m ≤ 10000000000000000 → Env w Bc bf of (.slice pl nl cl) pp cp ps pf fs → BoxW tc w Bc bf of (.slice pt nt ct) (.slice pf fs.length cf) s →
      Calls Try.prog 54 #[.pointer (some ⟨Bc, 0, none⟩), .int .i64 what, .int .i64 (deep + 1)] w (PartPost tc w Bc bf of (.slice pt nt ct) (.slice pf fs.length cf) (partE nl nt fs ps g what s))) (w : World)
    (hE : Env w Bc bf of (.slice pl nl cl) pp cp ps pf fs) (hB : BoxW tc w Bc bf of (.slice pt nt ct) (.slice pf fs.length cf) s) :
    Calls Try.prog 54 #[.pointer (some ⟨Bc, 0, none⟩), .int .i64 what, .int .i64 deep] w (PartPost tc w Bc bf of (.slice pt nt ct) (.slice pf fs.length cf) (partE nl nt fs ps (g + 1) what s)) := by
  have hja : s.a < ps.length := (List.getElem?_eq_some_iff.1 hp).1
  have HI := Lib.hid hI
  have HP := Lib.hid hp
  clear hI
  obtain ⟨bp, op, rfl, hpB, hpc⟩ := hE.pa (by omega)
  obtain ⟨p0, p1, p2⟩ := hpc _ _ _ _ hp
  have hbp : bp < w.heap.size := Nat.lt_trans hpB hE.lt
  have A := Lib.hid (fun w1 (g : w.grownBy w1 none) => alone_any k n kc what Bc bf of nl cl nt ct cf pt pf pl fs hfs _ _ _ _ w1 (chk_kept (env_chk hE hB) g) (funs_kept (env_funs hE) g))
  have EE := Lib.hid hE
  have BB := Lib.hid hB
  obtain ⟨hlt, hltf, hne, c0, c1, c2, c3, c4, c5, f2, f3⟩ := env_chk hE hB
  clear hE hB hpc hp
  have hji : (s.a : Int) < (ps.length : Int) := by omega
  generalize hea : aloneE nl nt fs s.l k n kc what = e0 at *
  go_enter Try.func54, Try.ntmps54
  go_wp2
  go_quiet (fail)
  go_wp2
  have hs : w.heap.size = (w.drewN nq).heap.size := by simp
  have g0 : w.grownBy (w.drewN nq) none := ⟨rfl, rfl, rfl, by simp, fun k hk _ => by simp⟩
  have GG := Lib.hid g0
  replace c0 := g0.cell c0 (by simp)
  replace c1 := g0.cell c1 (by simp)
  replace c2 := g0.cell c2 (by simp)
  replace c3 := g0.cell c3 (by simp)
  replace f3 := g0.cell f3 (by simp)
  replace p0 := g0.cell p0 (by simp)
  replace p1 := g0.cell p1 (by simp)
  replace p2 := g0.cell p2 (by simp)
  have hlt' : Bc < (w.drewN nq).heap.size := by rw [← hs]; exact hlt
  have hltf' : bf < (w.drewN nq).heap.size := by rw [← hs]; exact hltf
  have hbp' : bp < (w.drewN nq).heap.size := by rw [← hs]; exact hbp
  have HS := Lib.hid hs
  clear hs g0
  generalize w.drewN nq = w0 at *
  clear c4 c5 f2
  go_region
  have g1 : w.grownBy ((w0.alloc (.cells #[.int .i64 k, .int .i64 n, .int .i64 kc] 108)).drew) none := grownBy_trans GG.out (grownBy_drew (World.grownBy_alloc w0 _ none))
  have G1 := Lib.hid g1
  clear g1
  have hea2 := Lib.hid (hea.trans he)
  subst he
  have hs : w.heap.size = w0.heap.size := HS.out
  go_wp2_with (go_at_call 85; refine (A.out _ G1.out).mono ?_; rintro e w1 ⟨rfl, hg⟩; have HG := Lib.hid hg; clear hg; have hB1 := box_kept (box_kept BB.out G1.out (by simp)) HG.out (by simp); have B1 := Lib.hid hB1; have d3 := box_3 hB1; have z3 := box_frozen hB1 3; have hlt1 := box_lt hB1; have hC1 := copy_kept (grown_copy w0 k n kc) HG.out (by simp); have C1 := Lib.hid hC1; have y2 := copy_2 hC1; have x2 := copy_2 (copy_kept hC1 (grownBy_set w1 Bc 3 (.int .i64 ((s.a : Int) + 1))) (by simp; omega)); clear hB1 hC1)
  have B3 := Lib.hid ((box_set B1.out).1 ((s.a : Int) + 1) (s.a + 1) (by omega))
  have C3 := Lib.hid (copy_kept C1.out (grownBy_set w1 Bc 3 (.int .i64 ((s.a : Int) + 1))) (by simp; omega))
  have G3 := Lib.hid (grownBy_trans (grow_w (grownBy_trans G1.out HG.out)) (grownBy_set w1 Bc 3 (.int .i64 ((s.a : Int) + 1))))
  obtain ⟨i0, hi, hz0, hz1, hz2⟩ := info_parts int_info
  have PI := Lib.hid (partE_kids nl nt fs ps g what s k n kc HP.out hea2.out _ rfl)
  have ND := Lib.hid (needs_of nl nt fs s.l k n kc what hea2.out)
  have hBcB : Bc < w0.heap.size := hlt'
  clear A BB G1 HG B1 C1 d3 z3 y2 x2 hlt1 c0 c1 c2 c3 f3 p0 p1 p2 hlt' hltf' hbp' HS GG HP hea2
  generalize hw2 : w1.setCell ⟨Bc, 3, none⟩ (.int .i64 ((s.a : Int) + 1)) = w2 at *
  generalize w0.heap.size = B at *
  clear hw2
  go_loopw [10, 59] (fun v i wr => ∃ (q : Nat) (t : St) (ws : List Int), i = .int .i64 q ∧ LRel tc w wr Bc bf of B (.slice pt nt ct) (.slice pf fs.length cf) k n kc (partE nl nt fs ps g) ps.length g ⟨s.a + 1, s.l, s.m⟩ s.l q v t ws) (fun _ i _ => kc.toNat - (intOf i).toNat)
  case atStart => exact ⟨0, _, [], rfl, ⟨World.ownsRow_nil _ _ _ _, B3.out, C3.out, G3.out, rfl, hja, by simp, rfl, rfl, hs1.1, hs1.2, fun j hj => absurd hj (by simp), Nat.zero_le _⟩⟩
  case round =>
    obtain ⟨q, t, ws, rfl, hL⟩ := hrel
    have LL := Lib.hid hL
    have x0 := copy_0 hL.copy
    have x1 := copy_1 hL.copy
    have x2 := copy_2 hL.copy
    have hqk := hL.q
    have hta := hL.a
    have htl := hL.len
    have htb0 : 0 ≤ t.l := by have := hL.l; have := hs0.1; omega
    have htb1 : t.l + g ≤ 66 := by have := hL.l; have := hs0.2; omega
    have hlq := hL.lenq
    have e4 := box_4 hL.box
    have z4 := box_frozen hL.box 4
    have hm0 := hL.m0
    have hm1 := hL.m1
    have hltr := box_lt hL.box
    have hc3 : ws.length + 1 ≤ maxLen := by unfold maxLen; omega
    have hc4 : (ws.length + 1) * 8 ≤ 140737488355328 := by omega
    clear hL
    by_cases hlt : (q : Int) < kc
    · have hsl := stepIn_l k q t
      have hsa := stepIn_a k q t
      have hsm := stepIn_m k q t
      have I1 := Lib.hid (fun w' => HI.out (kidE k q) (stepIn k q t) w' (by omega) (by omega) (by omega) (by omega) (by omega))
      have KD := Lib.hid (fun w' => kid_any k n kc (q : Int) w')
      have PG := Lib.hid (fun h0 => partE_good nl nt fs ps (by omega) g (kidE k q) (stepIn k q t) (by omega) h0)
      have hue : partE nl nt fs ps g (kidE k q) (stepIn k q t) = partE nl nt fs ps g (kidE k q) (stepIn k q t) := rfl
      generalize hkd : kidE k (q : Int) = kd at *
      generalize hu : partE nl nt fs ps g kd (stepIn k q t) = u at *
      clear hue
      obtain ⟨uw, ue, us⟩ := u
      have HU := Lib.hid (show partE nl nt fs ps g (kidE k (q : Int)) (stepIn k q t) = (uw, ue, us) by rw [hkd]; exact hu)
      clear hu hkd
      by_cases c6 : k = 6 ∧ q = 1
      · have k6 : (k == 6) = true := by simpa using c6.1
        have q1 : ((q : Int) == 1) = true := by have := c6.2; simp; omega
        have hin : stepIn k q t = ⟨t.a, t.l + 1, t.m⟩ := by unfold stepIn; rw [if_pos c6]
        have hout : stepOut k q us = ⟨us.a, us.l - 1, us.m⟩ := by unfold stepOut; rw [if_pos c6]
        have BT := Lib.hid (show BoxW tc (wr.setCell ⟨Bc, 4, none⟩ (.int .i64 (t.l + 1))) Bc bf of (.slice pt nt ct) (.slice pf fs.length cf) (stepIn k q t) by rw [hin]; exact (box_set LL.out.box).2.1 (t.l + 1))
        have GT := Lib.hid (grownBy_set wr Bc 4 (.int .i64 (t.l + 1)))
        have hcs := copy_kept LL.out.copy GT.out (by simp; omega)
        have x0' := copy_0 hcs
        have x1' := copy_1 hcs
        have x2' := copy_2 hcs
        have CS := Lib.hid hcs
        have OS := Lib.hid (LL.out.own.kept GT.out (own_ne LL.out.own (by omega)))
        have HOUT := Lib.hid hout
        clear c6 hin hout hcs
        by_cases h0 : ue = 0
        · subst h0
          have PG0 := Lib.hid (PG.out rfl)
          clear PG
          have hul : us.l ≤ 1000000 ∧ -1000000 ≤ us.l := by have := PG0.out.l; simp only [] at this; omega
          go_wp2_with (first
            | (go_at_call 86; refine (KD.out _).mono ?_; rintro e w2' ⟨rfl, hg2⟩; have G2 := Lib.hid hg2; have g2 := hg2.size; clear hg2)
            | (go_at_call 54; refine (I1.out _ (env_kept (env_kept (env_kept EE.out LL.out.gr) GT.out) (grow_w G2.out)) (box_kept BT.out G2.out (by simp))).mono ?_; intro e w3 hpost; obtain ⟨rfl, hg3, hb3⟩ := hpost; have G3' := Lib.hid hg3; have B3' := Lib.hid (hb3 rfl); have C3' := Lib.hid (copy_kept (copy_kept CS.out G2.out (by simp)) hg3 (by simp; omega)); have y0 := copy_0 C3'.out; have e4' := box_4 B3'.out; have z4' := box_frozen B3'.out 4; have OW := Lib.hid ((OS.out.kept G2.out (Classical.em _)).kept hg3 (own_ne LL.out.own (by omega))); have g3 := hg3.size; clear hg3 hb3)
            | (at_builtin; refine wpList_append_own _ rfl _ _ 47 rfl (B + 1) 3 i0 (.int .i64 0) 1 8 int_und hi hz0 hz1 hz2 rfl (by decide) _ _ _ rfl ((OW.out.kept (grownBy_set w3 Bc 4 _) (own_ne LL.out.own (by omega))).alloc _) ⟨w3.heap.size, 0, none⟩ 1 1 [.int .i64 uw] rfl rfl (one_set w3 Bc 4 _ _ _) (one_cell _ _) hc3 hc4 (size_next (copy_lt (copy_kept C3'.out (grownBy_set w3 Bc 4 (.int .i64 (us.l - 1))) (by simp; omega))) _) ?_; intro v' w4 hown' hgrow hnil; have OW4 := Lib.hid hown'; have GR4 := Lib.hid hgrow; clear hown' hgrow hnil)
            )
          go_roundw
          case rel => exact ⟨q + 1, stepOut k q us, ws ++ [uw], by go_num, lrel_step LL.out hlt HU.out PG0.out (by omega) OW4.out (by rw [HOUT.out]; exact box_kept (box_kept ((box_set B3'.out).2.1 (us.l - 1)) (World.grownBy_alloc _ _ none) (by simp)) GR4.out (own_ne2 LL.out.own (by omega))) (copy_kept (copy_kept (copy_kept C3'.out (grownBy_set w3 Bc 4 _) (by simp; omega)) (World.grownBy_alloc _ _ none) (by simp)) GR4.out (own_ne2 LL.out.own (by omega))) (grow_own (grownBy_trans (grownBy_trans (grownBy_trans (grownBy_trans (grownBy_trans LL.out.gr GT.out) (grow_w G2.out)) G3'.out) (grownBy_set w3 Bc 4 _)) (World.grownBy_alloc _ _ _)) GR4.out LL.out.own (by omega))⟩
          case measure => simp [intOf]; omega
        · skip
          have HF := Lib.hid (PI.out.trans (by rw [if_pos (by rw [lrel_bad LL.out hlt HU.out h0]; exact h0), lrel_bad LL.out hlt HU.out h0]) : partE nl nt fs ps (g + 1) what s = (0, ue, s))
          have b0 : (ue != 0) = true := by simpa using h0
          have H0 := Lib.hid h0
          clear h0
          go_wp2_with (first
            | (go_at_call 86; refine (KD.out _).mono ?_; rintro e w2' ⟨rfl, hg2⟩; have G2 := Lib.hid hg2; have g2 := hg2.size; clear hg2)
            | (go_at_call 54; refine (I1.out _ (env_kept (env_kept (env_kept EE.out LL.out.gr) GT.out) (grow_w G2.out)) (box_kept BT.out G2.out (by simp))).mono ?_; intro e w3 hpost; obtain ⟨rfl, hg3, hb3⟩ := hpost; have G3' := Lib.hid hg3; clear hg3 hb3)
            )
          refine bodyPost_ret (v := .tuple #[.int .i64 0, .int .i64 ue]) ?_ rfl ?_
          · rw [results_tmp2 rfl]
            go_simp
          · rw [HF.out]
            exact ⟨rfl, grownBy_trans (grownBy_trans (grownBy_trans LL.out.gr GT.out) (grow_w G2.out)) G3'.out, fun h => absurd h H0.out⟩
      · have hpk : ((k == 6) = false) ∨ ((k == 6) = true ∧ ((q : Int) == 1) = false) := by
          by_cases h6 : k = 6
          · right; refine ⟨by simpa using h6, ?_⟩; have : q ≠ 1 := fun h => c6 ⟨h6, h⟩; simp; omega
          · left; simpa using h6
        have hin : stepIn k q t = t := by unfold stepIn; rw [if_neg c6]
        have hout : stepOut k q us = us := by unfold stepOut; rw [if_neg c6]
        have HOUT := Lib.hid hout
        have BT := Lib.hid (show BoxW tc wr Bc bf of (.slice pt nt ct) (.slice pf fs.length cf) (stepIn k q t) by rw [hin]; exact LL.out.box)
        clear c6 hin hout
        by_cases h0 : ue = 0
        · subst h0
          have PG0 := Lib.hid (PG.out rfl)
          clear PG
          rcases hpk with k6 | ⟨k6, q1⟩
          all_goals
            go_wp2_with (first
              | (go_at_call 86; refine (KD.out _).mono ?_; rintro e w2' ⟨rfl, hg2⟩; have G2 := Lib.hid hg2; have g2 := hg2.size; clear hg2)
              | (go_at_call 54; refine (I1.out _ (env_kept (env_kept EE.out LL.out.gr) (grow_w G2.out)) (box_kept BT.out G2.out (by simp))).mono ?_; intro e w3 hpost; obtain ⟨rfl, hg3, hb3⟩ := hpost; have G3' := Lib.hid hg3; have B3' := Lib.hid (hb3 rfl); have C3' := Lib.hid (copy_kept (copy_kept LL.out.copy G2.out (by simp)) hg3 (by simp; omega)); have y0 := copy_0 C3'.out; have e4' := box_4 B3'.out; have z4' := box_frozen B3'.out 4; have OW := Lib.hid ((LL.out.own.kept G2.out (Classical.em _)).kept hg3 (own_ne LL.out.own (by omega))); have g3 := hg3.size; clear hg3 hb3)
              | (at_builtin; refine wpList_append_own _ rfl _ _ 47 rfl (B + 1) 3 i0 (.int .i64 0) 1 8 int_und hi hz0 hz1 hz2 rfl (by decide) _ _ _ rfl (OW.out.alloc _) ⟨w3.heap.size, 0, none⟩ 1 1 [.int .i64 uw] rfl rfl (one_new w3 _ _) (one_cell _ _) hc3 hc4 (size_next (copy_lt C3'.out) _) ?_; intro v' w4 hown' hgrow hnil; have OW4 := Lib.hid hown'; have GR4 := Lib.hid hgrow; clear hown' hgrow hnil)
              )
            go_roundw
            case rel => exact ⟨q + 1, stepOut k q us, ws ++ [uw], by go_num, lrel_step LL.out hlt HU.out PG0.out (by omega) OW4.out (by rw [HOUT.out]; exact box_kept (box_kept B3'.out (World.grownBy_alloc w3 _ none) (by simp)) GR4.out (own_ne2 LL.out.own (by omega))) (copy_kept (copy_kept C3'.out (World.grownBy_alloc w3 _ none) (by simp)) GR4.out (own_ne2 LL.out.own (by omega))) (grow_own (grownBy_trans (grownBy_trans (grownBy_trans LL.out.gr (grow_w G2.out)) G3'.out) (World.grownBy_alloc w3 _ _)) GR4.out LL.out.own (by omega))⟩
            case measure => simp [intOf]; omega
        · skip
          have HF := Lib.hid (PI.out.trans (by rw [if_pos (by rw [lrel_bad LL.out hlt HU.out h0]; exact h0), lrel_bad LL.out hlt HU.out h0]) : partE nl nt fs ps (g + 1) what s = (0, ue, s))
          have b0 : (ue != 0) = true := by simpa using h0
          have H0 := Lib.hid h0
          clear h0
          rcases hpk with k6 | ⟨k6, q1⟩
          all_goals
            go_wp2_with (first
              | (go_at_call 86; refine (KD.out _).mono ?_; rintro e w2' ⟨rfl, hg2⟩; have G2 := Lib.hid hg2; have g2 := hg2.size; clear hg2)
              | (go_at_call 54; refine (I1.out _ (env_kept (env_kept EE.out LL.out.gr) (grow_w G2.out)) (box_kept BT.out G2.out (by simp))).mono ?_; intro e w3 hpost; obtain ⟨rfl, hg3, hb3⟩ := hpost; have G3' := Lib.hid hg3; clear hg3 hb3)
              )
            refine bodyPost_ret (v := .tuple #[.int .i64 0, .int .i64 ue]) ?_ rfl ?_
            · rw [results_tmp2 rfl]
              go_simp
            · rw [HF.out]
              exact ⟨rfl, grownBy_trans (grownBy_trans LL.out.gr (grow_w G2.out)) G3'.out, fun h => absurd h H0.out⟩
    · have HE := Lib.hid (PI.out.trans (by rw [lrel_end LL.out hlt]; rfl) : partE nl nt fs ps (g + 1) what s = (wantE k ws, 0, ⟨t.a, t.l, max t.m (wantE k ws)⟩))
      have hq : ws.length = kc.toNat := by have := LL.out.lenq; omega
      have WB := wantE_bound k ws _ (by omega) LL.out.w
      have WN := Lib.hid (fun w' (g : wr.grownBy w' none) => want_any k n kc ND.out.2 u10 ws w' (ints_kept (ints_own (cap := 0) LL.out.own) g) (by omega) (fun i hi => by have := LL.out.w i hi; omega) (by rw [hq]; exact ND.out.1))
      generalize wantE k ws = wv at *
      have e5 := box_5 LL.out.box
      have z5 := box_frozen LL.out.box 5
      go_wp2_with (first
        | (go_at_call 87; refine (WN.out _ (grownBy_refl _ _)).mono ?_; rintro e w5 ⟨rfl, hg5⟩; have G5 := Lib.hid hg5; have hB5 := box_kept LL.out.box hg5 (by simp); have B5 := Lib.hid hB5; have e5' := box_5 hB5; have z5' := box_frozen hB5 5; have hlt5 := box_lt hB5; clear hg5 hB5)
        )
      refine bodyPost_ret (v := .tuple #[.int .i64 wv, .int .i64 0]) ?_ rfl ?_
      · rw [results_tmp2 rfl]
        go_simp
      · rw [HE.out]
        exact ⟨rfl, grownBy_trans (grownBy_trans LL.out.gr (grow_w G5.out)) (grownBy_set w5 Bc 5 _), fun _ => (box_set B5.out).2.2 _⟩

end Go.Proofs.Ytecaolkbllbokaa.TG

namespace Go.Proofs.Ytecaolkbllbokaa.TG
open Go.RowKit Go.Great
set_option linter.unusedSimpArgs false
set_option linter.unusedVariables false

theorem part_any : ∀ (g : Nat) (hg : g ≤ 65) (tc : TypeId) (what : Int) (Bc bf of cp cf nl cl nt ct : Nat) (pt pf pl pp : Option Addr) (fs : List Int) (hfs : fs.length ≤ 1000000) (ps : List (Int × Int × Int)) (hnp : ps.length ≤ 17592186044415) (s : St)
    (ha : s.a ≤ ps.length) (h0 : 0 ≤ s.l) (h1 : s.l + g ≤ 67) (h2 : 0 ≤ s.m) (h3 : s.m ≤ 10000000000000000) (w : World)
    (hE : Env w Bc bf of (.slice pl nl cl) pp cp ps pf fs) (hB : BoxW tc w Bc bf of (.slice pt nt ct) (.slice pf fs.length cf) s),
    Calls Try.prog 54 #[.pointer (some ⟨Bc, 0, none⟩), .int .i64 what, .int .i64 (65 - (g : Int))] w (PartPost tc w Bc bf of (.slice pt nt ct) (.slice pf fs.length cf) (partE nl nt fs ps g what s)) := by
  intro g
  induction g with
  | zero =>
    intro hg tc what Bc bf of cp cf nl cl nt ct pt pf pl pp fs hfs ps hnp s ha h0 h1 h2 h3 w hE hB
    by_cases c1 : ps.length ≤ s.a
    · rw [partE_end nl nt fs ps 0 what s c1]
      exact (part_end what _ Bc bf of ps.length cp _ _ _ pp s.a s.l s.m (by omega) w (env_chk hE hB)).mono fun e w' h => ⟨h.1, grow_w h.2, fun h => absurd h (by simp)⟩
    obtain ⟨⟨k, n, kc⟩, hp⟩ : ∃ x, ps[s.a]? = some x := ⟨_, List.getElem?_eq_getElem (by omega)⟩
    by_cases c2 : aloneE nl nt fs s.l k n kc what = 0
    · rw [partE_deep nl nt fs ps what s k n kc hp c2]
      exact (part_deep _ (by omega) tc what Bc bf of cp cf nl cl nt ct pt pf pl pp fs hfs ps hnp s k n kc hp c2 w hE hB).mono fun e w' h => ⟨h.1, grow_w h.2, fun h => absurd h (by simp)⟩
    · rw [partE_bad nl nt fs ps 0 what s k n kc hp c2]
      exact (part_bad _ tc what Bc bf of cp cf nl cl nt ct pt pf pl pp fs hfs ps hnp s k n kc hp c2 w hE hB).mono fun e w' h => ⟨h.1, grow_w h.2, fun h => absurd h c2⟩
  | succ g ih =>
    intro hg tc what Bc bf of cp cf nl cl nt ct pt pf pl pp fs hfs ps hnp s ha h0 h1 h2 h3 w hE hB
    by_cases c1 : ps.length ≤ s.a
    · rw [partE_end nl nt fs ps _ what s c1]
      exact (part_end what _ Bc bf of ps.length cp _ _ _ pp s.a s.l s.m (by omega) w (env_chk hE hB)).mono fun e w' h => ⟨h.1, grow_w h.2, fun h => absurd h (by simp)⟩
    obtain ⟨⟨k, n, kc⟩, hp⟩ : ∃ x, ps[s.a]? = some x := ⟨_, List.getElem?_eq_getElem (by omega)⟩
    by_cases c2 : aloneE nl nt fs s.l k n kc what = 0
    · refine part_main g (by omega) _ (by push_cast; omega) tc what Bc bf of cp cf nl cl nt ct pt pf pl pp fs hfs ps hnp s k n kc hp c2 ⟨h0, by push_cast at h1; omega⟩ ⟨h2, h3⟩ ?_ w hE hB
      intro what' s' w' a0 a1 a2 a3 a4 hE' hB'
      have e : (65 : Int) - ((g + 1 : Nat) : Int) + 1 = 65 - (g : Int) := by push_cast; omega
      rw [e]
      exact ih (by omega) tc what' Bc bf of cp cf nl cl nt ct pt pf pl pp fs hfs ps hnp s' a0 a1 a2 a3 a4 w' hE' hB'
    · rw [partE_bad nl nt fs ps _ what s k n kc hp c2]
      exact (part_bad _ tc what Bc bf of cp cf nl cl nt ct pt pf pl pp fs hfs ps hnp s k n kc hp c2 w hE hB).mono fun e w' h => ⟨h.1, grow_w h.2, fun h => absurd h c2⟩

end Go.Proofs.Ytecaolkbllbokaa.TG

namespace Go.Proofs.Ytecaolkbllbokaa.TG
open Go.RowKit Go.Great
set_option linter.unusedSimpArgs false
set_option linter.unusedVariables false

/-- What all answers. -/
def allE (nl nt : Nat) (fs : List Int) (ps : List (Int × Int × Int)) : Int :=
  if (partE nl nt fs ps 65 0 ⟨0, 0, 0⟩).2.1 ≠ 0 then (partE nl nt fs ps 65 0 ⟨0, 0, 0⟩).2.1
  else if (partE nl nt fs ps 65 0 ⟨0, 0, 0⟩).2.2.a ≠ ps.length then 171
  else if 256 < (partE nl nt fs ps 65 0 ⟨0, 0, 0⟩).2.2.m then 175 else 0

set_option maxRecDepth 100000 in
set_option maxHeartbeats 2000000 in
theorem all_any (tc : TypeId) (Bc bf of cp cf nl cl nt ct : Nat) (pt pf pl pp : Option Addr) (fs : List Int) (hfs : fs.length ≤ 1000000) (ps : List (Int × Int × Int)) (hnp : ps.length ≤ 17592186044415) (w : World)
    (hE : Env w Bc bf of (.slice pl nl cl) pp cp ps pf fs) (hB : BoxW tc w Bc bf of (.slice pt nt ct) (.slice pf fs.length cf) ⟨0, 0, 0⟩) :
    Calls Try.prog 35 #[.pointer (some ⟨Bc, 0, none⟩)] w fun e w' => e = .returned (.int .i64 (allE nl nt fs ps)) ∧ w.grownBy w' (some Bc) := by
  have P := Lib.hid (part_any 65 (Nat.le_refl _) tc 0 Bc bf of cp cf nl cl nt ct pt pf pl pp fs hfs ps hnp ⟨0, 0, 0⟩ (Nat.zero_le _) (by decide) (by decide) (by decide) (by decide) w hE hB)
  have G := partE_good nl nt fs ps (by omega) 65 0 ⟨0, 0, 0⟩ (Nat.zero_le _)
  have EE := Lib.hid hE
  clear hE hB
  unfold allE
  generalize partE nl nt fs ps 65 0 ⟨0, 0, 0⟩ = q at *
  obtain ⟨qw, qe, qs⟩ := q
  by_cases h0 : qe = 0
  · subst h0
    have G0 := G rfl
    have ga := G0.a2
    simp only [] at ga
    clear G G0
    have hsa : (qs.a : Int) ≤ ps.length := by omega
    by_cases h1 : qs.a = ps.length
    · have n1 : ((qs.a : Int) != (ps.length : Int)) = false := by simp [h1]
      by_cases h2 : 256 < qs.m
      · rw [if_neg (by simp), if_neg (by simp [h1]), if_pos h2]
        clear h1
        go_enter Try.func35, Try.ntmps35
        go_wp2_with (go_at_call 54; refine P.out.mono ?_; intro e w1 hp; obtain ⟨rfl, hg, hb⟩ := hp; have HG := Lib.hid hg; have hC := env_chk (env_kept EE.out hg) (hb rfl); obtain ⟨hlt, hltf, hne, c0, c1, c2, c3, c4, c5, f2, f3⟩ := hC; clear hg hb)
        go_quiet (fail)
        go_wp2
        go_ret
        exact ⟨rfl, grownBy_drewN' HG.out _⟩
      · rw [if_neg (by simp), if_neg (by simp [h1]), if_neg h2]
        clear h1
        go_enter Try.func35, Try.ntmps35
        go_wp2_with (go_at_call 54; refine P.out.mono ?_; intro e w1 hp; obtain ⟨rfl, hg, hb⟩ := hp; have HG := Lib.hid hg; have hC := env_chk (env_kept EE.out hg) (hb rfl); obtain ⟨hlt, hltf, hne, c0, c1, c2, c3, c4, c5, f2, f3⟩ := hC; clear hg hb)
        go_quiet (fail)
        go_wp2
        go_ret
        exact ⟨rfl, grownBy_drewN' HG.out _⟩
    · have n1 : ((qs.a : Int) != (ps.length : Int)) = true := by simp; omega
      rw [if_neg (by simp), if_pos h1]
      clear h1
      go_enter Try.func35, Try.ntmps35
      go_wp2_with (go_at_call 54; refine P.out.mono ?_; intro e w1 hp; obtain ⟨rfl, hg, hb⟩ := hp; have HG := Lib.hid hg; have hC := env_chk (env_kept EE.out hg) (hb rfl); obtain ⟨hlt, hltf, hne, c0, c1, c2, c3, c4, c5, f2, f3⟩ := hC; clear hg hb)
      go_quiet (fail)
      go_wp2
      go_ret
      exact ⟨rfl, grownBy_drewN' HG.out _⟩
  · have n0 : (qe != 0) = true := by simpa using h0
    rw [if_pos h0]
    clear G h0
    go_enter Try.func35, Try.ntmps35
    go_wp2_with (go_at_call 54; refine P.out.mono ?_; intro e w1 hp; obtain ⟨rfl, hg, hb⟩ := hp; have HG := Lib.hid hg; clear hg hb)
    go_ret
    exact ⟨rfl, HG.out⟩

end Go.Proofs.Ytecaolkbllbokaa.TG
