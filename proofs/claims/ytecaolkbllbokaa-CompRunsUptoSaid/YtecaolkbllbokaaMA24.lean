/-
  Walk of the compiler's compile, for a right unit and memory enough. Conditions: as each theorem states.
  Compile and Origin of package comp, for any unit. Conditions: as each theorem states.
  Walks of Compile and Origin of package comp, for any unit. Conditions: as each theorem states.
-/
import Derived.Test.YtecaolkbllbokaaMA23
namespace Go.Proofs.Ytecaolkbllbokaa.TG
open Go.RowKit Go.Great
set_option linter.unusedSimpArgs false
set_option linter.unusedVariables false

/-- A text's nil slice has no room. -/
def CapT (w : World) (pt : Option Addr) (u : Un) : Prop := ∀ (i : Nat) (pd : Option Addr) (n cd b o : Nat), pt = some ⟨b, o, none⟩ → i < u.texts.length → w.cell? ⟨b, o + i * 2 + 1, none⟩ = some (.slice pd n cd) → pd = none → cd = 0

theorem byte_cells (d : List Int) : ∀ u ∈ d.map (Value.int .u8), u.oneCell' = true := by
  intro u hu
  obtain ⟨x, _, rfl⟩ := List.mem_map.1 hu
  rfl

theorem byte_read {w : World} {b o : Nat} {d : List Int} (h : ∀ i, i < d.length → w.cell? ⟨b, o + i, none⟩ = some (.int .u8 (d.getD i 0))) : ∀ j u, (d.map (Value.int .u8))[j]? = some u → w.cell? ((⟨b, o, none⟩ : Addr).add j) = some u := by
  intro j u hj
  rw [List.getElem?_map] at hj
  cases hd : d[j]? with
  | none => rw [hd] at hj; cases hj
  | some x =>
    rw [hd] at hj
    injection hj with hj; subst hj
    have hjl := (List.getElem?_eq_some_iff.1 hd).1
    have := h j hjl
    simp only [List.getD, hd, Option.getD_some] at this
    unfold Addr.add
    by_cases h0 : j = 0
    · subst h0; simpa using this
    · simpa [h0] using this

theorem tloop_mid {w wr w1 : World} {u : Un} {mem : Int} {vt vf : Value} {P0 q : Nat} {vd : Value} {bs : List Int} {o : Obj} (h : TLoop w wr u mem vt vf P0 q vd bs) (g : (wr.alloc o).grownBy w1 vd.ownBlock) :
    w1.cell? ⟨P0, 1, none⟩ = some vd ∧ w1.frozen? ⟨P0, 1, none⟩ = false ∧ P0 < w1.heap.size := by
  have hb := box_moved (box_moved h.pb (World.grownBy_alloc wr o none) (by simp)) g (own_not_box h.dt h.pb (by decide))
  exact ⟨cell_of_row w1 P0 1 _ _ _ hb, frozen_of_row w1 P0 1 _ _ hb, (Array.getElem?_eq_some_iff.1 hb).1⟩

theorem tloop_bound {w wr : World} {u : Un} {mem : Int} {vt vf : Value} {P0 q : Nat} {vd : Value} {bs d : List Int} {nm : ByteArray} (h : TLoop w wr u mem vt vf P0 q vd bs) (hq : u.texts[q]? = some (nm, d)) (hb : bytesTo u.texts u.texts.length ≤ 65536) : bs.length + d.length ≤ 65536 := by
  obtain ⟨hql, hqe⟩ := List.getElem?_eq_some_iff.1 hq
  have h1 := bytesTo_len u.texts (q + 1) hql
  have h2 := bytesTo_mono u.texts (q + 1) (u.texts.length - (q + 1))
  rw [show q + 1 + (u.texts.length - (q + 1)) = u.texts.length by omega] at h2
  rw [List.take_succ_eq_append_getElem hql, List.flatMap_append, ← h.eb, hqe] at h1
  simp at h1
  omega

set_option maxRecDepth 100000 in
set_option maxHeartbeats 8000000 in
theorem compile_main (u : Un) (hu : UnWF u) (hck : checkE u = 0) (mem : Int) (hm0 : 0 ≤ mem) (hm1 : mem ≤ 65536) (hm2 : bytesTo u.texts u.texts.length ≤ mem) (hnp : ∀ f ∈ u.funcs, f.parts.length ≤ 100000000000)
    (pt pf : Option Addr) (ct cf B : Nat) (w : World) (hU : UnitAt w B pt pf u) (nct : u.texts.length ≤ ct) (mct : ct ≤ maxLen) (hcap : CapT w pt u) :
    Calls Try.prog 27 #[.agg #[.slice pt u.texts.length ct, .slice pf u.funcs.length cf], .int .i64 mem] w (MainPost w u mem) := by
  have hr := right_of hck
  have hcA := fun w' (hU' : UnitAt w' B pt pf u) => check_any u hu pt pf ct cf B w' hU'
  rw [hck] at hcA
  have CA := Lib.hid hcA
  have SA := Lib.hid (fun w' (hU' : UnitAt w' B pt pf u) => size_any u.texts hr.nt hu.text pt ct B w' hU'.texts hU'.le)
  have UU := Lib.hid hU
  have HR := Lib.hid hr
  have HU := Lib.hid hu
  have HNP := Lib.hid hnp
  have HCAP := Lib.hid hcap
  have HCT := Lib.hid (And.intro nct mct)
  have m0 : ¬ mem < 0 := by omega
  have m1 : ¬ 65536 < mem := by omega
  have m2 : ¬ mem < bytesTo u.texts u.texts.length := by omega
  have hnt := hr.nt
  have hnf := hr.nf
  clear hcA hU hr hck hu hnp hcap nct mct
  go_enter Try.func27, Try.ntmps27
  go_wp2_with (first
    | (go_at_call 22; refine (CA.out _ (unitAt_kept UU.out (grownBy_trans (World.grownBy_alloc w _ none) (World.grownBy_alloc _ _ none)) (by simp))).mono ?_; rintro e w1 ⟨rfl, hg1⟩; have hUB := boxU_kept (boxU_kept (boxU_new w _ _) (World.grownBy_alloc _ _ none) (by simp)) hg1 (by simp); have b0 := boxU_0 hUB; have b1 := boxU_1 hUB; have hltB := boxU_lt hUB; have HU1 := Lib.hid (unitAt_kept UU.out (grownBy_trans (grownBy_trans (World.grownBy_alloc w _ none) (World.grownBy_alloc _ _ none)) hg1) (by simp)); have HB1 := Lib.hid hUB; have HG1 := Lib.hid hg1; clear hg1 hUB)
    | (go_at_call 41; refine (SA.out _ HU1.out).mono ?_; rintro e w2 ⟨rfl, hg2⟩; have hg3 := grownBy_trans HG1.out hg2; have hUB2 := boxU_kept HB1.out hg2 (by simp); have d0 := boxU_0 hUB2; have d1 := boxU_1 hUB2; have hlt2 := boxU_lt hUB2; have HB2 := Lib.hid hUB2; have HG := Lib.hid hg3; clear hg2 hg3 hUB2))
  have T0 : TLoop w (w2.alloc (.cells #[.int .i64 mem, .slice none 0 0, .slice none 0 0] 32)) u mem (.slice pt u.texts.length ct) (.slice pf u.funcs.length cf) w2.heap.size 0 (.slice none 0 0) [] := by
    have hz := HG.out.size
    rw [World.size_alloc, World.size_alloc] at hz
    refine ⟨heap_alloc_new _ _, box_moved (box_moved (box_two w _ _) HG.out (by simp)) (World.grownBy_alloc _ _ none) (by simp), by omega, grownBy_trans (grownBy_trans (grownBy_trans (World.grownBy_alloc w _ none) (World.grownBy_alloc _ _ none)) HG.out) (World.grownBy_alloc _ _ none), boxU_kept HB2.out (World.grownBy_alloc _ _ none) (by simp), World.ownsRow_nil _ _ _ _, rfl⟩
  have TT := Lib.hid T0
  clear T0 CA SA b0 b1 hltB HU1 HB1 HG1 HG HB2 m0 m1 m2 d0 d1
  generalize w2.heap.size = P0 at *
  obtain ⟨bi, bi0, bi1, bi2, bi3⟩ := info_parts byte_info
  go_loopw [39] (fun i wr => ∃ (q : Nat) (vd : Value) (bs : List Int), i = .int .i64 q ∧ q ≤ u.texts.length ∧ TLoop w wr u mem (.slice pt u.texts.length ct) (.slice pf u.funcs.length cf) P0 q vd bs) (fun i _ => u.texts.length - (intOf i).toNat)
  case atStart => exact ⟨0, _, [], rfl, Nat.zero_le _, TT.out⟩
  case round =>
    obtain ⟨q, vd, bs, rfl, hq, hT⟩ := hrel
    obtain ⟨pv, cv, rfl⟩ := own_slice hT.dt
    have T := Lib.hid hT
    have k1 := cell_of_row wr P0 1 _ _ _ hT.pb
    have kz := frozen_of_row wr P0 1 _ _ hT.pb
    have kl := (Array.getElem?_eq_some_iff.1 hT.pb).1
    by_cases hlt : (q : Int) < (u.texts.length : Int)
    · obtain ⟨bt, ot, rfl, hbt, hct⟩ := UU.out.texts (by omega)
      obtain ⟨⟨nm, d⟩, hqd⟩ : ∃ x, u.texts[q]? = some x := ⟨_, List.getElem?_eq_getElem (by omega)⟩
      obtain ⟨e0, pd, cd, e1, hbd⟩ := hct q nm d hqd
      have HQD := Lib.hid hqd
      have hcd := HCAP.out q pd d.length cd bt ot rfl (by omega) e1
      have hBw := UU.out.le
      have hbw : bt < wr.heap.size := by have := hT.gr.size; omega
      have f0 := hT.gr.cell e0 (by simp)
      have f1 := hT.gr.cell e1 (by simp)
      have hbnd := tloop_bound hT hqd HR.out.by_
      have hc3 : bs.length + d.length ≤ maxLen := by unfold maxLen; omega
      have hc4 : (bs.length + d.length) * 1 ≤ 140737488355328 := by omega
      have hgs := hT.gr.size
      have hE : ∀ o, w.heap.size ≤ (wr.alloc o).heap.size := fun o => by simp; omega
      cases pd with
      | none =>
        have hd0 : d.length = 0 := by
          rcases Nat.eq_zero_or_pos d.length with h0 | h0
          · exact h0
          · obtain ⟨b', o', e', _⟩ := hbd h0; cases e'
        have hd : d = [] := List.length_eq_zero_iff.1 hd0
        subst hd
        have hcd0 := hcd rfl
        subst hcd0
        clear hct hqd hbd e0 e1 hT
        go_wp2_with (at_builtin; refine wpList_append_none rfl _ _ 29 rfl w.heap.size 5 bi 1 byte_und bi0 (.slice pv bs.length cv) bs.length (bs.map (Value.int .u8)) rfl (T.out.dt.alloc _) rfl ?_)
        go_roundw
        case rel =>
          refine ⟨q + 1, .slice pv bs.length cv, bs ++ [], by go_num, by omega, ?_⟩
          rw [← World.setCell_alloc_past _ _ _ _ kl]
          exact tloop_next T.out HQD.out (grow_w (grownBy_refl _ none)) (by simpa using T.out.dt.alloc _)
        case measure => simp [intOf]; omega
      | some ad =>
        have hnews : ∀ (o : Obj) j x, (d.map (Value.int .u8))[j]? = some x → (wr.alloc o).cell? (ad.add j) = some x := by
          intro o
          rcases Nat.eq_zero_or_pos d.length with h0 | h0
          · have hd : d = [] := List.length_eq_zero_iff.1 h0
            subst hd
            intro j x hj; simp at hj
          · obtain ⟨b', o', e', hb', hc'⟩ := hbd h0
            injection e' with e'; subst e'
            exact byte_read fun i hi => (World.grownBy_alloc wr o none).cell (hT.gr.cell (hc' i hi) (by simp)) (by simp)
        have HN := Lib.hid hnews
        clear hct hqd hbd e0 e1 hT hnews hcd
        go_wp2_with (at_builtin; refine wpList_append_own_at _ rfl _ _ 29 rfl w.heap.size 5 bi (.int .u8 0) 1 1 byte_und bi0 bi1 bi2 bi3 rfl (by decide) _ _ _ rfl (T.out.dt.alloc _) ad d.length cd (d.map (Value.int .u8)) rfl (by simp) (HN.out _) (byte_cells d) hc3 hc4 (hE _) ?_; intro v3 w3 hown3 hgr3 hnil3 hat3; obtain ⟨p3, k3, hv3⟩ := own_slice hown3; subst hv3; have TM := tloop_mid T.out hgr3; obtain ⟨t1, t2, t3⟩ := TM; have OW3 := Lib.hid hown3; have GR3 := Lib.hid hgr3; clear hown3 hgr3 hnil3 hat3)
        go_roundw
        case rel => exact ⟨q + 1, _, bs ++ d, by go_num, by omega, tloop_next T.out HQD.out GR3.out OW3.out⟩
        case measure => simp [intOf]; omega
    · have hqe : q = u.texts.length := by omega
      subst hqe
      have C0 := Lib.hid (cloop_start hT)
      have e1 := boxU_1 hT.ub
      have hub := boxU_lt hT.ub
      clear hT T k1 kz kl
      go_wp2
      obtain ⟨fi, fi0, fi1, fi2, fi3⟩ := info_parts func_info
      obtain ⟨ii, ii0, ii1, ii2, ii3⟩ := info_parts ints_info
      go_loopw [11, 53] (fun v i wr => ∃ (k : Nat) (vd vF : Value) (rows : List (Value × Value)), i = .int .i64 k ∧ k ≤ u.funcs.length ∧ CLoop w wr u mem (.slice pt u.texts.length ct) (.slice pf u.funcs.length cf) P0 k v vd vF rows ∧ (∀ (i : Nat) (f : Fun), i < k → u.funcs[i]? = some f → (fullP u.texts f.parts).out.length ≤ 4096)) (fun _ i _ => u.funcs.length - (intOf i).toNat)
      case atStart => exact ⟨0, _, _, [], rfl, Nat.zero_le _, C0.out, fun i f hi => by omega⟩
      case round =>
        obtain ⟨k, vd', vF, rows, rfl, hk, hL, hsm⟩ := hrel
        obtain ⟨pv', cv', rfl⟩ := own_slice hL.or
        obtain ⟨pF, cF, rfl⟩ := own_slice hL.fr
        have LL := Lib.hid hL
        have SM := Lib.hid hsm
        clear hsm
        by_cases hlt : (k : Int) < (u.funcs.length : Int)
        · obtain ⟨bF, oF, rfl, hbF, hcF⟩ := UU.out.funcs (by omega)
          obtain ⟨f, hf⟩ : ∃ f, u.funcs[k]? = some f := ⟨_, List.getElem?_eq_getElem (by omega)⟩
          obtain ⟨q0, q1, ⟨pl, cl, q2, _⟩, ⟨pp, cp, q3, hpp⟩⟩ := hcF k f hf
          have HF := Lib.hid hf
          have hmf := List.mem_of_getElem? hf
          have hBw := UU.out.le
          have hgs := hL.gr.size
          replace q0 := hL.gr.cell q0 (by simp)
          replace q1 := hL.gr.cell q1 (by simp)
          replace q2 := hL.gr.cell q2 (by simp)
          replace q3 := hL.gr.cell q3 (by simp)
          have hbF3 : bF < wr.heap.size := by omega
          have hB3 : B ≤ wr.heap.size := by omega
          have PP := Lib.hid (partsB_kept hpp hL.gr (by simp))
          have TX := Lib.hid (textsAt_kept UU.out.texts hL.gr (by simp))
          have HOK := Lib.hid (HR.out.ok f hmf).1
          have HNF := Lib.hid (HNP.out f hmf)
          have e0' := boxU_0 hL.ub
          have e1' := boxU_1 hL.ub
          have hub' := boxU_lt hL.ub
          clear hcF hpp hL e1 hub
          go_wp2_with (first
            | (go_at_call 42; refine (ends_any _ _).mono ?_; intro e w6 hp; obtain ⟨bc, b6, M, rfl, hA⟩ := one_a hp; have A6 := Lib.hid hA; have OWr := one_write hA hB3 PP.out TX.out HR.out.nt HCT.out.1 HCT.out.2 HU.out.text HNF.out HOK.out; obtain ⟨ok6, wa6⟩ := OWr; have OK6 := Lib.hid ok6; have WA := Lib.hid wa6; have d9 := cell_of_row w6 _ 9 _ _ _ hA.hb; have z9 := frozen_of_row w6 _ 9 _ _ hA.hb; have hlt6 := (Array.getElem?_eq_some_iff.1 hA.hb).1; clear hA hp ok6 wa6)
            | (go_at_call 43; refine WA.out.mono ?_; clear WA; intro e w8 hp; obtain ⟨s8, v8, rfl, g8, a8, h8⟩ := hp; have G8 := Lib.hid g8; have A8 := Lib.hid a8; have H8 := Lib.hid h8; have E9 := Lib.hid (one_emit OK6.out g8.at_ (Nat.le_trans h8 (by decide)) 3 0); clear g8 a8 h8)
            | (go_at_call 44; refine E9.out.mono ?_; clear E9; intro e w9 hp; obtain ⟨rfl, s9, g9, a9⟩ := hp; have G9 := Lib.hid g9; have A9 := Lib.hid a9; have E10 := Lib.hid (one_emit OK6.out g9.at_ (len_9 H8.out a9) 18 0); clear g9 a9)
            | (go_at_call 44; refine E10.out.mono ?_; clear E10; intro e w10 hp; obtain ⟨rfl, s10, g10, a10⟩ := hp; have FL := Lib.hid (full_of A8.out A9.out a10); have F10 := one_fm A6.out (go_trans (go_trans G8.out G9.out) g10); have FM10 := Lib.hid F10; obtain ⟨po, co, hvo⟩ := own_slice F10.code.out; obtain ⟨pg, cg, hvg⟩ := own_slice F10.code.org; have MD := mid_of LL.out F10; rw [hvo, hvg] at MD; have HVO := Lib.hid hvo; have HVG := Lib.hid hvg; obtain ⟨k0, z0, k1, k2, c6, c7, lP, lC, lB, r0, r1, r2, y0, y1, y2, lR, nC, nB⟩ := MD; clear g10 a10 F10 hvo hvg))
          rotate_left
          · have hsl : (fullP u.texts f.parts).out.length ≤ 4096 := by rw [← FL.out.1]; omega
            have HSL := Lib.hid hsl
            have fr10 := LL.out.fr.kept FM10.out.gr (Classical.em _)
            have nFC : (Value.slice pF k cF).ownBlock ≠ some wr.heap.size := own_not_box fr10 FM10.out.cp (by decide)
            have nFB : (Value.slice pF k cF).ownBlock ≠ some (wr.heap.size + 1) := own_not_box fr10 FM10.out.code.box (by decide)
            have hP10 := box_moved LL.out.pb FM10.out.gr (by simp)
            have nFP : (Value.slice pF k cF).ownBlock ≠ some P0 := own_not_box fr10 hP10 (by decide)
            have hz10 := FM10.out.gr.size
            have or10 := LL.out.or.kept FM10.out.gr (Classical.em _)
            generalize hC0 : wr.heap.size = C0 at *
            generalize hBd : C0 + 1 = Bd at *
            obtain ⟨v13, w11, hrun13, hown13, hgr13, _⟩ := run_append_own (P := Try.prog) (w10.drew.alloc (.cells #[.int .i64 f.args, .int .i64 f.locals.length, .int .i64 1, .slice po s10.out.length co] 73)) w.heap.size 30 30 73 fi (.agg #[.int .i64 0, .int .i64 0, .int .i64 0, .slice none 0 0]) 4 48 func_und fi0 fi1 fi2 fi3 rfl (by decide) (.slice pF k cF) k (flat4 u.funcs rows) (fr10.kept (grown_drew_alloc w10 _) (Classical.em _)) ⟨w10.heap.size, 0, none⟩ 1 1 [.int .i64 f.args, .int .i64 f.locals.length, .int .i64 1, .slice po s10.out.length co] rfl (four_new w10 _ _ _ _ _) (four_cell _ _ _ _ _ _) (by unfold maxLen; omega) (by omega) (by simp; omega)
            obtain ⟨gF, cF', rfl⟩ := own_succ hown13
            have hP11 := box_moved (box_moved hP10 (grown_drew_alloc w10 _) (by simp)) hgr13 nFP
            have k0' := cell_of_row w11 P0 2 _ _ _ hP11
            have z0' := frozen_of_row w11 P0 2 _ _ hP11
            refine region_rj (N := 104) (n := 16) (dst := dR) (val := vS P0 C0 Bd w10.heap.size f.args f.locals.length (.slice pF k cF) (.slice pl f.locals.length cl) (.slice po s10.out.length co) (.slice (some ⟨gF, 0, none⟩) (k + 1) cF')) (WS := WS25 w10.drew (w10.drew.alloc (.cells #[.int .i64 f.args, .int .i64 f.locals.length, .int .i64 1, .slice po s10.out.length co] 73)) w11 (w11.setCell ⟨P0, 2, none⟩ (.slice (some ⟨gF, 0, none⟩) (k + 1) cF'))) (by kernel_rfl) rfl rfl (dag_of (by kernel_rfl)) (ws_start _ _ _ _) ?step ?fin
            case step =>
              intro l a w' i hJ hW hi
              have hi16 : i < 16 := by
                obtain ⟨_, o, ho, _⟩ := mem_ready.1 hi
                exact (Array.getElem?_eq_some_iff.1 ho).1
              have t8 : a.tmps.getD 8 undef = .pointer (some ⟨P0, 0, none⟩) := hJ.un 8 (fun i _ _ e => by have := dR_ge i; omega)
              have t13 : a.tmps.getD 13 undef = .pointer (some ⟨C0, 0, none⟩) := hJ.un 13 (fun i _ _ e => by have := dR_ge i; omega)
              have t14 : a.tmps.getD 14 undef = .pointer (some ⟨Bd, 0, none⟩) := hJ.un 14 (fun i _ _ e => by have := dR_ge i; omega)
              have keep4 : ∀ b o v, w10.cell? ⟨b, o, none⟩ = some v → b ≠ P0 → (Value.slice pF k cF).ownBlock ≠ some b → w'.cell? ⟨b, o, none⟩ = some v := by
                intro b o v hc hb hb2
                rcases ws_any hW with rfl | rfl | rfl | rfl
                · exact hc
                · exact (World.grownBy_alloc w10.drew _ none).cell hc (by simp)
                · exact hgr13.cell ((World.grownBy_alloc w10.drew _ none).cell hc (by simp)) (Ne.symm hb2)
                · exact (grownBy_set w11 P0 2 _).cell (hgr13.cell ((World.grownBy_alloc w10.drew _ none).cell hc (by simp)) (Ne.symm hb2)) (by simpa using hb)
              have hun : l.getD i false = false := getD_both (mem_ready.1 hi).1
              rcases un_lt16 i hi16 with rfl | rfl | rfl | rfl | rfl | rfl | rfl | rfl | rfl | rfl | rfl | rfl | rfl | rfl | rfl | rfl
              · exact rg_value hJ rfl rfl rfl (by decide) (by decide) (dR_ne _ (by decide)) (w' := w') (by simp [execOp, Act.eval, t8, go_sem, vS, vR]) (ws_same hW (by decide) (by decide) (by decide))
              · have e0 : a.tmps.getD 79 undef = .pointer (some ⟨P0, 2, none⟩) := (hJ.sl 0 (by decide) (listed_of hi 0 (by kernel_rfl)) (by decide))
                have hcell : w'.cell? ⟨P0, 2, none⟩ = some (.slice pF k cF) := by
                  rcases ws_low hW hun with rfl | rfl
                  · exact k0
                  · exact (World.grownBy_alloc w10.drew _ none).cell k0 (by simp)
                exact rg_value hJ rfl rfl rfl (by decide) (by decide) (dR_ne _ (by decide)) (w' := w') (by simp [execOp, Act.eval, e0, hcell, go_sem, vS]) (ws_same hW (by decide) (by decide) (by decide))
              · exact rg_value hJ rfl rfl rfl (by decide) (by decide) (dR_ne _ (by decide)) (w' := w') (by simp [execOp, Act.eval, t13, go_sem, vS, vR]) (ws_same hW (by decide) (by decide) (by decide))
              · have e2 : a.tmps.getD 81 undef = .pointer (some ⟨C0, 1, none⟩) := (hJ.sl 2 (by decide) (listed_of hi 2 (by kernel_rfl)) (by decide))
                have hcell := keep4 _ _ _ k1 nC nFC
                exact rg_value hJ rfl rfl rfl (by decide) (by decide) (dR_ne _ (by decide)) (w' := w') (by simp [execOp, Act.eval, e2, hcell, go_sem, vS, vR]) (ws_same hW (by decide) (by decide) (by decide))
              · exact rg_value hJ rfl rfl rfl (by decide) (by decide) (dR_ne _ (by decide)) (w' := w') (by simp [execOp, Act.eval, t13, go_sem, vS, vR]) (ws_same hW (by decide) (by decide) (by decide))
              · have e4 : a.tmps.getD 83 undef = .pointer (some ⟨C0, 2, none⟩) := (hJ.sl 4 (by decide) (listed_of hi 4 (by kernel_rfl)) (by decide))
                have hcell := keep4 _ _ _ k2 nC nFC
                exact rg_value hJ rfl rfl rfl (by decide) (by decide) (dR_ne _ (by decide)) (w' := w') (by simp [execOp, Act.eval, e4, hcell, go_sem, vS, vR]) (ws_same hW (by decide) (by decide) (by decide))
              · have e5 : a.tmps.getD 84 undef = .slice pl f.locals.length cl := (hJ.sl 5 (by decide) (listed_of hi 5 (by kernel_rfl)) (by decide))
                exact rg_value hJ rfl rfl rfl (by decide) (by decide) (dR_ne _ (by decide)) (w' := w') (by simp [execOp, Act.eval, e5, go_sem, vS, vR]) (ws_same hW (by decide) (by decide) (by decide))
              · exact rg_value hJ rfl rfl rfl (by decide) (by decide) (dR_ne _ (by decide)) (w' := w') (by simp [execOp, Act.eval, t14, go_sem, vS, vR]) (ws_same hW (by decide) (by decide) (by decide))
              · have e7 : a.tmps.getD 86 undef = .pointer (some ⟨Bd, 0, none⟩) := (hJ.sl 7 (by decide) (listed_of hi 7 (by kernel_rfl)) (by decide))
                exact rg_value hJ rfl rfl rfl (by decide) (by decide) (dR_ne _ (by decide)) (w' := w') (by simp [execOp, Act.eval, e7, go_sem, vS, vR]) (ws_same hW (by decide) (by decide) (by decide))
              · have e8 : a.tmps.getD 87 undef = .pointer (some ⟨Bd, 0, none⟩) := (hJ.sl 8 (by decide) (listed_of hi 8 (by kernel_rfl)) (by decide))
                exact rg_value hJ rfl rfl rfl (by decide) (by decide) (dR_ne _ (by decide)) (w' := w') (by simp [execOp, Act.eval, e8, go_sem, vS, vR]) (ws_same hW (by decide) (by decide) (by decide))
              · have e9 : a.tmps.getD 88 undef = .pointer (some ⟨Bd, 6, none⟩) := (hJ.sl 9 (by decide) (listed_of hi 9 (by kernel_rfl)) (by decide))
                have hcell := keep4 _ _ _ c6 nB nFB
                exact rg_value hJ rfl rfl rfl (by decide) (by decide) (dR_ne _ (by decide)) (w' := w') (by simp [execOp, Act.eval, e9, hcell, go_sem, vS, vR]) (ws_same hW (by decide) (by decide) (by decide))
              · have e3 : a.tmps.getD 82 undef = .int .i64 f.args := (hJ.sl 3 (by decide) (listed_of hi 3 (by kernel_rfl)) (by decide))
                have e6 : a.tmps.getD 85 undef = .int .i64 f.locals.length := (hJ.sl 6 (by decide) (listed_of hi 6 (by kernel_rfl)) (by decide))
                have e10 : a.tmps.getD 89 undef = .slice po s10.out.length co := (hJ.sl 10 (by decide) (listed_of hi 10 (by kernel_rfl)) (by decide))
                exact rg_value hJ rfl rfl rfl (by decide) (by decide) (dR_ne _ (by decide)) (w' := w') (by rw [Array.getD_eq_getD_getElem?] at e3 e6 e10; simp [execOp, Act.eval, e3, e6, e10, go_sem, vS, vR]) (ws_same hW (by decide) (by decide) (by decide))
              · have e11 : a.tmps.getD 90 undef = .agg #[.int .i64 f.args, .int .i64 f.locals.length, .int .i64 1, .slice po s10.out.length co] := (hJ.sl 11 (by decide) (listed_of hi 11 (by kernel_rfl)) (by decide))
                obtain ⟨rfl, hW'⟩ := ws_12 hW hun
                exact rg_value hJ rfl rfl rfl (by decide) (by decide) (dR_ne _ (by decide)) (by rw [Array.getD_eq_getD_getElem?] at e11; simp [execOp, Act.eval, e11, go_sem, vS, vR]) hW'
              · have e1' : a.tmps.getD 80 undef = .slice pF k cF := (hJ.sl 1 (by decide) (listed_of hi 1 (by kernel_rfl)) (by decide))
                have e12 : a.tmps.getD 91 undef = .slice (some ⟨w10.heap.size, 0, none⟩) 1 1 := (hJ.sl 12 (by decide) (listed_of hi 12 (by kernel_rfl)) (by decide))
                obtain ⟨rfl, hW'⟩ := ws_13 hW hun (listed_of hi 12 (by kernel_rfl)) (listed_of hi 1 (by kernel_rfl))
                exact rg_value hJ rfl rfl rfl (by decide) (by decide) (dR_ne _ (by decide)) (by simp [execOp, resolve, invoke, builtin, Act.eval, e1', e12, hrun13, Result.andThen, vS, vR]) hW'
              · exact rg_value hJ rfl rfl rfl (by decide) (by decide) (dR_ne _ (by decide)) (w' := w') (by simp [execOp, Act.eval, t8, go_sem, vS, vR]) (ws_same hW (by decide) (by decide) (by decide))
              · have e13 : a.tmps.getD 92 undef = .slice (some ⟨gF, 0, none⟩) (k + 1) cF' := (hJ.sl 13 (by decide) (listed_of hi 13 (by kernel_rfl)) (by decide))
                have e14 : a.tmps.getD 93 undef = .pointer (some ⟨P0, 2, none⟩) := (hJ.sl 14 (by decide) (listed_of hi 14 (by kernel_rfl)) (by decide))
                obtain ⟨rfl, hW'⟩ := ws_15 hW hun (listed_of hi 13 (by kernel_rfl))
                exact rg_skip hJ rfl rfl rfl (by decide) (by decide) (by simp [execOp, Act.eval, e13, e14, k0', z0', go_sem]) hW'
            case fin =>
              intro l a w' hJ hW hl
              have hw := ws_end hW (hl 15 (by decide))
              subst hw
              have hput := rj_end (aF := putsF _ dR (vS P0 C0 Bd w10.heap.size f.args f.locals.length (.slice pF k cF) (.slice pl f.locals.length cl) (.slice po s10.out.length co) (.slice (some ⟨gF, 0, none⟩) (k + 1) cF')) 15) hJ hl (putsF_size rfl 15) (putsF_defers 15) (fun i hi hd => putsF_in rfl 15 (fun i j h1 h2 h3 => dR_ne j (by omega) i (by omega) h3) i (by by_cases h : i = 15 <;> first | omega | (subst h; exact absurd hd (by decide))) hd) (fun j hj => putsF_out 15 j (fun i hi => hj i (by omega)))
              subst hput
              clear hJ hW hl
              simp only [putsF, dR, vS, vR, Act.put, Nat.reduceLT, if_true, ite_true, Nat.reduceAdd, List.setIfInBounds_toArray, List.set_cons_zero, List.set_cons_succ]
              have d7 : (w11.setCell ⟨P0, 2, none⟩ (.slice (some ⟨gF, 0, none⟩) (k + 1) cF')).cell? ⟨Bd, 7, none⟩ = some (.slice pg s10.org.length cg) := (grownBy_set w11 P0 2 _).cell (hgr13.cell ((World.grownBy_alloc w10.drew _ none).cell c7 (by simp)) (Ne.symm nFB)) (by simpa using nB)
              have hz11 := hgr13.size
              rw [World.size_alloc] at hz11
              have hz12 : w10.drew.heap.size = w10.heap.size := rfl
              have hlt15 : Bd < (w11.setCell ⟨P0, 2, none⟩ (.slice (some ⟨gF, 0, none⟩) (k + 1) cF')).heap.size := by rw [World.size_setCell]; omega
              have hb16 : ∀ o, w.heap.size ≤ ((w11.setCell ⟨P0, 2, none⟩ (.slice (some ⟨gF, 0, none⟩) (k + 1) cF')).alloc o).heap.size := by intro o; simp; omega
              have or15 : (w11.setCell ⟨P0, 2, none⟩ (.slice (some ⟨gF, 0, none⟩) (k + 1) cF')).ownsRow w.heap.size 47 1 (.slice pv' k cv') k (rows.map Prod.snd) := by
                have o1 := (or10.kept (grown_drew_alloc w10 _) (Classical.em _)).kept hgr13 (own_other or10 fr10 (by decide))
                exact o1.kept (grownBy_set w11 P0 2 _) (Or.inr (own_not_box o1 hP11 (by decide)))
              have O13 := Lib.hid hown13
              have H13 := Lib.hid hgr13
              have O15 := Lib.hid or15
              have hk64 : k + 1 ≤ maxLen := by unfold maxLen; omega
              have hk65 : (k + 1) * 24 ≤ 140737488355328 := by omega
              clear hown13 hrun13 hgr13 k0' hP11 z0' or15 or10 fr10 hP10
              go_wp2_with (at_builtin; refine wpList_append_own_at _ rfl _ _ 41 rfl w.heap.size 47 ii (.slice none 0 0) 1 24 ints_und ii0 ii1 ii2 ii3 rfl (by decide) _ _ _ rfl (O15.out.alloc _) ⟨w11.heap.size, 0, none⟩ 1 1 [.slice pg s10.org.length cg] rfl rfl (one_set w11 P0 2 _ _ _) (one_slice _ _ _) hk64 hk65 (hb16 _) ?_; intro v16 w16 hown16 hgr16 hnil16 hat16; obtain ⟨gO, cO, hvO⟩ := own_succ hown16; subst hvO; have O16 := Lib.hid hown16; have G16 := Lib.hid hgr16; clear hown16 hgr16 hnil16 hat16)
              go_roundw
              case rel => exact ⟨k + 1, vd', _, rows ++ [(.slice po s10.out.length co, .slice pg s10.org.length cg)], by go_num, by omega, cloop_next LL.out HF.out (by have := FM10.out; rw [HVO.out, HVG.out] at this; exact this) FL.out.1 FL.out.2 H13.out O13.out G16.out O16.out, fun i f' hi hf' => by
                by_cases hik : i < k
                · exact SM.out i f' hik hf'
                · have : i = k := by omega
                  subst this
                  have e := HF.out
                  rw [hf'] at e; injection e with e; subst e
                  exact HSL.out⟩
              case measure => simp [intOf]; omega
          · refine bodyPost_ret (v := .tuple #[.agg #[.int .i64 0, .slice none 0 0, .slice none 0 0], .slice none 0 0, .int .i64 181]) ?_ rfl ?_
            · rw [results_cell_tmp2 rfl]
              go_simp
            · unfold MainPost
              rw [if_pos (bigF_true HF.out (by rw [← FL.out.1]; omega))]
              exact ⟨rfl, main_bad LL.out FM10.out.gr _ _ _⟩
        · have hke : k = u.funcs.length := by omega
          have p0 := cell_of_row wr P0 0 _ _ _ hL.pb
          have p1 := cell_of_row wr P0 1 _ _ _ hL.pb
          have p2 := cell_of_row wr P0 2 _ _ _ hL.pb
          have r0 := cell_of_row wr _ 0 _ _ _ hL.rb
          have r1 := cell_of_row wr _ 1 _ _ _ hL.rb
          have r2 := cell_of_row wr _ 2 _ _ _ hL.rb
          have y0 := frozen_of_row wr _ 0 _ _ hL.rb
          have y1 := frozen_of_row wr _ 1 _ _ hL.rb
          have y2 := frozen_of_row wr _ 2 _ _ hL.rb
          have hlP := (Array.getElem?_eq_some_iff.1 hL.pb).1
          have hlR := (Array.getElem?_eq_some_iff.1 hL.rb).1
          obtain ⟨pd', cd', hvd⟩ := own_slice hL.dt
          subst hvd
          clear hL
          go_wp2
          refine bodyPost_ret (v := .tuple #[.agg #[.int .i64 mem, .slice pd' (dataE u).length cd', .slice pF k cF], .slice pv' k cv', .int .i64 0]) ?_ rfl ?_
          · rw [results_cell_tmp2 rfl]
            go_simp
          · unfold MainPost
            rw [if_neg (by rw [bigF_false (fun i f hf => SM.out i f (by have := (List.getElem?_eq_some_iff.1 hf).1; omega) hf)]; simp)]
            subst hke
            exact ⟨_, _, _, rows, rfl, main_end LL.out _ _ _⟩

end Go.Proofs.Ytecaolkbllbokaa.TG

namespace Go.Proofs.Ytecaolkbllbokaa.TG
open Go.RowKit Go.Great
set_option linter.unusedSimpArgs false
set_option linter.unusedVariables false

/-- What a unit must be beside its cells: sizes such as a machine bears, no room behind nil. -/
structure UnOK (w : World) (pt : Option Addr) (ct : Nat) (u : Un) : Prop where
  wf : UnWF u
  np : ∀ f ∈ u.funcs, f.parts.length ≤ 100000000000
  nct : u.texts.length ≤ ct
  mct : ct ≤ maxLen
  cap : CapT w pt u

theorem capT_kept {w w' : World} {B : Nat} {pt pf : Option Addr} {u : Un} (h : CapT w pt u) (hU : UnitAt w B pt pf u) (g : w.grownBy w' none) : CapT w' pt u := by
  intro i pd n cd b o hp hi hc hn
  obtain ⟨b', o', e, hb, hcc⟩ := hU.texts (by omega)
  rw [hp] at e
  injection e with e; injection e with e1 e2 _; subst e1; subst e2
  obtain ⟨⟨nm, d⟩, hx⟩ : ∃ x, u.texts[i]? = some x := ⟨_, List.getElem?_eq_getElem hi⟩
  obtain ⟨_, pd', cd', h1, _⟩ := hcc i nm d hx
  have h2 := g.cell h1 (by simp)
  rw [h2] at hc
  injection hc with hc
  injection hc with c1 c2 c3
  subst c1; subst c3
  exact h i pd' d.length cd' b o hp hi h1 hn
theorem unOK_kept {w w' : World} {B ct : Nat} {pt pf : Option Addr} {u : Un} (h : UnOK w pt ct u) (hU : UnitAt w B pt pf u) (g : w.grownBy w' none) : UnOK w' pt ct u :=
  ⟨h.wf, h.np, h.nct, h.mct, capT_kept h.cap hU g⟩

def AnyPost (w : World) (u : Un) (mem : Int) (e : Ending) (w' : World) : Prop :=
  if compE u mem = 0 then ∃ vd vF v rows, e = .returned (.tuple #[.agg #[.int .i64 mem, vd, vF], v, .int .i64 0]) ∧ CRes w w' u vd vF v rows else BadPost w (compE u mem) e w'

theorem compile_any (u : Un) (mem : Int) (pt pf : Option Addr) (ct cf B : Nat) (w : World) (hU : UnitAt w B pt pf u) (hO : UnOK w pt ct u) :
    Calls Try.prog 27 #[.agg #[.slice pt u.texts.length ct, .slice pf u.funcs.length cf], .int .i64 mem] w (AnyPost w u mem) := by
  by_cases hb : checkE u ≠ 0 ∨ (mem < 0 ∨ 65536 < mem) ∨ mem < bytesTo u.texts u.texts.length
  · refine (compile_bad u hO.wf mem pt pf ct cf B w hU hb).mono ?_
    intro e w' hp
    have hne : compE u mem ≠ 0 := by
      unfold compE
      by_cases h1 : checkE u = 0
      · rw [if_neg (by omega)]
        by_cases h2 : mem < 0 ∨ 65536 < mem
        · rw [if_pos h2]; omega
        · rw [if_neg h2, if_pos (by omega)]; omega
      · rw [if_pos h1]; exact h1
    unfold AnyPost
    rw [if_neg hne]
    exact hp
  · refine (compile_main u hO.wf (by omega) mem (by omega) (by omega) (by omega) hO.np pt pf ct cf B w hU hO.nct hO.mct hO.cap).mono ?_
    intro e w' hp
    have hce : compE u mem = if bigF u then 181 else 0 := by
      unfold compE
      rw [if_neg (by omega), if_neg (by omega), if_neg (by omega)]
    unfold AnyPost
    rw [hce]
    unfold MainPost at hp
    by_cases hbig : bigF u = true
    · rw [if_pos hbig] at hp ⊢
      rw [if_neg (by decide)]
      exact hp
    · rw [if_neg hbig] at hp ⊢
      rw [if_pos rfl]
      exact hp

/-- What Compile leaves. -/
def CompileP (w : World) (u : Un) (mem : Int) (e : Ending) (w' : World) : Prop :=
  if compE u mem = 0 then ∃ vd vF v rows, e = .returned (.tuple #[.agg #[.int .i64 mem, vd, vF], .int .i64 0]) ∧ CRes w w' u vd vF v rows else e = .returned (.tuple #[.agg #[.int .i64 0, .slice none 0 0, .slice none 0 0], .int .i64 (compE u mem)]) ∧ w.grownBy w' none
/-- What Origin leaves. -/
def OriginP (w : World) (u : Un) (e : Ending) (w' : World) : Prop :=
  if compE u 65536 = 0 then ∃ vd vF v rows, e = .returned (.tuple #[v, .int .i64 0]) ∧ CRes w w' u vd vF v rows else e = .returned (.tuple #[.slice none 0 0, .int .i64 (compE u 65536)]) ∧ w.grownBy w' none

end Go.Proofs.Ytecaolkbllbokaa.TG

namespace Go.Proofs.Ytecaolkbllbokaa.TG
open Go.RowKit Go.Great
set_option linter.unusedSimpArgs false
set_option linter.unusedVariables false

theorem cres_base {w w2 w' : World} {u : Un} {vd vF v : Value} {rows : List (Value × Value)} (h : CRes w2 w' u vd vF v rows) (g : w.grownBy w2 none) : CRes w w' u vd vF v rows := by
  have hz := g.size
  refine ⟨h.len, grownBy_trans g h.gr, own_lower h.dt hz, own_lower h.fr hz, own_lower h.or hz, fun i vo vg f hi hf => ?_, h.ord⟩
  obtain ⟨e1, e2⟩ := h.each i vo vg f hi hf
  exact ⟨own_lower e1 hz, own_lower e2 hz⟩

theorem comp_end {w w1 : World} {u : Un} {vd vF v : Value} {rows : List (Value × Value)} {o o' : Obj} {a b c : Value} (h : CRes w w1 u vd vF v rows) (hR : w1.heap[w.heap.size + 1]? = some (.cells #[.int .i64 0, .slice none 0 0, .slice none 0 0] 32 (0, 0))) :
    CRes w ((((w1.setCell ⟨w.heap.size + 1, 0, none⟩ a).setCell ⟨w.heap.size + 1, 1, none⟩ b).setCell ⟨w.heap.size + 1, 2, none⟩ c).alloc o) u vd vF v rows := by
  have hT : w1.grownBy ((((w1.setCell ⟨w.heap.size + 1, 0, none⟩ a).setCell ⟨w.heap.size + 1, 1, none⟩ b).setCell ⟨w.heap.size + 1, 2, none⟩ c).alloc o) (some (w.heap.size + 1)) := grownBy_trans (grownBy_trans (grownBy_trans (grownBy_set w1 _ 0 _) (grownBy_set _ _ 1 _)) (grownBy_set _ _ 2 _)) (World.grownBy_alloc _ _ _)
  refine cres_kept (P := fun k => k = w.heap.size + 1) h (sp_grown hT fun k _ e => by injection e with e; exact e.symm) (fun k e => by omega) ?_
  intro e size n x xs ho he k hk hk2
  refine own_not_box ho hR ?_ (by rw [hk, hk2])
  rcases he with rfl | rfl | rfl | rfl | rfl <;> decide

theorem cres_alloc {w w1 : World} {u : Un} {vd vF v : Value} {rows : List (Value × Value)} (h : CRes w w1 u vd vF v rows) (o : Obj) : CRes w (w1.alloc o) u vd vF v rows :=
  cres_kept (P := fun _ => False) h (sp_grown (World.grownBy_alloc w1 o none) (by simp)) (fun k e => e.elim) (fun _ _ _ _ _ _ _ _ _ e => e)

theorem grow_two (w : World) (o o' : Obj) : w.grownBy ((w.alloc o).alloc o') none := grownBy_trans (World.grownBy_alloc w o none) (World.grownBy_alloc _ o' none)

set_option maxRecDepth 100000 in
set_option maxHeartbeats 4000000 in
theorem comp_any (u : Un) (mem : Int) (pt pf : Option Addr) (ct cf B : Nat) (w : World) (hU : UnitAt w B pt pf u) (hO : UnOK w pt ct u) :
    Calls Try.prog 11 #[.agg #[.slice pt u.texts.length ct, .slice pf u.funcs.length cf], .int .i64 mem] w (CompileP w u mem) := by
  have CO := Lib.hid (fun o o' => compile_any u mem pt pf ct cf B ((w.alloc o).alloc o') (unitAt_kept hU (grow_two w o o') (by simp)) (unOK_kept hO hU (grow_two w o o')))
  by_cases h0 : compE u mem = 0
  · have H0 := Lib.hid h0
    clear hU hO h0
    go_enter Try.func11, Try.ntmps11
    go_wp2_with (go_at_call 27; refine (CO.out _ _).mono ?_; intro e w1 hp; unfold AnyPost at hp; rw [if_pos H0.out] at hp; obtain ⟨vd, vF, v, rows, rfl, hC⟩ := hp; obtain ⟨p1, k1, hv1⟩ := own_slice hC.dt; obtain ⟨p2, k2, hv2⟩ := own_slice hC.fr; subst hv1; subst hv2; have hR := box_moved (box_two w _ _) hC.gr (by simp); have r0 := cell_of_row w1 _ 0 _ _ _ hR; have r1 := cell_of_row w1 _ 1 _ _ _ hR; have r2 := cell_of_row w1 _ 2 _ _ _ hR; have z0 := frozen_of_row w1 _ 0 _ _ hR; have z1 := frozen_of_row w1 _ 1 _ _ hR; have z2 := frozen_of_row w1 _ 2 _ _ hR; have hlR := (Array.getElem?_eq_some_iff.1 hR).1; have HC := Lib.hid hC; have HR := Lib.hid hR; clear hC hR)
    refine bodyPost_ret (v := .tuple #[.agg #[.int .i64 mem, .slice p1 (dataE u).length k1, .slice p2 u.funcs.length k2], .int .i64 0]) ?_ rfl ?_
    · rw [results_cell_tmp rfl]
      go_simp
    · unfold CompileP
      rw [if_pos H0.out]
      exact ⟨_, _, v, rows, rfl, comp_end (o' := .cells #[] 0) (cres_base HC.out (grow_two w _ _)) HR.out⟩
  · have H0 := Lib.hid h0
    clear hU hO h0
    go_enter Try.func11, Try.ntmps11
    go_wp2_with (go_at_call 27; refine (CO.out _ _).mono ?_; intro e w1 hp; unfold AnyPost at hp; rw [if_neg H0.out] at hp; obtain ⟨rfl, hg⟩ := hp; have hR := box_moved (box_two w _ _) hg (by simp); have r0 := cell_of_row w1 _ 0 _ _ _ hR; have r1 := cell_of_row w1 _ 1 _ _ _ hR; have r2 := cell_of_row w1 _ 2 _ _ _ hR; have z0 := frozen_of_row w1 _ 0 _ _ hR; have z1 := frozen_of_row w1 _ 1 _ _ hR; have z2 := frozen_of_row w1 _ 2 _ _ hR; have hlR := (Array.getElem?_eq_some_iff.1 hR).1; have HG := Lib.hid hg; clear hg hR)
    refine bodyPost_ret (v := .tuple #[.agg #[.int .i64 0, .slice none 0 0, .slice none 0 0], .int .i64 (compE u mem)]) ?_ rfl ?_
    · rw [results_cell_tmp rfl]
      go_simp
    · unfold CompileP
      rw [if_neg H0.out]
      refine ⟨rfl, ?_⟩
      have hT : w1.grownBy ((((w1.setCell ⟨w.heap.size + 1, 0, none⟩ (.int .i64 0)).setCell ⟨w.heap.size + 1, 1, none⟩ (.slice none 0 0)).setCell ⟨w.heap.size + 1, 2, none⟩ (.slice none 0 0)).alloc (.cells #[.int .i64 0, .slice none 0 0, .slice none 0 0] 32)) (some (w.heap.size + 1)) :=
        grownBy_trans (grownBy_trans (grownBy_trans (grownBy_set w1 _ 0 _) (grownBy_set _ _ 1 _)) (grownBy_set _ _ 2 _)) (World.grownBy_alloc _ _ _)
      exact grow_new (grownBy_trans (grow_two w _ _) HG.out) hT (by omega)

set_option maxRecDepth 100000 in
set_option maxHeartbeats 4000000 in
theorem orig_any (u : Un) (pt pf : Option Addr) (ct cf B : Nat) (w : World) (hU : UnitAt w B pt pf u) (hO : UnOK w pt ct u) :
    Calls Try.prog 15 #[.agg #[.slice pt u.texts.length ct, .slice pf u.funcs.length cf]] w (OriginP w u) := by
  have CO := Lib.hid (fun o => compile_any u 65536 pt pf ct cf B (w.alloc o) (unitAt_kept hU (World.grownBy_alloc w o none) (by simp)) (unOK_kept hO hU (World.grownBy_alloc w o none)))
  by_cases h0 : compE u 65536 = 0
  · have H0 := Lib.hid h0
    clear hU hO h0
    go_enter Try.func15, Try.ntmps15
    go_wp2_with (go_at_call 27; refine (CO.out _).mono ?_; intro e w1 hp; unfold AnyPost at hp; rw [if_pos H0.out] at hp; obtain ⟨vd, vF, v, rows, rfl, hC⟩ := hp; obtain ⟨p1, k1, hv1⟩ := own_slice hC.dt; obtain ⟨p2, k2, hv2⟩ := own_slice hC.fr; subst hv1; subst hv2; have HC := Lib.hid hC; clear hC)
    refine bodyPost_ret (v := .tuple #[v, .int .i64 0]) ?_ rfl ?_
    · rw [results_tmp2 rfl]
      go_simp
    · unfold OriginP
      rw [if_pos H0.out]
      exact ⟨_, _, v, rows, rfl, cres_alloc (cres_base HC.out (World.grownBy_alloc w _ none)) _⟩
  · have H0 := Lib.hid h0
    clear hU hO h0
    go_enter Try.func15, Try.ntmps15
    go_wp2_with (go_at_call 27; refine (CO.out _).mono ?_; intro e w1 hp; unfold AnyPost at hp; rw [if_neg H0.out] at hp; obtain ⟨rfl, hg⟩ := hp; have HG := Lib.hid hg; clear hg)
    refine bodyPost_ret (v := .tuple #[.slice none 0 0, .int .i64 (compE u 65536)]) ?_ rfl ?_
    · rw [results_tmp2 rfl]
      go_simp
    · unfold OriginP
      rw [if_neg H0.out]
      exact ⟨rfl, grownBy_trans (grownBy_trans (World.grownBy_alloc w _ none) HG.out) (World.grownBy_alloc _ _ none)⟩

end Go.Proofs.Ytecaolkbllbokaa.TG
