/-
  The walk of grown. Conditions: as each theorem states.
-/
import Derived.Test.YtecaolkbllbokaaMB32
namespace Go.Proofs.Ytecaolkbllbokaa.TG
open Go.RowKit Go.Great
set_option linter.unusedSimpArgs false
set_option linter.unusedVariables false

/-- What the programs must be. -/
structure GrOK (N : Nat) (p : Nat → P1) : Prop where
  n : N ≤ 100
  fl : ∀ i, i < N → (p i).fl.length ≤ 1000
  dl : ∀ i, i < N → (p i).dl.length ≤ 1000000
  cc : ∀ i, i < N → ∀ k, k < (p i).fl.length → 0 < ((p i).cc k).length ∧ ((p i).cc k).length ≤ 1000000


structure HoldG (P : Prop) : Prop where
  out : P
theorem st_cells {w : World} {A K N q : Nat} {G : Nat → Value} {p : Nat → P1} (h : GrSt w A K N G p) (hq : q < N) : w.cell? ⟨A, q * 3 + 1, none⟩ = some (p q).D ∧ w.cell? ⟨A, q * 3 + 2, none⟩ = some (p q).F ∧ A < w.heap.size := by
  have hle := h.le
  obtain ⟨g1, g2⟩ := h.g q hq
  exact ⟨by rw [h.row.cell (by omega), g1], by rw [h.row.cell (by omega), g2], h.row.lt⟩
theorem all_far {w wr : World} {A K N q : Nat} {G : Nat → Value} {p : Nat → P1} (h : GrSt w A K N G p) (hq : q < N) (s : Sp (p q).bl w wr) : wr.rowIs A 32 K G := row_sp h.row s (h.nA q hq)
theorem row_cells {w : World} {A K N q : Nat} {G : Nat → Value} {D F : Value} (h : w.rowIs A 32 K G) (hle : N * 3 ≤ K) (hq : q < N) (hD : G (q * 3 + 1) = D) (hF : G (q * 3 + 2) = F) : w.cell? ⟨A, q * 3 + 1, none⟩ = some D ∧ w.cell? ⟨A, q * 3 + 2, none⟩ = some F ∧ A < w.heap.size :=
  ⟨by rw [h.cell (by omega), hD], by rw [h.cell (by omega), hF], h.lt⟩

theorem pr1_cc {w : World} {D F : Value} {dl : List Int} {fl : List FnV} {cc cc' : Nat → List (Int × Int)} (h : Pr1 w D dl F fl cc) (e : ∀ m, cc m = cc' m) : Pr1 w D dl F fl cc' := by
  have : cc = cc' := funext e
  rw [← this]; exact h
theorem code_see {w : World} {D F : Value} {dl : List Int} {fl : List FnV} {cc : Nat → List (Int × Int)} {k g n c : Nat} {a l r : Int} (h : Pr1 w D dl F fl cc) (hk : fl[k]? = some (a, l, r, .slice (some ⟨g, 0, none⟩) n c)) : n = (cc k).length ∧ (∀ j x y, (cc k)[j]? = some (x, y) → w.cell? ⟨g, j * 2, none⟩ = some (.int .i64 x) ∧ w.cell? ⟨g, j * 2 + 1, none⟩ = some (.int .i64 y)) ∧ (∀ j, w.frozen? ⟨g, j, none⟩ = false) := by
  have ho := h.each k _ hk
  obtain ⟨p, c', e⟩ := own_slice ho
  injection e with e1 e2 e3
  refine ⟨e2, fun j x y hj => ?_, own_frozen ho⟩
  have hl := (List.getElem?_eq_some_iff.1 hj).1
  obtain ⟨g', k', e, -, hc⟩ := own_getN ho (by omega)
  simp only [] at e
  injection e with d1 d2 d3
  injection d1 with d1; injection d1 with d1
  subst d1
  obtain ⟨q1, q2⟩ := flat2_get _ _ _ _ hj
  exact ⟨hc _ _ q1 (by omega), hc _ _ q2 (by omega)⟩
theorem pr1_turn {w : World} {D F : Value} {dl : List Int} {fl : List FnV} {cc : Nat → List (Int × Int)} {k g n c j : Nat} {a l r x y : Int} {d : List (Int × Int)} (h : Pr1 w D dl F fl (fun m => if m = k then d else cc m)) (hk : fl[k]? = some (a, l, r, .slice (some ⟨g, 0, none⟩) n c)) : Pr1 ((w.setCell ⟨g, j * 2, none⟩ (.int .i64 x)).setCell ⟨g, j * 2 + 1, none⟩ (.int .i64 y)) D dl F fl (fun m => if m = k then d.set j (x, y) else cc m) := by
  refine pr1_cc (pr1_code (j := j) (x := x) (y := y) h hk) fun m => ?_
  by_cases e : m = k
  · rw [if_pos e, if_pos e, if_pos rfl]
  · rw [if_neg e, if_neg e, if_neg e]
theorem set_marksC {l : List (Int × Int)} {q k j n : Nat} (hl : l.length = n) (hj : j < n) (h : ∀ i, i < j → l[i]? = some (1000 * (q : Int) + (k : Int), (i : Int))) : ∀ i, i < j + 1 → (l.set j (1000 * (q : Int) + (k : Int), (j : Int)))[i]? = some (1000 * (q : Int) + (k : Int), (i : Int)) := fun i hi => by
  rw [List.getElem?_set]
  by_cases e : j = i
  · subst e
    rw [if_pos rfl, if_pos (by omega)]
  · rw [if_neg e]; exact h i (by omega)
theorem set_marksD {l : List Int} {q j n : Nat} (hl : l.length = n) (hj : j < n) (h : ∀ i, i < j → l[i]? = some (byteD q i)) : ∀ i, i < j + 1 → (l.set j (byteD q j))[i]? = some (byteD q i) := fun i hi => by
  rw [List.getElem?_set]
  by_cases e : j = i
  · subst e
    rw [if_pos rfl, if_pos (by omega)]
  · rw [if_neg e]; exact h i (by omega)
theorem cx_slice {w : World} {fl : List FnV} {k s : Nat} {old v : Value} {c : List (Int × Int)} {x : Int × Int} (h : CodeX w fl k s old v (c ++ [x])) : ∃ p n, v = .slice p (c.length + 1) n := by
  obtain ⟨p, n, e⟩ := own_slice h.own
  exact ⟨p, n, by rw [e, List.length_append]; rfl⟩
theorem code_bl {ws w1 : World} {p0 : P1} {i k : Nat} {fl : List FnV} {cc : Nat → List (Int × Int)} {x : FnV} (h : GrIn ws w1 p0 i k fl cc) (hk : fl[k]? = some x) {b : Nat} (hb : x.2.2.2.ownBlock = some b) : p0.bl b := by
  have := (h.rest k (Nat.le_refl _)).1
  rw [hk] at this
  exact Or.inr (Or.inr ⟨x, List.mem_of_getElem? this.symm, hb⟩)

theorem fin_rel {A K N q : Nat} {p : Nat → P1} {w wE : World} {i : Value} (h : ∃ (G'' : Nat → Value) (p'' : Nat → P1), GrSt wE A K N G'' p'' ∧ (∀ m, m < q + 1 → DoneP m (p m) (p'' m)) ∧ (∀ m, q + 1 ≤ m → p'' m = p m) ∧ Sp (AllB A N p) w wE) (hi : i = .int .i64 (q + 1 : Nat)) (hq : q < N) :
    ∃ (q : Nat) (G' : Nat → Value) (p' : Nat → P1), i = .int .i64 q ∧ q ≤ N ∧ GrSt wE A K N G' p' ∧ (∀ m, m < q → DoneP m (p m) (p' m)) ∧ (∀ m, q ≤ m → p' m = p m) ∧ Sp (AllB A N p) w wE := by
  obtain ⟨G'', p'', h1, h2, h3, h4⟩ := h
  exact ⟨q + 1, G'', p'', hi, hq, h1, h2, h3, h4⟩
set_option maxRecDepth 100000 in
set_option maxHeartbeats 16000000 in
theorem grown_progs (A cA K N : Nat) (G : Nat → Value) (p : Nat → P1) (w : World) (hN : 0 < N) (hok : GrOK N p) (h : GrSt w A K N G p) :
    Calls Try.prog 20 #[.slice (some ⟨A, 0, none⟩) N cA] w fun e w' => e = .returned (.bool true) ∧ Sp (AllB A N p) w w' := by
  have H0 := Lib.hid h
  have OK := Lib.hid hok
  have hn := hok.n
  have hni : (N : Int) ≤ 100 := by omega
  obtain ⟨ii, ii0, ii1, ii2, ii3⟩ := info_parts instr_info
  obtain ⟨fi, fi0, fi1, fi2, fi3⟩ := info_parts func_info
  obtain ⟨bi, bi0, bi1, bi2, bi3⟩ := info_parts byte_info2
  clear h hok
  go_enter Try.func20, Try.ntmps20
  go_wp2
  go_loopw [3] (fun i wr => ∃ (q : Nat) (G' : Nat → Value) (p' : Nat → P1), i = .int .i64 q ∧ q ≤ N ∧ GrSt wr A K N G' p' ∧ (∀ m, m < q → DoneP m (p m) (p' m)) ∧ (∀ m, q ≤ m → p' m = p m) ∧ Sp (AllB A N p) w wr) (fun i _ => N - (intOf i).toNat)
  case atStart => exact ⟨0, G, p, rfl, Nat.zero_le _, H0.out, fun m hm => absurd hm (Nat.not_lt_zero _), fun m _ => rfl, sp_refl _ _⟩
  case round =>
    obtain ⟨q, G', p', rfl, hq, hS, hdone, hrest, hsp⟩ := hrel
    have HS := Lib.hid hS
    have HD := Lib.hid hdone
    have HR := Lib.hid hrest
    have HSP := Lib.hid hsp
    by_cases hlt : (q : Int) < (N : Int)
    · have hqN : q < N := by omega
      have hpq := hrest q (Nat.le_refl _)
      have hflq := OK.out.fl q hqN
      have hdlq := OK.out.dl q hqN
      have hcq := OK.out.cc q hqN
      rw [← hpq] at hflq hdlq hcq
      have hfli : ((p' q).fl.length : Int) ≤ 1000 := by omega
      have hdli : ((p' q).dl.length : Int) ≤ 1000000 := by omega
      have HC := Lib.hid hcq
      have HP := Lib.hid hpq
      have hg := hS.g q hqN
      have HG := Lib.hid hg
      have hpr := hS.pr q hqN
      have HPR := Lib.hid hpr
      obtain ⟨pF, cF, eF⟩ := own_slice hpr.fr
      obtain ⟨pD, cD, eD⟩ := own_slice hpr.dt
      have EF := Lib.hid eF
      have ED := Lib.hid eD
      have g0 := Lib.hid (grin_start q hpr)
      have hqi : (q : Int) ≤ 100 := by omega
      clear hS hdone hrest hsp hcq hg hpr eF eD hpq
      go_wp2
      obtain ⟨ws, hws⟩ : ∃ ws, ws = wr := ⟨_, rfl⟩
      subst hws
      go_loopw [4] (fun i wr => ∃ (k : Nat) (fl : List FnV) (cc : Nat → List (Int × Int)), i = .int .i64 k ∧ k ≤ (p' q).fl.length ∧ GrIn ws wr (p' q) q k fl cc) (fun i _ => (p' q).fl.length - (intOf i).toNat)
      case atStart => exact ⟨0, _, _, rfl, Nat.zero_le _, g0.out⟩
      case round =>
        clear g0
        obtain ⟨k, fl, cc, rfl, hk, hI⟩ := hrel
        have HI := Lib.hid hI
        obtain ⟨c1, c2, lA⟩ := row_cells (all_far HS.out hqN hI.sp) HS.out.le hqN HG.out.1 HG.out.2
        rw [EF.out] at c2
        by_cases hlt2 : (k : Int) < ((p' q).fl.length : Int)
        · obtain ⟨⟨a, l, r, old⟩, hkf⟩ : ∃ x, fl[k]? = some x := ⟨_, List.getElem?_eq_getElem (by rw [hI.len]; omega)⟩
          obtain ⟨gF, cF', eF2, hgF, f0, f1, f2, f3, hfz⟩ := pr1_see hI.pr hkf
          have HKF := Lib.hid hkf
          have ho := hI.pr.each k _ hkf
          have hcck := (hI.rest k (Nat.le_refl _)).2
          have hcl := HC.out k (by omega)
          rw [← hcck] at hcl
          have HCC := Lib.hid hcck
          obtain ⟨gC, cC, eC, hgC, hcc⟩ := own_getN ho hcl.1
          simp only [] at eC f3
          subst eC
          rw [EF.out] at eF2
          injection eF2 with eF3 eF4 eF5
          subst eF3; subst eF5
          have hci : ((cc k).length : Int) ≤ 1000000 := by omega
          have HPC := Lib.hid hI.pr
          have HSC := Lib.hid hI.sp
          have HBC := Lib.hid (code_bl hI hkf (b := gC) rfl)
          clear hI hkf ho hcck hcc eF4
          go_wp2
          clear c1 c2 lA f0 f1 f2 f3 hfz hgF hgC
          go_loopw [6] (fun i wr => ∃ (j : Nat) (d : List (Int × Int)), i = .int .i64 j ∧ j ≤ (cc k).length ∧ d.length = (cc k).length ∧ (∀ m, m < j → d[m]? = some (1000 * (q : Int) + (k : Int), (m : Int))) ∧ Pr1 wr (p' q).D (p' q).dl (p' q).F fl (fun m => if m = k then d else cc m) ∧ Sp (p' q).bl ws wr) (fun i _ => (cc k).length - (intOf i).toNat)
          case atStart => exact ⟨0, cc k, rfl, Nat.zero_le _, rfl, fun m hm => absurd hm (Nat.not_lt_zero _), pr1_cc HPC.out fun m => by by_cases e : m = k <;> simp [e], HSC.out⟩
          case round =>
            clear HPC HSC
            obtain ⟨j, d, rfl, hj, hdl, hmk, hP, hsp⟩ := hrel
            have HP2 := Lib.hid hP
            have HM2 := Lib.hid hmk
            have HS2 := Lib.hid hsp
            by_cases hlt3 : (j : Int) < ((cc k).length : Int)
            · obtain ⟨⟨x, y⟩, hxy⟩ : ∃ x, d[j]? = some x := ⟨_, List.getElem?_eq_getElem (by omega)⟩
              obtain ⟨-, hcell, hfz⟩ := code_see hP HKF.out
              obtain ⟨x0, x1⟩ := hcell j x y (by rw [if_pos rfl]; exact hxy)
              have z0 := hfz (j * 2)
              have z1 := hfz (j * 2 + 1)
              have l0 := World.block_lt_of_cell? _ _ x0
              clear hP hmk hsp hcell hfz hxy
              go_wp2
              go_roundw
              case rel => exact ⟨j + 1, d.set j (1000 * (q : Int) + (k : Int), (j : Int)), by go_num, by omega, by rw [List.length_set]; exact hdl, set_marksC hdl (by omega) HM2.out, pr1_turn HP2.out HKF.out, sp_set (sp_set HS2.out HBC.out) HBC.out⟩
              case measure => simp [intOf]; omega
            · have hd := mkC_of hdl fun m hm => hmk m (by omega)
              have hP3 : Pr1 wr (p' q).D (p' q).dl (p' q).F fl (fun m => if m = k then mkC q k (cc k).length else cc m) := by rw [← hd]; exact hP
              have HP3 := Lib.hid hP3
              have OWN := Lib.hid (show wr.ownsRow 0 75 2 (.slice (some ⟨gC, 0, none⟩) (cc k).length cC) (cc k).length (flat2 (mkC q k (cc k).length)) from by have := hP3.each k _ HKF.out; rw [if_pos rfl, mkC_len] at this; exact this)
              have hc3 : (cc k).length + 1 ≤ maxLen := by unfold maxLen; omega
              have hc4 : ((cc k).length + 1) * 16 ≤ 140737488355328 := by omega
              have hki : (k : Int) ≤ 1000 := by omega
              clear hP hmk hsp hd hP3
              go_wp2_with (at_builtin; refine wpList_append_keep rfl _ _ 71 rfl 0 75 ii (.agg #[.int .i64 0, .int .i64 0]) 2 16 instr_und ii0 ii1 ii2 ii3 rfl (by decide) (.slice (some ⟨gC, 0, none⟩) (cc k).length cC) _ _ rfl (OWN.out.alloc _) ⟨wr.heap.size, 0, none⟩ 1 1 [.int .i64 _, .int .i64 _] rfl rfl (two_new wr _ _ _) (two_cell _ _ _) hc3 hc4 (by decide) 0 (Nat.zero_le _) (Nat.le_refl _) ?_; intro v9 w9 hr9; have R9 := pr1_app (s := ws.heap.size) HP3.out HKF.out HS2.out.size (by rw [if_pos rfl, mkC_len]; exact hr9); obtain ⟨pr9, cx9, g9⟩ := R9; rw [if_pos rfl] at cx9; have PR9 := Lib.hid pr9; have CX9 := Lib.hid cx9; have SP9 := Lib.hid (sp_trans (sp_trans HS2.out (sp_grown (P := (p' q).bl) (World.grownBy_alloc wr _ none) (by simp)) (fun _ _ h => h)) (sp_grown (P := (p' q).bl) g9 fun b _ e => by injection e with e; subst e; exact HBC.out) (fun _ _ h => h)); have RC := row_cells (all_far HS.out hqN SP9.out) HS.out.le hqN HG.out.1 HG.out.2; obtain ⟨c1, c2, lA⟩ := RC; rw [EF.out] at c2; have SEE := pr1_see pr9 HKF.out; obtain ⟨gF2, cF2, eF2, hgF, f0, f1, f2, f3, hfz⟩ := SEE; rw [EF.out] at eF2; injection eF2 with d1 d2 d3; injection d1 with d1; injection d1 with d1; subst d1; have z0 := hfz (k * 4); have z1 := hfz (k * 4 + 1); have z2 := hfz (k * 4 + 2); have z3 := hfz (k * 4 + 3); have SL := cx_slice cx9; obtain ⟨p9, c9, e9⟩ := SL; subst e9; clear hr9 pr9 cx9 g9 hfz d2 d3)
              go_roundw
              case rel => exact ⟨k + 1, _, _, by go_num, by omega, grin_next HI.out (by omega) PR9.out (fun m hm => if_neg hm) SP9.out HKF.out EF.out (by rw [← HCC.out]; exact CX9.out)⟩
              case measure => simp [intOf]; omega
        · have hke : k = (p' q).fl.length := by omega
          subst hke
          have HPC := Lib.hid hI.pr
          have HSC := Lib.hid hI.sp
          rw [ED.out] at c1
          clear hI
          go_wp2
          clear c1 c2 lA
          go_loopw [8] (fun i wr => ∃ (j : Nat) (d : List Int), i = .int .i64 j ∧ j ≤ (p' q).dl.length ∧ d.length = (p' q).dl.length ∧ (∀ m, m < j → d[m]? = some (byteD q m)) ∧ Pr1 wr (p' q).D d (p' q).F fl cc ∧ Sp (p' q).bl ws wr) (fun i _ => (p' q).dl.length - (intOf i).toNat)
          case atStart => exact ⟨0, (p' q).dl, rfl, Nat.zero_le _, rfl, fun m hm => absurd hm (Nat.not_lt_zero _), HPC.out, HSC.out⟩
          case round =>
            clear HPC HSC
            obtain ⟨j, d, rfl, hj, hdl, hmk, hP, hsp⟩ := hrel
            have HP2 := Lib.hid hP
            have HM2 := Lib.hid hmk
            have HS2 := Lib.hid hsp
            obtain ⟨c1, c2, lA⟩ := row_cells (all_far HS.out hqN hsp) HS.out.le hqN HG.out.1 HG.out.2
            rw [ED.out] at c1
            rw [EF.out] at c2
            by_cases hlt3 : (j : Int) < ((p' q).dl.length : Int)
            · obtain ⟨gD, kD, eD, lD, cD2⟩ := own_get hP.dt (by omega)
              rw [ED.out] at eD
              injection eD with d1 d2 d3
              subst d1
              have hdt := hP.dt
              rw [ED.out] at hdt
              have z0 := own_frozen hdt j
              obtain ⟨y, hy⟩ : ∃ y, d[j]? = some y := ⟨_, List.getElem?_eq_getElem (by omega)⟩
              have x0 := cD2 j (.int .u8 y) (by rw [List.getElem?_map, hy]; rfl) (by omega)
              have HBD := Lib.hid (show (p' q).bl gD from Or.inl (by rw [ED.out]; rfl))
              clear hP hmk hsp cD2 hdt d2 d3 hy
              go_wp2
              go_roundw
              case rel => exact ⟨j + 1, d.set j (byteD q j), by go_num, by omega, by rw [List.length_set]; exact hdl, set_marksD hdl (by omega) HM2.out, pr1_data HP2.out ED.out, sp_set HS2.out HBD.out⟩
              case measure => simp [intOf]; omega
            · have hd := mkD_of hdl fun m hm => hmk m (by omega)
              subst hd
              rw [mkD_len] at hdl
              have OF := Lib.hid (show wr.ownsRow 0 73 4 (.slice pF (p' q).fl.length cF) fl.length (flatF fl) from by rw [← EF.out]; exact hP.fr)
              have hfl := HI.out.len
              have hc3 : fl.length + 1 ≤ maxLen := by unfold maxLen; omega
              have hc4 : (fl.length + 1) * 48 ≤ 140737488355328 := by omega
              clear hP hmk hsp hfl
              have hc5 : (mkD q (p' q).dl.length).length + 1 ≤ maxLen := by rw [mkD_len]; unfold maxLen; omega
              have hc6 : ((mkD q (p' q).dl.length).length + 1) * 1 ≤ 140737488355328 := by rw [mkD_len]; omega
              go_wp2_with (at_builtin; first | (refine wpList_append_own_at _ rfl _ _ 30 rfl 0 73 fi (.agg #[.int .i64 0, .int .i64 0, .int .i64 0, .slice none 0 0]) 4 48 func_und fi0 fi1 fi2 fi3 rfl (by decide) (.slice pF (p' q).fl.length cF) _ _ rfl (OF.out.alloc _) ⟨wr.heap.size, 0, none⟩ 1 1 [.int .i64 _, .int .i64 0, .int .i64 0, .slice none 0 0] rfl rfl (four_new wr _ _ _ _ _) (four_cell _ _ _ _ _ _) hc3 hc4 (Nat.zero_le _) ?_; intro v8 w8 hown8 hgr8 hnil8 hat8; obtain ⟨p8, k8, hv8⟩ := own_slice hown8; subst hv8; have FF := fin_f HS.out hqN HI.out HP2.out HS2.out hown8 (by rw [EF.out]; exact hgr8) (by rw [EF.out]; exact hat8); obtain ⟨ff1, ff2, ff3, ff4, ff5⟩ := FF; have FP := Lib.hid ff1; have FS := Lib.hid ff2; have FR := Lib.hid ff3; have FL := Lib.hid ff4; have hle := HS.out.le; have od1 := ff1.dt; rw [ED.out] at od1; have OD := Lib.hid od1; have c9 := ff5.cell (i := q * 3 + 1) (by omega); rw [HG.out.1, ED.out] at c9; have c8 := ff5.cell (i := q * 3 + 2) (by omega); rw [HG.out.2, EF.out] at c8; have z9 := ff5.frozen (q * 3 + 2); have l8 := ff5.lt; clear hown8 hgr8 hnil8 hat8 ff1 ff2 ff3 ff4 ff5 od1) | (refine wpList_append_own_at _ rfl _ _ 29 rfl 0 5 bi (.int .u8 0) 1 1 byte_und bi0 bi1 bi2 bi3 rfl (by decide) (.slice pD (p' q).dl.length cD) _ _ rfl (OD.out.alloc _) ⟨w8.heap.size, 0, none⟩ 1 1 [.int .u8 (q : Int)] rfl rfl (one_set w8 A (q * 3 + 2) _ _ _) (one_cell _ _) hc5 hc6 (Nat.zero_le _) ?_; intro v9 w9 hown9 hgr9 hnil9 hat9; obtain ⟨p9, k9, hv9⟩ := own_slice hown9; subst hv9; have F2 := fin_d HS.out hqN FP.out FS.out FR.out FL.out hown9 (by rw [ED.out]; exact hgr9) (by rw [ED.out]; exact hat9); obtain ⟨gg1, gg2, gg3, gg4, gg5⟩ := F2; have GP := Lib.hid gg1; have GS := Lib.hid gg2; have GR := Lib.hid gg3; have GL := Lib.hid gg4; have c10 := gg5.cell (i := q * 3 + 1) (by omega); have z10 := gg5.frozen (q * 3 + 1); have l10 := gg5.lt; clear hown9 hgr9 hnil9 hat9 gg1 gg2 gg3 gg4 gg5))
              go_roundw
              case rel => exact fin_rel (grown_turn HS.out hqN HD.out HR.out HSP.out HI.out GP.out GS.out GR.out GL.out) (by go_num) hqN
              case measure => simp [intOf]; omega
    · have hqe : N = q := by omega
      subst hqe
      clear hS hdone hrest hsp H0 HR
      go_wp2
      obtain ⟨w3, hw3⟩ : ∃ w3, w3 = wr := ⟨_, rfl⟩
      subst hw3
      go_loopw [9] (fun i wr => ∃ q : Nat, i = .int .i64 q ∧ q ≤ N ∧ w3.grownBy wr none) (fun i _ => N - (intOf i).toNat)
      case atStart => exact ⟨0, rfl, Nat.zero_le _, grownBy_refl _ _⟩
      case round =>
        obtain ⟨q, rfl, hq2, hg⟩ := hrel
        have HG := Lib.hid hg
        by_cases hlt2 : (q : Int) < (N : Int)
        · have hqN : q < N := by omega
          obtain ⟨gF, cF, gD, cD, eF, eD, hd, hdl, hf, hfl⟩ := done_see (HS.out.pr q hqN) (HD.out q hqN)
          obtain ⟨b1, b2, lA⟩ := st_cells HS.out hqN
          rw [eD] at b1
          rw [eF] at b2
          have hflq := OK.out.fl q hqN
          have hdlq := OK.out.dl q hqN
          have hfli : ((p q).fl.length : Int) ≤ 1000 := by omega
          have hdli : ((p q).dl.length : Int) ≤ 1000000 := by omega
          have HCC := Lib.hid (OK.out.cc q hqN)
          have HDD := Lib.hid hd
          have HFF := Lib.hid hf
          have B1 := Lib.hid b1
          have B2 := Lib.hid b2
          have c1 := hg.cell b1 (by simp)
          have c2 := hg.cell b2 (by simp)
          have x1 := hg.cell hdl (by simp)
          have x2 := hg.cell hfl (by simp)
          have l1 := World.block_lt_of_cell? _ _ c1
          have l2 := World.block_lt_of_cell? _ _ x1
          have l3 := World.block_lt_of_cell? _ _ x2
          have hqi : (q : Int) ≤ 100 := by omega
          clear hg hd hf eF eD b1 b2 lA hdl hfl
          go_wp2
          clear c1 c2 x1 x2 l1 l2 l3
          obtain ⟨w4, hw4⟩ : ∃ w4, w4 = wr := ⟨_, rfl⟩
          subst hw4
          go_loopw [12] (fun k wr => ∃ j : Nat, k = .int .i64 j ∧ j ≤ (p q).dl.length ∧ w3.grownBy wr none) (fun k _ => (p q).dl.length - (intOf k).toNat)
          case atStart => exact ⟨0, rfl, Nat.zero_le _, HG.out⟩
          case round =>
            clear HG
            obtain ⟨j, rfl, hj, hg⟩ := hrel
            have HG := Lib.hid hg
            by_cases hlt3 : (j : Int) < ((p q).dl.length : Int)
            · have x1 := hg.cell (HDD.out j (by omega)) (by simp)
              unfold byteD at x1
              have l1 := World.block_lt_of_cell? _ _ x1
              clear hg
              go_wp2
              go_roundw
              case rel => exact ⟨j + 1, by go_num, by omega, HG.out⟩
              case measure => simp [intOf]; omega
            · clear hg
              go_wp2
              obtain ⟨w5, hw5⟩ : ∃ w5, w5 = wr := ⟨_, rfl⟩
              subst hw5
              go_loopw [13] (fun k wr => ∃ j : Nat, k = .int .i64 j ∧ j ≤ (p q).fl.length ∧ w3.grownBy wr none) (fun k _ => (p q).fl.length - (intOf k).toNat)
              case atStart => exact ⟨0, rfl, Nat.zero_le _, HG.out⟩
              case round =>
                clear HG
                obtain ⟨k, rfl, hk, hg⟩ := hrel
                have HG := Lib.hid hg
                by_cases hlt4 : (k : Int) < ((p q).fl.length : Int)
                · obtain ⟨gC, cC, a1, a2, a3, a4⟩ := HFF.out k (by omega)
                  have hcl := HCC.out k (by omega)
                  have hci : (((p q).cc k).length : Int) ≤ 1000000 := by omega
                  have A1 := Lib.hid a1
                  have A2 := Lib.hid a2
                  have A3 := Lib.hid a3
                  have A4 := Lib.hid a4
                  have c2 := hg.cell B2.out (by simp)
                  have x1 := hg.cell a2 (by simp)
                  have l1 := World.block_lt_of_cell? _ _ c2
                  have l2 := World.block_lt_of_cell? _ _ x1
                  have hki : (k : Int) ≤ 1000 := by omega
                  clear hg a1 a2 a3 a4
                  go_wp2
                  clear c2 x1 l1 l2
                  obtain ⟨w6, hw6⟩ : ∃ w6, w6 = wr := ⟨_, rfl⟩
                  subst hw6
                  go_loopw [15] (fun i wr => ∃ j : Nat, i = .int .i64 j ∧ j ≤ ((p q).cc k).length ∧ w3.grownBy wr none) (fun i _ => ((p q).cc k).length - (intOf i).toNat)
                  case atStart => exact ⟨0, rfl, Nat.zero_le _, HG.out⟩
                  case round =>
                    clear HG
                    obtain ⟨j, rfl, hj2, hg⟩ := hrel
                    have HG := Lib.hid hg
                    by_cases hlt5 : (j : Int) < (((p q).cc k).length : Int)
                    · obtain ⟨y1, y2⟩ := A3.out j (by omega)
                      have x1 := hg.cell y1 (by simp)
                      have x2 := hg.cell y2 (by simp)
                      have l1 := World.block_lt_of_cell? _ _ x1
                      clear hg y1 y2
                      go_wp2
                      go_roundw
                      case rel => exact ⟨j + 1, by go_num, by omega, HG.out⟩
                      case measure => simp [intOf]; omega
                    · have c2 := hg.cell B2.out (by simp)
                      have x1 := hg.cell A1.out (by simp)
                      have x2 := hg.cell A4.out (by simp)
                      have l1 := World.block_lt_of_cell? _ _ c2
                      have l2 := World.block_lt_of_cell? _ _ x1
                      have l3 := World.block_lt_of_cell? _ _ x2
                      clear hg
                      go_wp2
                      go_roundw
                      case rel => exact ⟨k + 1, by go_num, by omega, HG.out⟩
                      case measure => simp [intOf]; omega
                · clear hg
                  go_wp2
                  go_roundw
                  case rel => exact ⟨q + 1, by go_num, by omega, HG.out⟩
                  case measure => simp [intOf]; omega
        · clear hg
          go_wp2
          go_ret
          exact ⟨rfl, sp_trans HSP.out (sp_grown (P := AllB A N p) HG.out (by simp)) (fun _ _ h => h)⟩

end Go.Proofs.Ytecaolkbllbokaa.TG
