/-
  Walk of the reference checker's part: its kids. Conditions: as each theorem states.
-/
import Derived.Test.YtecaolkbllbokaaMB25
namespace Go.Proofs.Ytecaolkbllbokaa.TG
open Go.RowKit Go.Great
set_option linter.unusedSimpArgs false
set_option linter.unusedVariables false

theorem kid_range (k i : Int) : kidE k i = 0 ∨ kidE k i = 1 ∨ kidE k i = 2 := by
  unfold kidE; split
  · exact Or.inr (Or.inl rfl)
  · split
    · exact Or.inl rfl
    · exact Or.inr (Or.inr rfl)

theorem rl_start {x : Rx} {g : Nat} {w w4 : World} {B : Nat} {k n kc : Int} {s : St} (R4 : RAt x w4 s.a 0 s.m) (G4 : w.grownBy w4 none) (CP4 : CopyW w4 B k n kc) (hB : x.Bc ≠ B) (ha : s.a < x.ps.length) (v : Int) (hv : v = ((s.a + 1 : Nat) : Int)) :
    RL x g w B k n kc s (w4.setCell ⟨x.Bc, 6, none⟩ (.int .i64 v)) 0 0 (s.a + 1) 0 s.m := by
  have gs := grownBy_set w4 x.Bc 6 (.int .i64 v)
  refine ⟨rat_row R4 gs (ck_set6 (x := x) R4.box v (s.a + 1) hv), copy_kept CP4 gs (by simpa using hB), grownBy_trans (grow_w G4) gs, Nat.zero_le _, Nat.zero_le _, Int.le_refl _, by omega, Or.inl ⟨rfl, [], ⟨s.a + 1, s.l, s.m⟩, rfl, rfl, rfl, rfl, rfl, fun j hj => absurd hj (by simp), ha, by omega, rfl⟩⟩

set_option maxRecDepth 100000 in
set_option maxHeartbeats 40000000 in
theorem rpart_main (x : Rx) (g : Nat) (hg : g ≤ 64) (hI : RCon x g) (what deep : Int) (hd : deep = 64 - (g : Int)) (hw : what = 0 ∨ what = 1 ∨ what = 2) (s : St) (k n kc : Int) (w : World) (hp : x.ps[s.a]? = some (k, n, kc)) (hst : standsB k what = true) (hn : numE x.nl x.nt x.fs.length s.l k n = 0) (hkd : kidsE (x.fs.getD n.toNat 0) k n kc = 0)
    (hnf : x.fs.length ≤ 1000000) (hnp : x.ps.length ≤ 17592186044415) (hl0 : 0 ≤ s.l) (hl1 : s.l + (g : Int) + 1 ≤ 1000) (h : RAt x w s.a 0 s.m) :
    Calls Try.prog 80 #[.pointer (some ⟨x.Bc, 0, none⟩), .int .i64 (what + 1), .int .i64 deep, .int .i64 s.l] w (RPost x (g + 1) w (x.pe (g + 1) what s)) := by
  obtain ⟨hk, hal⟩ := alone_parts (nl := x.nl) (nt := x.nt) (fs := x.fs) (loops := s.l) (n := n) (kc := kc) hst
  rw [if_neg (by omega)] at hal
  have HP := Lib.hid hp
  (
    have hja := (List.getElem?_eq_some_iff.1 hp).1
    obtain ⟨bp, op, hpp, hbp, hpc⟩ := h.pa (by omega)
    obtain ⟨p0, p1, p2⟩ := hpc _ _ _ _ hp
    have c5 := cell_of_row w x.Bc 5 _ _ _ h.box
    have c6 := cell_of_row w x.Bc 6 _ _ _ h.box
    have c7 := cell_of_row w x.Bc 7 _ _ _ h.box
    rw [hpp] at c5
    have lt := (Array.getElem?_eq_some_iff.1 h.box).1
    have lb : bp < w.heap.size := by omega
    have HH := Lib.hid h
    have i1 : (s.a : Int) < ((x.ps.length : Nat) : Int) := by omega
    clear h hpc)
  have SS := Lib.hid (fun w' => rstands_any k what hw w')
  rw [hst] at SS
  have NN := Lib.hid (fun w' (hc : RAt x w' s.a 0 s.m) => rnumber_any k n kc s.l hk x.Bc x.nt x.fs.length x.nl x.ct x.cf x.cl s.a x.pt x.pf x.pl x.nm x.ar 0 s.m (.slice x.pp x.ps.length x.cp) w' hc.box)
  have KK := Lib.hid (fun w' (hc : RAt x w' s.a 0 s.m) => rkids_any k n kc (x.fs.getD n.toNat 0) hk x.Bc x.fs.length x.cf s.a (.slice x.pt x.nt x.ct) x.pf x.nm x.ar 0 s.m (.slice x.pl x.nl x.cl) (.slice x.pp x.ps.length x.cp) w' hc.box (fun_args hc hnf hn).1 (fun_args hc hnf hn).2)
  rw [hn] at NN
  rw [hkd] at KK
  rw [hkd] at hal
  have HAL := Lib.hid hal
  have HI := Lib.hid hI
  have dp1 : ¬ 64 < deep := by omega
  have dp2 : 0 ≤ deep := by omega
  have dp3 : deep ≤ 64 := by omega
  have HD := Lib.hid hd
  clear hd
  clear hp hst hn hal hkd hI
  go_enter Try.func80, Try.ntmps80
  go_wp2
  go_quiet (fail)
  go_wp2
  (
    have G1 := Lib.hid (show w.grownBy (w.drewN nq) none from grownBy_drewN w nq none)
    replace c5 : (w.drewN nq).cell? ⟨x.Bc, 5, none⟩ = some (.slice (some ⟨bp, op, none⟩) x.ps.length x.cp) := c5
    replace c6 : (w.drewN nq).cell? ⟨x.Bc, 6, none⟩ = some (.int .i64 s.a) := c6
    replace p0 : (w.drewN nq).cell? ⟨bp, op + s.a * 3, none⟩ = some (.int .i64 k) := p0
    replace p1 : (w.drewN nq).cell? ⟨bp, op + s.a * 3 + 1, none⟩ = some (.int .i64 n) := p1
    replace p2 : (w.drewN nq).cell? ⟨bp, op + s.a * 3 + 2, none⟩ = some (.int .i64 kc) := p2
    replace lt : x.Bc < (w.drewN nq).heap.size := lt
    replace lb : bp < (w.drewN nq).heap.size := lb
    generalize w.drewN nq = W at *
    go_region
    have CP := Lib.hid (grown_copy W k n kc)
    have G2 := Lib.hid (show w.grownBy ((W.alloc (.cells #[.int .i64 k, .int .i64 n, .int .i64 kc] 108)).drew) none from grownBy_trans G1.out (grownBy_drew (World.grownBy_alloc W _ none)))
    have R2 := Lib.hid (rat_kept HH.out G2.out)
    have x0 := copy_0 CP.out
    have x1 := copy_1 CP.out
    have x2 := copy_2 CP.out
    have lW := copy_lt CP.out
    have hWB : x.Bc < W.heap.size := lt
    clear p0 p1 p2 c5 c6 c7 lt lb
    generalize (W.alloc (.cells #[.int .i64 k, .int .i64 n, .int .i64 kc] 108)).drew = W2 at *
    generalize W.heap.size = B at *)
  have hB : x.Bc ≠ B := by omega
  go_wp2_with (first
    | (go_at_call 103; refine (SS.out _).mono ?_; rintro e w1 ⟨rfl, rfl⟩)
    | (go_at_call 104; refine (NN.out _ R2.out).mono ?_; rintro e w3 ⟨rfl, hg3⟩; have G3 := Lib.hid (grownBy_trans G2.out hg3); have R3 := Lib.hid (rat_kept R2.out hg3); have CP3 := Lib.hid (copy_kept CP.out hg3 (by simp)); have y0 := copy_0 CP3.out; have y1 := copy_1 CP3.out; have y2 := copy_2 CP3.out; have lW3 := copy_lt CP3.out; clear hg3)
    | (go_at_call 105; refine (KK.out _ R3.out).mono ?_; rintro e w4 ⟨rfl, hg4⟩; have G4 := Lib.hid (grownBy_trans G3.out hg4); have R4 := Lib.hid (rat_kept R3.out hg4); have CP4 := Lib.hid (copy_kept CP3.out hg4 (by simp)); have b6 := cell_of_row w4 x.Bc 6 _ _ _ R4.out.box; have z6 := frozen_of_row w4 x.Bc 6 _ _ R4.out.box; have lt4 := (Array.getElem?_eq_some_iff.1 R4.out.box).1; clear hg4))
  have K0 := Lib.hid (rl_start (g := g) R4.out G4.out CP4.out hB hja ((s.a : Int) + 1) (by push_cast; rfl))
  clear SS NN KK x0 x1 x2 y0 y1 y2 b6 z6 lt4 lW lW3
  generalize w4.setCell ⟨x.Bc, 6, none⟩ (.int .i64 ((s.a : Int) + 1)) = w5 at *
  go_loopw [11, 12] (fun v i wr => ∃ (q : Nat) (vv : Int) (a : Nat) (c m : Int), i = .int .i64 q ∧ v = .int .i64 vv ∧ RL x g w B k n kc s wr q vv a c m) (fun _ i _ => kc.toNat - (intOf i).toNat)
  case atStart => exact ⟨0, 0, s.a + 1, 0, s.m, rfl, rfl, K0.out⟩
  case round =>
    obtain ⟨q, vv, a, c, m, rfl, rfl, hL⟩ := hrel
    have LL := Lib.hid hL
    have x0 := copy_0 hL.copy
    have x2 := copy_2 hL.copy
    have lW := copy_lt hL.copy
    have c7 := cell_of_row wr x.Bc 7 _ _ _ hL.at_.box
    have c8 := cell_of_row wr x.Bc 8 _ _ _ hL.at_.box
    have z8 := frozen_of_row wr x.Bc 8 _ _ hL.at_.box
    have lt := (Array.getElem?_eq_some_iff.1 hL.at_.box).1
    have hqn := hL.hn
    have v0 := hL.v0
    have v1 := hL.v1
    by_cases hx : (q : Int) < kc ∧ c = 0
    · obtain ⟨hlt, rfl⟩ := hx
      have hap : a ≤ x.ps.length := by
        rcases hL.st with ⟨-, ws, t, -, -, -, -, -, -, h1, -, -⟩ | ⟨h0, -⟩
        · exact h1
        · exact absurd rfl h0
      clear hL
      have hta : (stepIn k q ⟨a, s.l, m⟩).a ≤ x.ps.length := by rw [stepIn_a]; exact hap
      have htl := stepIn_l k q ⟨a, s.l, m⟩
      simp only at htl
      have I1 := Lib.hid (HI.out (kidE k q) (deep + 1) (stepIn k q ⟨a, s.l, m⟩) wr (by have := HD.out; omega) (kid_range k q) hta (by omega) (by omega) (by rw [stepIn_a, stepIn_m]; exact LL.out.at_))
      have KD := Lib.hid (fun w' => rkid_any k q w')
      have hqi : (q : Int) ≤ 17592186044415 := by omega
      by_cases hA : k = 6 ∧ (q : Int) = 1
      · have f6 : (k == 6) = true := by simpa using hA.1
        have f1 : ((q : Int) == 1) = true := by simpa using hA.2
        have hk0 : kidE k q = 0 := by unfold kidE; rw [if_neg (by omega), if_pos (by omega)]
        have hsl : (stepIn k q ⟨a, s.l, m⟩).l = s.l + 1 := by unfold stepIn; rw [if_pos (by omega)]
        have hwn := Lib.hid (fun r => show wantN k q vv r = vv by unfold wantN; rw [if_pos (by omega)])
        rw [hsl, hk0, show (0 : Int) + 1 = 1 from rfl] at I1
        rw [hk0, show (0 : Int) + 1 = 1 from rfl] at KD
        have hk0' := Lib.hid hk0
        clear hk0 hA htl hsl
        (
          go_wp2_with (first
            | (go_at_call 106; refine (KD.out _).mono ?_; rintro e w1 ⟨rfl, rfl⟩)
            | (go_at_call 80; refine I1.out.mono ?_; clear I1; intro e w6 hq; have OP := rpost_open LL.out.at_ hq hnp hta; obtain ⟨r, a', c', m', rfl, hr6, gr6, r0, r1, hc6, hs6⟩ := OP; have CP6 := copy_kept LL.out.copy gr6 (by simpa using hB); have x0 := copy_0 CP6; have x2 := copy_2 CP6; have lW6 := copy_lt CP6; have HR6 := Lib.hid hr6; have GR6 := Lib.hid gr6; have HC6 := Lib.hid hc6; have HS6 := Lib.hid hs6; clear hr6 gr6 hc6 hs6 CP6)
            | (go_at_call 107; refine (rgreater_any _ _ _).mono ?_; rintro e w1 ⟨rfl, rfl⟩)))
        go_roundw
        case rel => exact ⟨q + 1, wantN k q vv r, a', c', m', by go_num, congrArg (Value.int .i64) (hwn.out r).symm, rl_step LL.out hlt hB hnp _ rfl HR6.out GR6.out r0 r1 (by rw [hk0'.out]; exact HC6.out) (by rw [hk0'.out]; exact HS6.out) _ (grownBy_refl _ none)⟩
        case measure => simp [intOf]; omega
      · have hsl : (stepIn k q ⟨a, s.l, m⟩).l = s.l := by unfold stepIn; rw [if_neg (by omega)]
        rw [hsl] at I1
        have f61 : (k == 6) = false ∨ ((k == 6) = true ∧ ((q : Int) == 1) = false) := by
          by_cases h6 : k = 6
          · right; exact ⟨by simpa using h6, beq_eq_false_iff_ne.2 fun e => hA ⟨h6, e⟩⟩
          · left; exact beq_eq_false_iff_ne.2 h6
        clear hA htl hsl
        rcases f61 with f6 | ⟨f6, f1⟩
        · rcases kid_range k q with hk0 | hk0 | hk0
          · have hwn := Lib.hid (fun r => show wantN k q vv r = vv by unfold wantN; rw [if_pos (by omega)])
            rw [hk0, show (0 : Int) + 1 = 1 from rfl] at I1
            rw [hk0, show (0 : Int) + 1 = 1 from rfl] at KD
            have hk0' := Lib.hid hk0
            clear hk0
            (
              go_wp2_with (first
                | (go_at_call 106; refine (KD.out _).mono ?_; rintro e w1 ⟨rfl, rfl⟩)
                | (go_at_call 80; refine I1.out.mono ?_; clear I1; intro e w6 hq; have OP := rpost_open LL.out.at_ hq hnp hta; obtain ⟨r, a', c', m', rfl, hr6, gr6, r0, r1, hc6, hs6⟩ := OP; have CP6 := copy_kept LL.out.copy gr6 (by simpa using hB); have x0 := copy_0 CP6; have x2 := copy_2 CP6; have lW6 := copy_lt CP6; have HR6 := Lib.hid hr6; have GR6 := Lib.hid gr6; have HC6 := Lib.hid hc6; have HS6 := Lib.hid hs6; clear hr6 gr6 hc6 hs6 CP6)
                | (go_at_call 107; refine (rgreater_any _ _ _).mono ?_; rintro e w1 ⟨rfl, rfl⟩)))
            go_roundw
            case rel => exact ⟨q + 1, wantN k q vv r, a', c', m', by go_num, congrArg (Value.int .i64) (hwn.out r).symm, rl_step LL.out hlt hB hnp _ rfl HR6.out GR6.out r0 r1 (by rw [hk0'.out]; exact HC6.out) (by rw [hk0'.out]; exact HS6.out) _ (grownBy_refl _ none)⟩
            case measure => simp [intOf]; omega
          · have hwn := Lib.hid (fun r => show wantN k q vv r = vv by unfold wantN; rw [if_pos (by omega)])
            rw [hk0, show (1 : Int) + 1 = 2 from rfl] at I1
            rw [hk0, show (1 : Int) + 1 = 2 from rfl] at KD
            have hk0' := Lib.hid hk0
            clear hk0
            (
              go_wp2_with (first
                | (go_at_call 106; refine (KD.out _).mono ?_; rintro e w1 ⟨rfl, rfl⟩)
                | (go_at_call 80; refine I1.out.mono ?_; clear I1; intro e w6 hq; have OP := rpost_open LL.out.at_ hq hnp hta; obtain ⟨r, a', c', m', rfl, hr6, gr6, r0, r1, hc6, hs6⟩ := OP; have CP6 := copy_kept LL.out.copy gr6 (by simpa using hB); have x0 := copy_0 CP6; have x2 := copy_2 CP6; have lW6 := copy_lt CP6; have HR6 := Lib.hid hr6; have GR6 := Lib.hid gr6; have HC6 := Lib.hid hc6; have HS6 := Lib.hid hs6; clear hr6 gr6 hc6 hs6 CP6)
                | (go_at_call 107; refine (rgreater_any _ _ _).mono ?_; rintro e w1 ⟨rfl, rfl⟩)))
            go_roundw
            case rel => exact ⟨q + 1, wantN k q vv r, a', c', m', by go_num, congrArg (Value.int .i64) (hwn.out r).symm, rl_step LL.out hlt hB hnp _ rfl HR6.out GR6.out r0 r1 (by rw [hk0'.out]; exact HC6.out) (by rw [hk0'.out]; exact HS6.out) _ (grownBy_refl _ none)⟩
            case measure => simp [intOf]; omega
          · rw [hk0, show (2 : Int) + 1 = 3 from rfl] at I1
            rw [hk0, show (2 : Int) + 1 = 3 from rfl] at KD
            by_cases h23 : k = 23
            · have hwn := Lib.hid (fun r => show wantN k q vv r = max vv r by unfold wantN; rw [if_neg (by omega), if_pos (Or.inl h23)])
              have g23 : (k == 23) = true := by simpa using h23
              have hk0' := Lib.hid hk0
              clear hk0 h23
              (
                go_wp2_with (first
                  | (go_at_call 106; refine (KD.out _).mono ?_; rintro e w1 ⟨rfl, rfl⟩)
                  | (go_at_call 80; refine I1.out.mono ?_; clear I1; intro e w6 hq; have OP := rpost_open LL.out.at_ hq hnp hta; obtain ⟨r, a', c', m', rfl, hr6, gr6, r0, r1, hc6, hs6⟩ := OP; have CP6 := copy_kept LL.out.copy gr6 (by simpa using hB); have x0 := copy_0 CP6; have x2 := copy_2 CP6; have lW6 := copy_lt CP6; have HR6 := Lib.hid hr6; have GR6 := Lib.hid gr6; have HC6 := Lib.hid hc6; have HS6 := Lib.hid hs6; clear hr6 gr6 hc6 hs6 CP6)
                  | (go_at_call 107; refine (rgreater_any _ _ _).mono ?_; rintro e w1 ⟨rfl, rfl⟩)))
              go_roundw
              case rel => exact ⟨q + 1, wantN k q vv r, a', c', m', by go_num, congrArg (Value.int .i64) (hwn.out r).symm, rl_step LL.out hlt hB hnp _ rfl HR6.out GR6.out r0 r1 (by rw [hk0'.out]; exact HC6.out) (by rw [hk0'.out]; exact HS6.out) _ (grownBy_refl _ none)⟩
              case measure => simp [intOf]; omega
            by_cases h24 : k = 24
            · have hwn := Lib.hid (fun r => show wantN k q vv r = max vv r by unfold wantN; rw [if_neg (by omega), if_pos (Or.inr h24)])
              have g23 : (k == 23) = false := beq_eq_false_iff_ne.2 h23
              have g24 : (k == 24) = true := by simpa using h24
              have hk0' := Lib.hid hk0
              clear hk0 h23 h24
              (
                go_wp2_with (first
                  | (go_at_call 106; refine (KD.out _).mono ?_; rintro e w1 ⟨rfl, rfl⟩)
                  | (go_at_call 80; refine I1.out.mono ?_; clear I1; intro e w6 hq; have OP := rpost_open LL.out.at_ hq hnp hta; obtain ⟨r, a', c', m', rfl, hr6, gr6, r0, r1, hc6, hs6⟩ := OP; have CP6 := copy_kept LL.out.copy gr6 (by simpa using hB); have x0 := copy_0 CP6; have x2 := copy_2 CP6; have lW6 := copy_lt CP6; have HR6 := Lib.hid hr6; have GR6 := Lib.hid gr6; have HC6 := Lib.hid hc6; have HS6 := Lib.hid hs6; clear hr6 gr6 hc6 hs6 CP6)
                  | (go_at_call 107; refine (rgreater_any _ _ _).mono ?_; rintro e w1 ⟨rfl, rfl⟩)))
              go_roundw
              case rel => exact ⟨q + 1, wantN k q vv r, a', c', m', by go_num, congrArg (Value.int .i64) (hwn.out r).symm, rl_step LL.out hlt hB hnp _ rfl HR6.out GR6.out r0 r1 (by rw [hk0'.out]; exact HC6.out) (by rw [hk0'.out]; exact HS6.out) _ (grownBy_refl _ none)⟩
              case measure => simp [intOf]; omega
            · have hwn := Lib.hid (fun r => show wantN k q vv r = max vv (r + q) by unfold wantN; rw [if_neg (by omega), if_neg (by omega)])
              have g23 : (k == 23) = false := beq_eq_false_iff_ne.2 h23
              have g24 : (k == 24) = false := beq_eq_false_iff_ne.2 h24
              have hk0' := Lib.hid hk0
              clear hk0 h23 h24
              (
                go_wp2_with (first
                  | (go_at_call 106; refine (KD.out _).mono ?_; rintro e w1 ⟨rfl, rfl⟩)
                  | (go_at_call 80; refine I1.out.mono ?_; clear I1; intro e w6 hq; have OP := rpost_open LL.out.at_ hq hnp hta; obtain ⟨r, a', c', m', rfl, hr6, gr6, r0, r1, hc6, hs6⟩ := OP; have CP6 := copy_kept LL.out.copy gr6 (by simpa using hB); have x0 := copy_0 CP6; have x2 := copy_2 CP6; have lW6 := copy_lt CP6; have HR6 := Lib.hid hr6; have GR6 := Lib.hid gr6; have HC6 := Lib.hid hc6; have HS6 := Lib.hid hs6; clear hr6 gr6 hc6 hs6 CP6)
                  | (go_at_call 107; refine (rgreater_any _ _ _).mono ?_; rintro e w1 ⟨rfl, rfl⟩)))
              go_roundw
              case rel => exact ⟨q + 1, wantN k q vv r, a', c', m', by go_num, congrArg (Value.int .i64) (hwn.out r).symm, rl_step LL.out hlt hB hnp _ rfl HR6.out GR6.out r0 r1 (by rw [hk0'.out]; exact HC6.out) (by rw [hk0'.out]; exact HS6.out) _ (grownBy_refl _ none)⟩
              case measure => simp [intOf]; omega
        · rcases kid_range k q with hk0 | hk0 | hk0
          · have hwn := Lib.hid (fun r => show wantN k q vv r = vv by unfold wantN; rw [if_pos (by omega)])
            rw [hk0, show (0 : Int) + 1 = 1 from rfl] at I1
            rw [hk0, show (0 : Int) + 1 = 1 from rfl] at KD
            have hk0' := Lib.hid hk0
            clear hk0
            (
              go_wp2_with (first
                | (go_at_call 106; refine (KD.out _).mono ?_; rintro e w1 ⟨rfl, rfl⟩)
                | (go_at_call 80; refine I1.out.mono ?_; clear I1; intro e w6 hq; have OP := rpost_open LL.out.at_ hq hnp hta; obtain ⟨r, a', c', m', rfl, hr6, gr6, r0, r1, hc6, hs6⟩ := OP; have CP6 := copy_kept LL.out.copy gr6 (by simpa using hB); have x0 := copy_0 CP6; have x2 := copy_2 CP6; have lW6 := copy_lt CP6; have HR6 := Lib.hid hr6; have GR6 := Lib.hid gr6; have HC6 := Lib.hid hc6; have HS6 := Lib.hid hs6; clear hr6 gr6 hc6 hs6 CP6)
                | (go_at_call 107; refine (rgreater_any _ _ _).mono ?_; rintro e w1 ⟨rfl, rfl⟩)))
            go_roundw
            case rel => exact ⟨q + 1, wantN k q vv r, a', c', m', by go_num, congrArg (Value.int .i64) (hwn.out r).symm, rl_step LL.out hlt hB hnp _ rfl HR6.out GR6.out r0 r1 (by rw [hk0'.out]; exact HC6.out) (by rw [hk0'.out]; exact HS6.out) _ (grownBy_refl _ none)⟩
            case measure => simp [intOf]; omega
          · have hwn := Lib.hid (fun r => show wantN k q vv r = vv by unfold wantN; rw [if_pos (by omega)])
            rw [hk0, show (1 : Int) + 1 = 2 from rfl] at I1
            rw [hk0, show (1 : Int) + 1 = 2 from rfl] at KD
            have hk0' := Lib.hid hk0
            clear hk0
            (
              go_wp2_with (first
                | (go_at_call 106; refine (KD.out _).mono ?_; rintro e w1 ⟨rfl, rfl⟩)
                | (go_at_call 80; refine I1.out.mono ?_; clear I1; intro e w6 hq; have OP := rpost_open LL.out.at_ hq hnp hta; obtain ⟨r, a', c', m', rfl, hr6, gr6, r0, r1, hc6, hs6⟩ := OP; have CP6 := copy_kept LL.out.copy gr6 (by simpa using hB); have x0 := copy_0 CP6; have x2 := copy_2 CP6; have lW6 := copy_lt CP6; have HR6 := Lib.hid hr6; have GR6 := Lib.hid gr6; have HC6 := Lib.hid hc6; have HS6 := Lib.hid hs6; clear hr6 gr6 hc6 hs6 CP6)
                | (go_at_call 107; refine (rgreater_any _ _ _).mono ?_; rintro e w1 ⟨rfl, rfl⟩)))
            go_roundw
            case rel => exact ⟨q + 1, wantN k q vv r, a', c', m', by go_num, congrArg (Value.int .i64) (hwn.out r).symm, rl_step LL.out hlt hB hnp _ rfl HR6.out GR6.out r0 r1 (by rw [hk0'.out]; exact HC6.out) (by rw [hk0'.out]; exact HS6.out) _ (grownBy_refl _ none)⟩
            case measure => simp [intOf]; omega
          · rw [hk0, show (2 : Int) + 1 = 3 from rfl] at I1
            rw [hk0, show (2 : Int) + 1 = 3 from rfl] at KD
            by_cases h23 : k = 23
            · have hwn := Lib.hid (fun r => show wantN k q vv r = max vv r by unfold wantN; rw [if_neg (by omega), if_pos (Or.inl h23)])
              have g23 : (k == 23) = true := by simpa using h23
              have hk0' := Lib.hid hk0
              clear hk0 h23
              (
                go_wp2_with (first
                  | (go_at_call 106; refine (KD.out _).mono ?_; rintro e w1 ⟨rfl, rfl⟩)
                  | (go_at_call 80; refine I1.out.mono ?_; clear I1; intro e w6 hq; have OP := rpost_open LL.out.at_ hq hnp hta; obtain ⟨r, a', c', m', rfl, hr6, gr6, r0, r1, hc6, hs6⟩ := OP; have CP6 := copy_kept LL.out.copy gr6 (by simpa using hB); have x0 := copy_0 CP6; have x2 := copy_2 CP6; have lW6 := copy_lt CP6; have HR6 := Lib.hid hr6; have GR6 := Lib.hid gr6; have HC6 := Lib.hid hc6; have HS6 := Lib.hid hs6; clear hr6 gr6 hc6 hs6 CP6)
                  | (go_at_call 107; refine (rgreater_any _ _ _).mono ?_; rintro e w1 ⟨rfl, rfl⟩)))
              go_roundw
              case rel => exact ⟨q + 1, wantN k q vv r, a', c', m', by go_num, congrArg (Value.int .i64) (hwn.out r).symm, rl_step LL.out hlt hB hnp _ rfl HR6.out GR6.out r0 r1 (by rw [hk0'.out]; exact HC6.out) (by rw [hk0'.out]; exact HS6.out) _ (grownBy_refl _ none)⟩
              case measure => simp [intOf]; omega
            by_cases h24 : k = 24
            · have hwn := Lib.hid (fun r => show wantN k q vv r = max vv r by unfold wantN; rw [if_neg (by omega), if_pos (Or.inr h24)])
              have g23 : (k == 23) = false := beq_eq_false_iff_ne.2 h23
              have g24 : (k == 24) = true := by simpa using h24
              have hk0' := Lib.hid hk0
              clear hk0 h23 h24
              (
                go_wp2_with (first
                  | (go_at_call 106; refine (KD.out _).mono ?_; rintro e w1 ⟨rfl, rfl⟩)
                  | (go_at_call 80; refine I1.out.mono ?_; clear I1; intro e w6 hq; have OP := rpost_open LL.out.at_ hq hnp hta; obtain ⟨r, a', c', m', rfl, hr6, gr6, r0, r1, hc6, hs6⟩ := OP; have CP6 := copy_kept LL.out.copy gr6 (by simpa using hB); have x0 := copy_0 CP6; have x2 := copy_2 CP6; have lW6 := copy_lt CP6; have HR6 := Lib.hid hr6; have GR6 := Lib.hid gr6; have HC6 := Lib.hid hc6; have HS6 := Lib.hid hs6; clear hr6 gr6 hc6 hs6 CP6)
                  | (go_at_call 107; refine (rgreater_any _ _ _).mono ?_; rintro e w1 ⟨rfl, rfl⟩)))
              go_roundw
              case rel => exact ⟨q + 1, wantN k q vv r, a', c', m', by go_num, congrArg (Value.int .i64) (hwn.out r).symm, rl_step LL.out hlt hB hnp _ rfl HR6.out GR6.out r0 r1 (by rw [hk0'.out]; exact HC6.out) (by rw [hk0'.out]; exact HS6.out) _ (grownBy_refl _ none)⟩
              case measure => simp [intOf]; omega
            · have hwn := Lib.hid (fun r => show wantN k q vv r = max vv (r + q) by unfold wantN; rw [if_neg (by omega), if_neg (by omega)])
              have g23 : (k == 23) = false := beq_eq_false_iff_ne.2 h23
              have g24 : (k == 24) = false := beq_eq_false_iff_ne.2 h24
              have hk0' := Lib.hid hk0
              clear hk0 h23 h24
              (
                go_wp2_with (first
                  | (go_at_call 106; refine (KD.out _).mono ?_; rintro e w1 ⟨rfl, rfl⟩)
                  | (go_at_call 80; refine I1.out.mono ?_; clear I1; intro e w6 hq; have OP := rpost_open LL.out.at_ hq hnp hta; obtain ⟨r, a', c', m', rfl, hr6, gr6, r0, r1, hc6, hs6⟩ := OP; have CP6 := copy_kept LL.out.copy gr6 (by simpa using hB); have x0 := copy_0 CP6; have x2 := copy_2 CP6; have lW6 := copy_lt CP6; have HR6 := Lib.hid hr6; have GR6 := Lib.hid gr6; have HC6 := Lib.hid hc6; have HS6 := Lib.hid hs6; clear hr6 gr6 hc6 hs6 CP6)
                  | (go_at_call 107; refine (rgreater_any _ _ _).mono ?_; rintro e w1 ⟨rfl, rfl⟩)))
              go_roundw
              case rel => exact ⟨q + 1, wantN k q vv r, a', c', m', by go_num, congrArg (Value.int .i64) (hwn.out r).symm, rl_step LL.out hlt hB hnp _ rfl HR6.out GR6.out r0 r1 (by rw [hk0'.out]; exact HC6.out) (by rw [hk0'.out]; exact HS6.out) _ (grownBy_refl _ none)⟩
              case measure => simp [intOf]; omega
    · have HX := Lib.hid hx
      have hks : k = 22 ∨ k = 23 ∨ k = 24 ∨ k = 12 ∨ k = 13 ∨ k = 14 ∨ k = 15 ∨ k = 16 ∨ k = 25 ∨ k = 26 ∨ ¬ (k = 22 ∨ k = 23 ∨ k = 24 ∨ k = 12 ∨ k = 13 ∨ k = 14 ∨ k = 15 ∨ k = 16 ∨ k = 25 ∨ k = 26) := by omega
      clear hL HI
      by_cases hlt : (q : Int) < kc
      · have hc0 : (c == 0) = false := beq_eq_false_iff_ne.2 fun e => hx ⟨hlt, e⟩
        clear hx
        rcases hks with rfl | rfl | rfl | rfl | rfl | rfl | rfl | rfl | rfl | rfl | hno
        · go_wp2_with (go_at_call 107; refine (rgreater_any _ _ _).mono ?_; rintro e w1 ⟨rfl, rfl⟩)
          go_ret
          have E := rl_end (what := what) LL.out HX.out HP.out HAL.out _ rfl
          rw [show rlast 22 vv = max vv 2 from rfl] at E
          exact E
        · go_wp2_with (go_at_call 107; refine (rgreater_any _ _ _).mono ?_; rintro e w1 ⟨rfl, rfl⟩)
          go_ret
          have E := rl_end (what := what) LL.out HX.out HP.out HAL.out _ rfl
          rw [show rlast 23 vv = max vv 2 from rfl] at E
          exact E
        · go_wp2_with (go_at_call 107; refine (rgreater_any _ _ _).mono ?_; rintro e w1 ⟨rfl, rfl⟩)
          go_ret
          have E := rl_end (what := what) LL.out HX.out HP.out HAL.out _ rfl
          rw [show rlast 24 vv = max vv 2 from rfl] at E
          exact E
        · go_wp2_with (go_at_call 107; refine (rgreater_any _ _ _).mono ?_; rintro e w1 ⟨rfl, rfl⟩)
          go_ret
          have E := rl_end (what := what) LL.out HX.out HP.out HAL.out _ rfl
          rw [show rlast 12 vv = max vv 1 from rfl] at E
          exact E
        · go_wp2_with (go_at_call 107; refine (rgreater_any _ _ _).mono ?_; rintro e w1 ⟨rfl, rfl⟩)
          go_ret
          have E := rl_end (what := what) LL.out HX.out HP.out HAL.out _ rfl
          rw [show rlast 13 vv = max vv 1 from rfl] at E
          exact E
        · go_wp2_with (go_at_call 107; refine (rgreater_any _ _ _).mono ?_; rintro e w1 ⟨rfl, rfl⟩)
          go_ret
          have E := rl_end (what := what) LL.out HX.out HP.out HAL.out _ rfl
          rw [show rlast 14 vv = max vv 1 from rfl] at E
          exact E
        · go_wp2_with (go_at_call 107; refine (rgreater_any _ _ _).mono ?_; rintro e w1 ⟨rfl, rfl⟩)
          go_ret
          have E := rl_end (what := what) LL.out HX.out HP.out HAL.out _ rfl
          rw [show rlast 15 vv = max vv 1 from rfl] at E
          exact E
        · go_wp2_with (go_at_call 107; refine (rgreater_any _ _ _).mono ?_; rintro e w1 ⟨rfl, rfl⟩)
          go_ret
          have E := rl_end (what := what) LL.out HX.out HP.out HAL.out _ rfl
          rw [show rlast 16 vv = max vv 1 from rfl] at E
          exact E
        · go_wp2_with (go_at_call 107; refine (rgreater_any _ _ _).mono ?_; rintro e w1 ⟨rfl, rfl⟩)
          go_ret
          have E := rl_end (what := what) LL.out HX.out HP.out HAL.out _ rfl
          rw [show rlast 25 vv = max vv 1 from rfl] at E
          exact E
        · go_wp2_with (go_at_call 107; refine (rgreater_any _ _ _).mono ?_; rintro e w1 ⟨rfl, rfl⟩)
          go_ret
          have E := rl_end (what := what) LL.out HX.out HP.out HAL.out _ rfl
          rw [show rlast 26 vv = max vv 1 from rfl] at E
          exact E
        · have hrl : rlast k vv = vv := by unfold rlast; rw [if_neg (by omega), if_neg (by omega)]
          have g22 : (k == 22) = false := beq_eq_false_iff_ne.2 (by omega)
          have g23 : (k == 23) = false := beq_eq_false_iff_ne.2 (by omega)
          have g24 : (k == 24) = false := beq_eq_false_iff_ne.2 (by omega)
          have g12 : (k == 12) = false := beq_eq_false_iff_ne.2 (by omega)
          have g13 : (k == 13) = false := beq_eq_false_iff_ne.2 (by omega)
          have g14 : (k == 14) = false := beq_eq_false_iff_ne.2 (by omega)
          have g15 : (k == 15) = false := beq_eq_false_iff_ne.2 (by omega)
          have g16 : (k == 16) = false := beq_eq_false_iff_ne.2 (by omega)
          have g25 : (k == 25) = false := beq_eq_false_iff_ne.2 (by omega)
          have g26 : (k == 26) = false := beq_eq_false_iff_ne.2 (by omega)
          have HRL := Lib.hid hrl
          clear hrl hno
          go_wp2_with (go_at_call 107; refine (rgreater_any _ _ _).mono ?_; rintro e w1 ⟨rfl, rfl⟩)
          go_ret
          have E := rl_end (what := what) LL.out HX.out HP.out HAL.out _ rfl
          rw [HRL.out] at E
          exact E
      · clear hx
        rcases hks with rfl | rfl | rfl | rfl | rfl | rfl | rfl | rfl | rfl | rfl | hno
        · go_wp2_with (go_at_call 107; refine (rgreater_any _ _ _).mono ?_; rintro e w1 ⟨rfl, rfl⟩)
          go_ret
          have E := rl_end (what := what) LL.out HX.out HP.out HAL.out _ rfl
          rw [show rlast 22 vv = max vv 2 from rfl] at E
          exact E
        · go_wp2_with (go_at_call 107; refine (rgreater_any _ _ _).mono ?_; rintro e w1 ⟨rfl, rfl⟩)
          go_ret
          have E := rl_end (what := what) LL.out HX.out HP.out HAL.out _ rfl
          rw [show rlast 23 vv = max vv 2 from rfl] at E
          exact E
        · go_wp2_with (go_at_call 107; refine (rgreater_any _ _ _).mono ?_; rintro e w1 ⟨rfl, rfl⟩)
          go_ret
          have E := rl_end (what := what) LL.out HX.out HP.out HAL.out _ rfl
          rw [show rlast 24 vv = max vv 2 from rfl] at E
          exact E
        · go_wp2_with (go_at_call 107; refine (rgreater_any _ _ _).mono ?_; rintro e w1 ⟨rfl, rfl⟩)
          go_ret
          have E := rl_end (what := what) LL.out HX.out HP.out HAL.out _ rfl
          rw [show rlast 12 vv = max vv 1 from rfl] at E
          exact E
        · go_wp2_with (go_at_call 107; refine (rgreater_any _ _ _).mono ?_; rintro e w1 ⟨rfl, rfl⟩)
          go_ret
          have E := rl_end (what := what) LL.out HX.out HP.out HAL.out _ rfl
          rw [show rlast 13 vv = max vv 1 from rfl] at E
          exact E
        · go_wp2_with (go_at_call 107; refine (rgreater_any _ _ _).mono ?_; rintro e w1 ⟨rfl, rfl⟩)
          go_ret
          have E := rl_end (what := what) LL.out HX.out HP.out HAL.out _ rfl
          rw [show rlast 14 vv = max vv 1 from rfl] at E
          exact E
        · go_wp2_with (go_at_call 107; refine (rgreater_any _ _ _).mono ?_; rintro e w1 ⟨rfl, rfl⟩)
          go_ret
          have E := rl_end (what := what) LL.out HX.out HP.out HAL.out _ rfl
          rw [show rlast 15 vv = max vv 1 from rfl] at E
          exact E
        · go_wp2_with (go_at_call 107; refine (rgreater_any _ _ _).mono ?_; rintro e w1 ⟨rfl, rfl⟩)
          go_ret
          have E := rl_end (what := what) LL.out HX.out HP.out HAL.out _ rfl
          rw [show rlast 16 vv = max vv 1 from rfl] at E
          exact E
        · go_wp2_with (go_at_call 107; refine (rgreater_any _ _ _).mono ?_; rintro e w1 ⟨rfl, rfl⟩)
          go_ret
          have E := rl_end (what := what) LL.out HX.out HP.out HAL.out _ rfl
          rw [show rlast 25 vv = max vv 1 from rfl] at E
          exact E
        · go_wp2_with (go_at_call 107; refine (rgreater_any _ _ _).mono ?_; rintro e w1 ⟨rfl, rfl⟩)
          go_ret
          have E := rl_end (what := what) LL.out HX.out HP.out HAL.out _ rfl
          rw [show rlast 26 vv = max vv 1 from rfl] at E
          exact E
        · have hrl : rlast k vv = vv := by unfold rlast; rw [if_neg (by omega), if_neg (by omega)]
          have g22 : (k == 22) = false := beq_eq_false_iff_ne.2 (by omega)
          have g23 : (k == 23) = false := beq_eq_false_iff_ne.2 (by omega)
          have g24 : (k == 24) = false := beq_eq_false_iff_ne.2 (by omega)
          have g12 : (k == 12) = false := beq_eq_false_iff_ne.2 (by omega)
          have g13 : (k == 13) = false := beq_eq_false_iff_ne.2 (by omega)
          have g14 : (k == 14) = false := beq_eq_false_iff_ne.2 (by omega)
          have g15 : (k == 15) = false := beq_eq_false_iff_ne.2 (by omega)
          have g16 : (k == 16) = false := beq_eq_false_iff_ne.2 (by omega)
          have g25 : (k == 25) = false := beq_eq_false_iff_ne.2 (by omega)
          have g26 : (k == 26) = false := beq_eq_false_iff_ne.2 (by omega)
          have HRL := Lib.hid hrl
          clear hrl hno
          go_wp2_with (go_at_call 107; refine (rgreater_any _ _ _).mono ?_; rintro e w1 ⟨rfl, rfl⟩)
          go_ret
          have E := rl_end (what := what) LL.out HX.out HP.out HAL.out _ rfl
          rw [HRL.out] at E
          exact E

end Go.Proofs.Ytecaolkbllbokaa.TG
