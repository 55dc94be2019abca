/-
  The reference's compiler: function. Conditions: as each theorem states.
  Walks of the reference's tables: which instructions reckon, the calls. Conditions: as each theorem states.
  Walks of the reference checker's small functions. Conditions: as each theorem states.
-/
import Derived.Test.YtecaolkbllbokaaMB20
import Derived.Test.YtecaolkbllbokaaMB00
import Derived.Test.YtecaolkbllbokaaMB03
import Derived.Test.YtecaolkbllbokaaMB18
namespace Go.Proofs.Ytecaolkbllbokaa.TG
open Go.RowKit Go.Great
set_option linter.unusedSimpArgs false
set_option linter.unusedVariables false

/-- A function's lines, and whether they are as many as may be. -/
def funL (u : Un) (f : Fun) : List Ln := (nextR (partR u.texts f.parts 65) false 0).1 ++ [lineL 0 3 0, lineL 0 18 0]
def funOk (u : Un) (f : Fun) : Bool := bif (nextR (partR u.texts f.parts 65) false 0).2.1 then false else decide ((funL u f).length ≤ 4096)

def FunPost (w : World) (R : List Ln) (ok : Bool) (e : Ending) (w' : World) : Prop := ∃ v, e = .returned (.tuple #[v, .bool ok]) ∧ LnsAt w' w.heap.size v R ∧ w.grownBy w' none

theorem fun_len (u : Un) (f : Fun) : (nextR (partR u.texts f.parts 65) false 0).1.length ≤ 594000 := by
  have := (first_len (P := partR u.texts f.parts 65) (a := 0) (C := 594000) fun a => by have := part_len u.texts f.parts 65 a; omega).1
  exact this

theorem fun_app {w wb wr w4 w5 : World} {v : Value} {R : List Ln} {Bc : Nat} (hb : w.heap.size ≤ Bc) (g0 : w.grownBy wb none) (g1 : wb.grownBy wr (some Bc)) (own : LnsAt wr (w.heap.size + 2) v R) (g4 : wr.grownBy w4 none) (g5 : w4.grownBy w5 v.ownBlock) : w.grownBy w5 none := by
  have g := grownBy_trans (grow_new g0 g1 hb) g4
  cases hv : v.ownBlock with
  | none => rw [hv] at g5; exact grownBy_trans g g5
  | some b => rw [hv] at g5; exact grow_new g g5 (by have := (own.lt b hv).1; omega)

theorem cod_app {x : Lx} {wr w4 w5 : World} {v : Value} {R : List Ln} {a : Nat} {ov : Bool} {b : Nat} (hc : CodR x wr a ov) (hlt : x.Bc < b) (own : LnsAt wr b v R) (g4 : wr.grownBy w4 none) (g5 : w4.grownBy w5 v.ownBlock) : CodR x w5 a ov := by
  have c4 := cod_kept hc g4
  have ne : v.ownBlock ≠ some x.Bc := own_block_ne own hlt
  unfold CodR at *
  rw [g5.block x.Bc (cod_lt c4) (Ne.symm ne)]; exact c4

theorem fun_le (A : List Ln) (a b : Ln) : (bif false then false else decide ((A ++ [a, b]).length ≤ 4096)) = decide ((A.length : Int) + 2 ≤ 4096) := by
  show decide _ = _
  exact decide_eq_decide.2 (by rw [List.length_append]; simp only [List.length_cons, List.length_nil]; omega)

theorem fun_post {w w5 : World} {R A : List Ln} {a b : Ln} {ok ok' : Bool} {p : Option Addr} {c : Nat} (e : R = A ++ [a, b]) (eo : ok = ok') (own : LnsAt w5 (w.heap.size + 2) (.slice p (A ++ [a, b]).length c) (A ++ [a, b])) (g : w.grownBy w5 none) (E : Ending) (he : E = .returned (.tuple #[.slice p (A.length + 2) c, .bool ok'])) : FunPost w R ok E w5 := by
  subst e; subst eo
  rw [List.length_append] at own
  exact ⟨_, he, lns_base own (Nat.le_add_right _ _), g⟩

set_option maxRecDepth 100000 in
set_option maxHeartbeats 8000000 in
theorem function_any (u : Un) (hu : UnWF u) (hnt : u.texts.length ≤ 1024) (pt pf : Option Addr) (ct cf B n : Nat) (f : Fun) (hf : u.funcs[n]? = some f) (hok : okP u.texts.length f.parts 65 0 0) (w : World) (hU : UnitAt w B pt pf u) :
    Calls Try.prog 30 #[.agg #[.slice pt u.texts.length ct, .slice pf u.funcs.length cf], .int .i64 n] w (FunPost w (funL u f) (funOk u f)) := by
  have hnl := (List.getElem?_eq_some_iff.1 hf).1
  obtain ⟨bF, oF, rfl, hbF, hcF⟩ := hU.funcs (by omega)
  obtain ⟨q0, q1, ⟨pl, cl, q2, hpl⟩, ⟨pp, cp, q3, hpp⟩⟩ := hcF n f hf
  have hni : (n : Int) < (u.funcs.length : Int) := by omega
  have hle := hU.le
  have hbw : bF < w.heap.size := by omega
  have hnf := hu.nf
  obtain ⟨z1, z2, z3, z4⟩ := hu.name f (List.mem_of_getElem? hf)
  have UU := Lib.hid hU
  have PP := Lib.hid hpp
  have HU := Lib.hid hu
  have HOK := Lib.hid hok
  have HF := Lib.hid hf
  have G0 := Lib.hid (World.grownBy_alloc w (.cells #[.slice pt u.texts.length ct, .slice (some ⟨bF, oF, none⟩) u.funcs.length cf] 25) none)
  have hub := boxU_new w (.slice pt u.texts.length ct) (.slice (some ⟨bF, oF, none⟩) u.funcs.length cf)
  have b0 := boxU_0 hub
  have b1 := boxU_1 hub
  have bl := boxU_lt hub
  have q3' := G0.out.cell q3 (by simp)
  have lF : bF < (w.alloc (.cells #[.slice pt u.texts.length ct, .slice (some ⟨bF, oF, none⟩) u.funcs.length cf] 25)).heap.size := by simp; omega
  have hsz : (w.alloc (.cells #[.slice pt u.texts.length ct, .slice (some ⟨bF, oF, none⟩) u.funcs.length cf] 25)).heap.size = w.heap.size + 1 := World.size_alloc _ _
  have HSZ := Lib.hid hsz
  clear hU hu hcF hpl hpp q0 q1 q2 z1 z2 z4 hok hf hub q3
  go_enter Try.func30, Try.ntmps30
  go_wp2
  clear hsz
  generalize w.alloc (.cells #[.slice pt u.texts.length ct, .slice (some ⟨bF, oF, none⟩) u.funcs.length cf] 25) = W at *
  go_region
  have hcod : (W.alloc (.cells #[.slice pt u.texts.length ct, .slice (some ⟨bF, oF, none⟩) u.funcs.length cf, .slice pp f.parts.length cp, .int .i64 0, .bool false] 121)).drew.heap[W.heap.size]? = some (.cells #[.slice pt u.texts.length ct, .slice (some ⟨bF, oF, none⟩) u.funcs.length cf, .slice pp f.parts.length cp, .int .i64 0, .bool false] 121 (0, 0)) := heap_alloc_new W _
  have hg2 : w.grownBy (W.alloc (.cells #[.slice pt u.texts.length ct, .slice (some ⟨bF, oF, none⟩) u.funcs.length cf, .slice pp f.parts.length cp, .int .i64 0, .bool false] 121)).drew none := grownBy_trans G0.out (grownBy_drew (World.grownBy_alloc W _ none))
  have hsz2 : (W.alloc (.cells #[.slice pt u.texts.length ct, .slice (some ⟨bF, oF, none⟩) u.funcs.length cf, .slice pp f.parts.length cp, .int .i64 0, .bool false] 121)).drew.heap.size = w.heap.size + 2 := by
    show (W.alloc _).heap.size = _
    rw [World.size_alloc, HSZ.out]
  have hBc : W.heap.size = w.heap.size + 1 := HSZ.out
  clear b0 b1 bl q3' lF
  generalize (W.alloc (.cells #[.slice pt u.texts.length ct, .slice (some ⟨bF, oF, none⟩) u.funcs.length cf, .slice pp f.parts.length cp, .int .i64 0, .bool false] 121)).drew = wb at *
  generalize W.heap.size = Bc at *
  have HBc := Lib.hid hBc
  have HS2 := Lib.hid hsz2
  have HLW := Lib.hid (show w.heap.size ≤ Bc by omega)
  have HLB := Lib.hid (show Bc < w.heap.size + 2 by omega)
  have G2 := Lib.hid hg2
  have NXT := Lib.hid (next_any ⟨u, pt, some ⟨bF, oF, none⟩, ct, cf, B, Bc, pp, cp, f.parts⟩ ⟨HU.out, hnt, z3⟩ 0 0 false wb (fun _ => HOK.out) (by omega) ⟨unitAt_kept UU.out hg2 (by simp), partsB_kept PP.out hg2 (by simp), by simp only []; omega⟩ hcod)
  have hlt : Bc < wb.heap.size := by omega
  clear hcod hg2 hsz2 hBc HSZ
  have hfl := fun_len u f
  have hfe : funL u f = (nextR (partR u.texts f.parts 65) false 0).1 ++ [lineL 0 3 0, lineL 0 18 0] := rfl
  have hfo : funOk u f = bif (nextR (partR u.texts f.parts 65) false 0).2.1 then false else decide (((nextR (partR u.texts f.parts 65) false 0).1 ++ [lineL 0 3 0, lineL 0 18 0]).length ≤ 4096) := rfl
  generalize hr : nextR (partR u.texts f.parts 65) false 0 = r at *
  have HR := Lib.hid hr
  have HFL := Lib.hid (show r.1.length + 2 ≤ 1000000000000 by omega)
  have NP := Lib.hid (show Calls Try.prog 49 #[.pointer (some ⟨Bc, 0, none⟩)] wb (NPost ⟨u, pt, some ⟨bF, oF, none⟩, ct, cf, B, Bc, pp, cp, f.parts⟩ wb r) by
    have := NXT.out
    rw [← hr]; exact this)
  have HHS := Lib.hid (show w.heap.size + 2 ≤ wb.heap.size by have := HS2.out; omega)
  have HFE := Lib.hid hfe
  have HFO := Lib.hid hfo
  clear hfl hr NXT hfe hfo
  cases hr2 : r.2.1 with
  | true =>
    have HR2 := Lib.hid hr2
    clear hr2
    go_wp2_with (first
      | (go_at_call 49; refine NP.out.mono ?_; intro e w1 hq; obtain ⟨v1, rfl, l1, g1, c1⟩ := hq; have L1 := Lib.hid (lns_base l1 HHS.out); have G1 := Lib.hid g1; have C1 := Lib.hid c1; have S1 := Lib.hid (Nat.le_trans HHS.out g1.size); clear l1 g1 c1)
      | (go_at_call 50; refine (line_raw _ _ _ _).mono ?_; rintro e w2 ⟨rfl, hg⟩; first | (have J2 := Lib.hid (grownBy_trans J1.out hg); clear J1 hg) | (have J1 := Lib.hid hg; clear hg))
      | (at_builtin; refine wpList_append_ln rfl _ _ rfl (w.heap.size + 2) _ _ _ _ _ rfl rfl (lns_grow L1.out (grownBy_trans J2.out (World.grownBy_alloc _ _ none))) (lit2 _ _ _ _ _ _ _ _ _) HFL.out (Nat.le_trans S1.out (grownBy_trans J2.out (World.grownBy_alloc _ _ none)).size) ?_; intro v5 w5 hown5 hgr5 hat5; obtain ⟨pv, cv, rfl⟩ := lns_slice hown5; have W5 := Lib.hid hown5; have GW5 := Lib.hid (fun_app (w := w) (Bc := Bc) HLW.out G2.out G1.out L1.out (grownBy_trans J2.out (World.grownBy_alloc _ _ none)) hgr5); have C5 := cod_app C1.out HLB.out L1.out (grownBy_trans J2.out (World.grownBy_alloc _ _ none)) hgr5; have d4 : w5.cell? ⟨Bc, 4, none⟩ = some (.bool r.2.1) := cod_4 C5; rw [HR2.out] at d4; have dl : Bc < w5.heap.size := cod_lt C5; clear hown5 hgr5 hat5 C5))
    go_ret2
    exact fun_post HFE.out (by rw [HFO.out, HR2.out]; rfl) W5.out GW5.out _ rfl
  | false =>
    have HR2 := Lib.hid hr2
    clear hr2
    go_wp2_with (first
      | (go_at_call 49; refine NP.out.mono ?_; intro e w1 hq; obtain ⟨v1, rfl, l1, g1, c1⟩ := hq; have L1 := Lib.hid (lns_base l1 HHS.out); have G1 := Lib.hid g1; have C1 := Lib.hid c1; have S1 := Lib.hid (Nat.le_trans HHS.out g1.size); clear l1 g1 c1)
      | (go_at_call 50; refine (line_raw _ _ _ _).mono ?_; rintro e w2 ⟨rfl, hg⟩; first | (have J2 := Lib.hid (grownBy_trans J1.out hg); clear J1 hg) | (have J1 := Lib.hid hg; clear hg))
      | (at_builtin; refine wpList_append_ln rfl _ _ rfl (w.heap.size + 2) _ _ _ _ _ rfl rfl (lns_grow L1.out (grownBy_trans J2.out (World.grownBy_alloc _ _ none))) (lit2 _ _ _ _ _ _ _ _ _) HFL.out (Nat.le_trans S1.out (grownBy_trans J2.out (World.grownBy_alloc _ _ none)).size) ?_; intro v5 w5 hown5 hgr5 hat5; obtain ⟨pv, cv, rfl⟩ := lns_slice hown5; have W5 := Lib.hid hown5; have GW5 := Lib.hid (fun_app (w := w) (Bc := Bc) HLW.out G2.out G1.out L1.out (grownBy_trans J2.out (World.grownBy_alloc _ _ none)) hgr5); have C5 := cod_app C1.out HLB.out L1.out (grownBy_trans J2.out (World.grownBy_alloc _ _ none)) hgr5; have d4 : w5.cell? ⟨Bc, 4, none⟩ = some (.bool r.2.1) := cod_4 C5; rw [HR2.out] at d4; have dl : Bc < w5.heap.size := cod_lt C5; clear hown5 hgr5 hat5 C5))
    go_ret2
    exact fun_post HFE.out (by rw [HFO.out, HR2.out]; exact fun_le r.1 _ _) W5.out GW5.out _ rfl

end Go.Proofs.Ytecaolkbllbokaa.TG

namespace Go.Proofs.Ytecaolkbllbokaa.TG
open Go.RowKit Go.Great
set_option linter.unusedSimpArgs false
set_option linter.unusedVariables false

theorem rhas2_any (op : Int) (w : World) : Calls Try.prog 131 #[.int .i64 op] w fun e w' => e = .returned (.bool (opn op == 2)) ∧ w = w' := by
  rw [opn_two]
  by_cases c1 : 20 ≤ op
  · by_cases c2 : op ≤ 33
    · simp only [c1, c2, if_true]
      go_enter Try.func131, Try.ntmps131
      go_wp2
      go_ret
      exact ⟨by simp [c1, c2], rfl⟩
    · by_cases c3 : 36 ≤ op
      · by_cases c4 : op ≤ 41
        · simp only [c1, c2, c3, c4, if_true, if_false, decide_true]
          go_enter Try.func131, Try.ntmps131
          go_wp2
          go_ret
          exact ⟨by simp [c1, c2, c3, c4], rfl⟩
        · simp only [c1, c2, c3, c4, if_true, if_false, decide_false]
          go_enter Try.func131, Try.ntmps131
          go_wp2
          go_ret
          exact ⟨by simp [c1, c2, c3, c4], rfl⟩
      · simp only [c1, c2, c3, if_true, if_false]
        go_enter Try.func131, Try.ntmps131
        go_wp2
        go_ret
        exact ⟨by simp [c1, c2, c3], rfl⟩
  · have c3 : ¬ 36 ≤ op := by omega
    simp only [c1, if_false]
    go_enter Try.func131, Try.ntmps131
    go_wp2
    go_ret
    exact ⟨by simp [c1, c3], rfl⟩

theorem rhas1_any (op : Int) (w : World) : Calls Try.prog 130 #[.int .i64 op] w fun e w' => e = .returned (.bool (opn op == 1)) ∧ w = w' := by
  by_cases h1 : op = 34
  · subst h1
    have hz : (opn 34 == 1) = true := by decide
    rw [hz]; clear hz
    go_enter Try.func130, Try.ntmps130
    go_wp2
    go_ret
    exact ⟨rfl, rfl⟩
  have e1 : (op == 34) = false := beq_eq_false_iff_ne.2 h1
  by_cases h2 : op = 35
  · subst h2
    have hz : (opn 35 == 1) = true := by decide
    rw [hz]; clear hz
    go_enter Try.func130, Try.ntmps130
    go_wp2
    go_ret
    exact ⟨rfl, rfl⟩
  have e2 : (op == 35) = false := beq_eq_false_iff_ne.2 h2
  by_cases c1 : 42 ≤ op
  · by_cases c2 : op ≤ 45
    · have hz : (opn op == 1) = true := by rw [opn_one, decide_eq_true (by omega)]
      rw [hz]; clear hz h1 h2
      go_enter Try.func130, Try.ntmps130
      go_wp2
      go_ret
      exact ⟨by simp [c1, c2], rfl⟩
    · have hz : (opn op == 1) = false := by rw [opn_one, decide_eq_false (by omega)]
      rw [hz]; clear hz h1 h2
      go_enter Try.func130, Try.ntmps130
      go_wp2
      go_ret
      exact ⟨by simp [c1, c2], rfl⟩
  · have hz : (opn op == 1) = false := by rw [opn_one, decide_eq_false (by omega)]
    rw [hz]; clear hz h1 h2
    go_enter Try.func130, Try.ntmps130
    go_wp2
    go_ret
    exact ⟨by simp [c1], rfl⟩

theorem u8_ne (x : UInt8) : ((x.toNat : Int) != 32) = !decide (x = 32) := by
  by_cases h : x = 32
  · subst h; rfl
  · have : x.toNat ≠ 32 := fun e => h (by apply UInt8.toNat_inj.1; exact e)
    rw [decide_eq_false h]
    simp; omega

set_option maxHeartbeats 1000000 in
theorem rword11_any (ws : ByteArray) (hs : ws.size ≤ 1000000) (n : Nat) (hn : n ≤ 1000) (w : World) : Calls Try.prog 143 #[.string ws, .int .i64 n] w fun e w' => (∃ s, e = .returned (.string s)) ∧ w = w' := by
  go_enter Try.func143, Try.ntmps143
  go_wp2
  go_loop [1, 5, 6] (fun m f i => ∃ a b c : Nat, f = .int .i64 a ∧ i = .int .i64 b ∧ m = .int .i64 c ∧ a ≤ b ∧ b ≤ ws.size ∧ c ≤ 1000) (fun _ _ i => ws.size - (intOf i).toNat)
  case atStart => exact ⟨0, 0, n, rfl, rfl, rfl, Nat.le_refl _, Nat.zero_le _, hn⟩
  case round =>
    obtain ⟨a, b, c, rfl, rfl, rfl, hab, hb, hc⟩ := hrel
    by_cases hlt : b < ws.size
    · have hx := u8_ne (ws[b]'hlt)
      by_cases h32 : ws[b]'hlt = 32
      · rw [decide_eq_true h32] at hx
        by_cases hc0 : c = 0
        · subst hc0
          go_wp2
          go_ret
          exact ⟨⟨_, rfl⟩, rfl⟩
        · have e0 : ((c : Int) == 0) = false := by simp; omega
          go_wp2
          go_round
          case rel => exact ⟨b + 1, b + 1, c - 1, by go_num, by go_num, by congr 1; omega, by omega, by omega, by omega⟩
          case measure => simp [intOf]; omega
      · rw [decide_eq_false h32] at hx
        go_wp2
        go_round
        case rel => exact ⟨a, b + 1, c, rfl, by go_num, rfl, by omega, by omega, hc⟩
        case measure => simp [intOf]; omega
    · have hbe : b = ws.size := by omega
      subst hbe
      go_wp2
      go_ret
      exact ⟨⟨_, rfl⟩, rfl⟩

set_option maxHeartbeats 1000000 in
theorem rsys_any (n : Nat) (hn : n < 5) (w : World) :
    Calls Try.prog 132 #[.int .i64 n] w fun e w' => (∃ s x, e = .returned (.tuple #[.agg #[.string s, .int .i64 x, .int .i64 (sysTakes n), .int .i64 1], .bool true])) ∧ w.grownBy w' none := by
  have W := Lib.hid (fun ws (hs : ws.size ≤ 1000000) w' => rword11_any ws hs n (by omega) w')
  rcases (by omega : n = 0 ∨ n = 1 ∨ n = 2 ∨ n = 3 ∨ n = 4) with rfl | rfl | rfl | rfl | rfl
  all_goals
    go_enter Try.func132, Try.ntmps132
    go_wp2_with (go_at_call 143; refine (W.out _ (by decide) _).mono ?_; rintro e w' ⟨⟨s, rfl⟩, rfl⟩)
    (try simp only [Exit.inBlock, Exit.then])
    refine bodyPost_ret ?_ rfl ⟨⟨s, 0, rfl⟩, ?_⟩
    · rw [results_cell_tmp rfl]
      go_simp
      all_goals rfl
    · exact grownBy_trans (World.grownBy_alloc _ _ none) (World.grownBy_alloc _ _ none)

set_option maxHeartbeats 1000000 in
theorem rsys_out (n : Int) (hn : n < 0 ∨ 5 ≤ n) (w : World) :
    Calls Try.prog 132 #[.int .i64 n] w fun e w' => (∃ v, e = .returned (.tuple #[v, .bool false])) ∧ w.grownBy w' none := by
  rcases hn with hn | hn
  · go_enter Try.func132, Try.ntmps132
    go_wp2
    (try simp only [Exit.inBlock, Exit.then])
    refine bodyPost_ret (v := .tuple #[.agg #[.string ⟨#[]⟩, .int .i64 0, .int .i64 0, .int .i64 0], .bool false]) ?_ rfl ⟨⟨_, rfl⟩, ?_⟩
    · rw [results_cell_tmp rfl]
      go_simp
    · exact World.grownBy_alloc _ _ none
  · have hn0 : ¬ n < 0 := by omega
    go_enter Try.func132, Try.ntmps132
    go_wp2
    (try simp only [Exit.inBlock, Exit.then])
    refine bodyPost_ret (v := .tuple #[.agg #[.string ⟨#[]⟩, .int .i64 0, .int .i64 0, .int .i64 0], .bool false]) ?_ rfl ⟨⟨_, rfl⟩, ?_⟩
    · rw [results_cell_tmp rfl]
      go_simp
    · exact World.grownBy_alloc _ _ none

end Go.Proofs.Ytecaolkbllbokaa.TG

namespace Go.Proofs.Ytecaolkbllbokaa.TG
open Go.RowKit Go.Great
set_option linter.unusedSimpArgs false
set_option linter.unusedVariables false

/-- May a part of that kind stand there? -/
def standsB (k what : Int) : Bool := decide (1 ≤ k ∧ k < 27 ∧ (kindsE k = what ∨ (kindsE k = 0 ∧ what = 1)))

theorem standsB_alone {nl nt : Nat} {fs : List Int} {loops k n kc what : Int} : standsB k what = false ∨ (standsB k what = true ∧ aloneE nl nt fs loops k n kc what = if numE nl nt fs.length loops k n ≠ 0 then numE nl nt fs.length loops k n else kidsE (fs.getD n.toNat 0) k n kc) := by
  unfold standsB aloneE
  by_cases h : 1 ≤ k ∧ k < 27 ∧ (kindsE k = what ∨ (kindsE k = 0 ∧ what = 1))
  · right
    rw [decide_eq_true h]
    refine ⟨rfl, ?_⟩
    rw [if_neg (by omega), if_neg (by omega)]
  · left; exact decide_eq_false h
theorem stands_not {nl nt : Nat} {fs : List Int} {loops k n kc what : Int} (h : standsB k what = false) : aloneE nl nt fs loops k n kc what = 171 := by
  have h' := of_decide_eq_false h
  unfold aloneE
  by_cases h1 : k < 1 ∨ 27 ≤ k
  · rw [if_pos h1]
  · rw [if_neg h1, if_pos (by omega)]

theorem stands_0 (k : Int) : standsB k 0 = (k == 1) := by
  unfold standsB kindsE
  by_cases h : k = 1
  · subst h; rfl
  · have : (k == 1) = false := beq_eq_false_iff_ne.2 h
    rw [this]
    refine decide_eq_false ?_
    rw [if_neg h]
    split <;> omega
theorem stands_1 (k : Int) : standsB k 1 = (decide (1 ≤ k) && decide (k ≤ 11)) := by
  unfold standsB kindsE
  by_cases h : 1 ≤ k ∧ k ≤ 11
  · rw [decide_eq_true h.1, decide_eq_true h.2]
    refine decide_eq_true ⟨h.1, by omega, ?_⟩
    by_cases h1 : k = 1
    · rw [if_pos h1]; exact Or.inr ⟨rfl, rfl⟩
    · rw [if_neg h1, if_pos (by omega)]; exact Or.inl rfl
  · rw [show (decide (1 ≤ k) && decide (k ≤ 11)) = false by simp; omega]
    refine decide_eq_false ?_
    split
    · omega
    · split <;> omega
theorem stands_2 (k : Int) : standsB k 2 = (decide (12 ≤ k) && decide (k < 27)) := by
  unfold standsB kindsE
  by_cases h : 12 ≤ k ∧ k < 27
  · rw [decide_eq_true h.1, decide_eq_true h.2]
    refine decide_eq_true ⟨by omega, h.2, ?_⟩
    rw [if_neg (by omega), if_neg (by omega)]; exact Or.inl rfl
  · rw [show (decide (12 ≤ k) && decide (k < 27)) = false by simp; omega]
    refine decide_eq_false ?_
    split
    · omega
    · split <;> omega

theorem rstands_any (k what : Int) (hw : what = 0 ∨ what = 1 ∨ what = 2) (w : World) : Calls Try.prog 103 #[.int .i64 k, .int .i64 (what + 1)] w fun e w' => e = .returned (.bool (standsB k what)) ∧ w = w' := by
  rcases hw with rfl | rfl | rfl
  · rw [stands_0, show (0 : Int) + 1 = 1 from rfl]
    go_enter Try.func103, Try.ntmps103
    go_wp2
    go_ret
    exact ⟨rfl, rfl⟩
  · rw [stands_1, show (1 : Int) + 1 = 2 from rfl]
    by_cases h : 1 ≤ k
    · rw [decide_eq_true h, Bool.true_and]
      go_enter Try.func103, Try.ntmps103
      go_wp2
      go_ret
      exact ⟨rfl, rfl⟩
    · rw [decide_eq_false h, Bool.false_and]
      go_enter Try.func103, Try.ntmps103
      go_wp2
      go_ret
      exact ⟨rfl, rfl⟩
  · rw [stands_2, show (2 : Int) + 1 = 3 from rfl]
    by_cases h : 12 ≤ k
    · rw [decide_eq_true h, Bool.true_and]
      go_enter Try.func103, Try.ntmps103
      go_wp2
      go_ret
      exact ⟨rfl, rfl⟩
    · rw [decide_eq_false h, Bool.false_and]
      go_enter Try.func103, Try.ntmps103
      go_wp2
      go_ret
      exact ⟨rfl, rfl⟩

theorem rgreater_any (a b : Int) (w : World) : Calls Try.prog 107 #[.int .i64 a, .int .i64 b] w fun e w' => e = .returned (.int .i64 (max a b)) ∧ w = w' := by
  by_cases h : b < a
  · rw [show max a b = a by omega]
    go_enter Try.func107, Try.ntmps107
    go_wp2
    go_ret
    exact ⟨rfl, rfl⟩
  · rw [show max a b = b by omega]
    go_enter Try.func107, Try.ntmps107
    go_wp2
    go_ret
    exact ⟨rfl, rfl⟩

theorem rkid_any (k i : Int) (w : World) : Calls Try.prog 106 #[.int .i64 k, .int .i64 i] w fun e w' => e = .returned (.int .i64 (kidE k i + 1)) ∧ w = w' := by
  unfold kidE
  by_cases h1 : k = 1
  · subst h1
    rw [if_pos rfl]
    go_enter Try.func106, Try.ntmps106
    go_wp2
    go_ret
    exact ⟨rfl, rfl⟩
  have e1 : (k == 1) = false := beq_eq_false_iff_ne.2 h1
  rw [if_neg h1]
  by_cases h2 : 0 < i
  · by_cases h5 : k = 5
    · subst h5
      rw [if_pos ⟨Or.inl rfl, h2⟩]
      clear h1
      go_enter Try.func106, Try.ntmps106
      go_wp2
      go_ret
      exact ⟨rfl, rfl⟩
    have e5 : (k == 5) = false := beq_eq_false_iff_ne.2 h5
    by_cases h6 : k = 6
    · subst h6
      rw [if_pos ⟨Or.inr rfl, h2⟩]
      clear h1 h5
      go_enter Try.func106, Try.ntmps106
      go_wp2
      go_ret
      exact ⟨rfl, rfl⟩
    have e6 : (k == 6) = false := beq_eq_false_iff_ne.2 h6
    rw [if_neg (by omega)]
    clear h1 h5 h6
    go_enter Try.func106, Try.ntmps106
    go_wp2
    go_ret
    exact ⟨rfl, rfl⟩
  · rw [if_neg (by omega)]
    by_cases h5 : k = 5
    · subst h5
      clear h1
      go_enter Try.func106, Try.ntmps106
      go_wp2
      go_ret
      exact ⟨rfl, rfl⟩
    have e5 : (k == 5) = false := beq_eq_false_iff_ne.2 h5
    by_cases h6 : k = 6
    · subst h6
      clear h1 h5
      go_enter Try.func106, Try.ntmps106
      go_wp2
      go_ret
      exact ⟨rfl, rfl⟩
    have e6 : (k == 6) = false := beq_eq_false_iff_ne.2 h6
    clear h1 h5 h6
    go_enter Try.func106, Try.ntmps106
    go_wp2
    go_ret
    exact ⟨rfl, rfl⟩

/-- The reference checker's block. -/
def CkR (w : World) (Bc : Nat) (vt vf : Value) (nm : ByteArray) (ar : Int) (vl vp : Value) (a : Nat) (e m : Int) : Prop :=
  w.heap[Bc]? = some (.cells #[vt, vf, .string nm, .int .i64 ar, vl, vp, .int .i64 a, .int .i64 e, .int .i64 m] 153 (0, 0))

theorem rfail_any (Bc : Nat) (vt vf : Value) (nm : ByteArray) (ar : Int) (vl vp : Value) (a : Nat) (x m : Int) (w : World) (h : CkR w Bc vt vf nm ar vl vp a 0 m) :
    Calls Try.prog 102 #[.pointer (some ⟨Bc, 0, none⟩), .int .i64 x] w fun e w' => e = .returned (.int .i64 0) ∧ w' = w.setCell ⟨Bc, 7, none⟩ (.int .i64 x) := by
  have c7 := cell_of_row w Bc 7 _ _ _ h
  have z7 := frozen_of_row w Bc 7 _ _ h
  have lt := (Array.getElem?_eq_some_iff.1 h).1
  clear h
  go_enter Try.func102, Try.ntmps102
  go_wp2
  go_ret
  exact ⟨rfl, rfl⟩

end Go.Proofs.Ytecaolkbllbokaa.TG
