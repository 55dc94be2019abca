/-
  The reference's compiler: own, for single kinds of parts. Conditions: as each theorem states.
  The reference's compiler: own, for single kinds of parts. Conditions: as each theorem states.
  The reference's compiler: own, of PTurn; of any part. Conditions: as each theorem states.
  The reference's compiler: where its state lies; next out of part. Conditions: as each theorem states.
-/
import Derived.Test.YtecaolkbllbokaaMB18
import Derived.Deep.QuietTactic
import Derived.BigQuiet
import Derived.Deep.RegionHeld3
import Derived.StillTailTactics
namespace Go.Proofs.Ytecaolkbllbokaa.TG
open Go.RowKit Go.Great
set_option linter.unusedSimpArgs false
set_option linter.unusedVariables false

set_option maxRecDepth 100000 in
set_option maxHeartbeats 4000000 in
theorem own_k14 (u : Un) (hu : UnWF u) (hnt : u.texts.length ≤ 1024) (me n kc : Int) (hn0 : 0 ≤ n) (hn : n < u.texts.length) (pt pf : Option Addr) (ct cf B : Nat) (w : World) (hU : UnitAt w B pt pf u) :
    Calls Try.prog 111 #[.agg #[.slice pt u.texts.length ct, .slice pf u.funcs.length cf], .int .i64 me, .agg #[.int .i64 14, .int .i64 n, .int .i64 kc]] w (LnsPost w (ownL u.texts me 14 n)) := by
  have UU := Lib.hid hU
  have G0 := Lib.hid (rgrow_two w (.cells #[.slice pt u.texts.length ct, .slice pf u.funcs.length cf] 25) (.cells #[.int .i64 14, .int .i64 n, .int .i64 kc] 108))
  clear hU
  go_enter Try.func111, Try.ntmps111
  go_wp2_with (first | (go_at_call 50; refine (line_raw _ _ _ _).mono ?_; rintro e wj ⟨rfl, hg⟩; first | (have G2 := Lib.hid (grownBy_trans G1.out hg); clear G1 hg) | (have G1 := Lib.hid (grownBy_trans G0.out hg); clear G0 hg)) | (go_at_call 29; refine (ahead_any u hu hnt n hn0 (by omega) pt pf ct cf B _ (unitAt_kept UU.out G0.out (by simp))).mono ?_; rintro e wa ⟨rfl, hg⟩; have GA := Lib.hid (grownBy_trans G0.out hg); clear G0 hg; have G0 := GA; clear GA))
  go_ret
  exact own_post G1.out _ rfl rfl

set_option maxRecDepth 100000 in
set_option maxHeartbeats 4000000 in
theorem own_k15 (u : Un) (hu : UnWF u) (hnt : u.texts.length ≤ 1024) (me n kc : Int) (hn0 : 0 ≤ n) (hn : n < u.texts.length) (pt pf : Option Addr) (ct cf B : Nat) (w : World) (hU : UnitAt w B pt pf u) :
    Calls Try.prog 111 #[.agg #[.slice pt u.texts.length ct, .slice pf u.funcs.length cf], .int .i64 me, .agg #[.int .i64 15, .int .i64 n, .int .i64 kc]] w (LnsPost w (ownL u.texts me 15 n)) := by
  have UU := Lib.hid hU
  obtain ⟨bt, ot, rfl, hbt, hct⟩ := hU.texts (by omega)
  obtain ⟨i, rfl⟩ : ∃ i : Nat, n = (i : Int) := ⟨n.toNat, by omega⟩
  obtain ⟨⟨nm, d⟩, hd⟩ : ∃ x, u.texts[i]? = some x := ⟨_, List.getElem?_eq_getElem (by omega)⟩
  obtain ⟨_, pd, cd, e1, _⟩ := hct i nm d hd
  have hle := hU.le
  have hbw : bt < w.heap.size := by omega
  have hE : finG u.texts 15 (i : Int) = [(3, (d.length : Int))] := by
    unfold finG; simp [List.getD, hd]
  have E15 := Lib.hid hE
  clear hct hd hE
  have G0 := Lib.hid (rgrow_two w (.cells #[.slice (some ⟨bt, ot, none⟩) u.texts.length ct, .slice pf u.funcs.length cf] 25) (.cells #[.int .i64 15, .int .i64 i, .int .i64 kc] 108))
  clear hU
  go_enter Try.func111, Try.ntmps111
  go_wp2_with ((go_at_call 50; refine (line_raw _ _ _ _).mono ?_; rintro e wj ⟨rfl, hg⟩; first | (have G2 := Lib.hid (grownBy_trans G1.out hg); clear G1 hg) | (have G1 := Lib.hid (grownBy_trans G0.out hg); clear G0 hg)))
  go_ret
  exact own_post G1.out _ E15.out rfl

set_option maxRecDepth 100000 in
set_option maxHeartbeats 4000000 in
theorem own_k16 (u : Un) (hu : UnWF u) (hnt : u.texts.length ≤ 1024) (me n kc : Int) (pt pf : Option Addr) (ct cf B : Nat) (w : World) (hU : UnitAt w B pt pf u) :
    Calls Try.prog 111 #[.agg #[.slice pt u.texts.length ct, .slice pf u.funcs.length cf], .int .i64 me, .agg #[.int .i64 16, .int .i64 n, .int .i64 kc]] w (LnsPost w (ownL u.texts me 16 n)) := by
  have UU := Lib.hid hU
  have G0 := Lib.hid (rgrow_two w (.cells #[.slice pt u.texts.length ct, .slice pf u.funcs.length cf] 25) (.cells #[.int .i64 16, .int .i64 n, .int .i64 kc] 108))
  clear hU
  go_enter Try.func111, Try.ntmps111
  go_wp2_with ((go_at_call 50; refine (line_raw _ _ _ _).mono ?_; rintro e wj ⟨rfl, hg⟩; first | (have G2 := Lib.hid (grownBy_trans G1.out hg); clear G1 hg) | (have G1 := Lib.hid (grownBy_trans G0.out hg); clear G0 hg)))
  go_ret
  exact own_post G1.out _ rfl rfl

set_option maxRecDepth 100000 in
set_option maxHeartbeats 4000000 in
theorem own_k17 (u : Un) (hu : UnWF u) (hnt : u.texts.length ≤ 1024) (me n kc : Int) (pt pf : Option Addr) (ct cf B : Nat) (w : World) (hU : UnitAt w B pt pf u) :
    Calls Try.prog 111 #[.agg #[.slice pt u.texts.length ct, .slice pf u.funcs.length cf], .int .i64 me, .agg #[.int .i64 17, .int .i64 n, .int .i64 kc]] w (LnsPost w (ownL u.texts me 17 n)) := by
  have UU := Lib.hid hU
  have G0 := Lib.hid (rgrow_two w (.cells #[.slice pt u.texts.length ct, .slice pf u.funcs.length cf] 25) (.cells #[.int .i64 17, .int .i64 n, .int .i64 kc] 108))
  clear hU
  go_enter Try.func111, Try.ntmps111
  go_wp2_with ((go_at_call 50; refine (line_raw _ _ _ _).mono ?_; rintro e wj ⟨rfl, hg⟩; first | (have G2 := Lib.hid (grownBy_trans G1.out hg); clear G1 hg) | (have G1 := Lib.hid (grownBy_trans G0.out hg); clear G0 hg)))
  go_ret
  exact own_post G1.out _ rfl rfl

set_option maxRecDepth 100000 in
set_option maxHeartbeats 4000000 in
theorem own_k18 (u : Un) (hu : UnWF u) (hnt : u.texts.length ≤ 1024) (me n kc : Int) (pt pf : Option Addr) (ct cf B : Nat) (w : World) (hU : UnitAt w B pt pf u) :
    Calls Try.prog 111 #[.agg #[.slice pt u.texts.length ct, .slice pf u.funcs.length cf], .int .i64 me, .agg #[.int .i64 18, .int .i64 n, .int .i64 kc]] w (LnsPost w (ownL u.texts me 18 n)) := by
  have UU := Lib.hid hU
  have G0 := Lib.hid (rgrow_two w (.cells #[.slice pt u.texts.length ct, .slice pf u.funcs.length cf] 25) (.cells #[.int .i64 18, .int .i64 n, .int .i64 kc] 108))
  clear hU
  go_enter Try.func111, Try.ntmps111
  go_wp2_with ((go_at_call 50; refine (line_raw _ _ _ _).mono ?_; rintro e wj ⟨rfl, hg⟩; first | (have G2 := Lib.hid (grownBy_trans G1.out hg); clear G1 hg) | (have G1 := Lib.hid (grownBy_trans G0.out hg); clear G0 hg)))
  go_ret
  exact own_post G1.out _ rfl rfl

set_option maxRecDepth 100000 in
set_option maxHeartbeats 4000000 in
theorem own_k19 (u : Un) (hu : UnWF u) (hnt : u.texts.length ≤ 1024) (me n kc : Int) (pt pf : Option Addr) (ct cf B : Nat) (w : World) (hU : UnitAt w B pt pf u) :
    Calls Try.prog 111 #[.agg #[.slice pt u.texts.length ct, .slice pf u.funcs.length cf], .int .i64 me, .agg #[.int .i64 19, .int .i64 n, .int .i64 kc]] w (LnsPost w (ownL u.texts me 19 n)) := by
  have UU := Lib.hid hU
  have G0 := Lib.hid (rgrow_two w (.cells #[.slice pt u.texts.length ct, .slice pf u.funcs.length cf] 25) (.cells #[.int .i64 19, .int .i64 n, .int .i64 kc] 108))
  clear hU
  go_enter Try.func111, Try.ntmps111
  go_wp2_with ((go_at_call 50; refine (line_raw _ _ _ _).mono ?_; rintro e wj ⟨rfl, hg⟩; first | (have G2 := Lib.hid (grownBy_trans G1.out hg); clear G1 hg) | (have G1 := Lib.hid (grownBy_trans G0.out hg); clear G0 hg)))
  go_ret
  exact own_post G1.out _ rfl rfl

set_option maxRecDepth 100000 in
set_option maxHeartbeats 4000000 in
theorem own_k20 (u : Un) (hu : UnWF u) (hnt : u.texts.length ≤ 1024) (me n kc : Int) (pt pf : Option Addr) (ct cf B : Nat) (w : World) (hU : UnitAt w B pt pf u) :
    Calls Try.prog 111 #[.agg #[.slice pt u.texts.length ct, .slice pf u.funcs.length cf], .int .i64 me, .agg #[.int .i64 20, .int .i64 n, .int .i64 kc]] w (LnsPost w (ownL u.texts me 20 n)) := by
  have UU := Lib.hid hU
  have G0 := Lib.hid (rgrow_two w (.cells #[.slice pt u.texts.length ct, .slice pf u.funcs.length cf] 25) (.cells #[.int .i64 20, .int .i64 n, .int .i64 kc] 108))
  clear hU
  go_enter Try.func111, Try.ntmps111
  go_wp2_with ((go_at_call 50; refine (line_raw _ _ _ _).mono ?_; rintro e wj ⟨rfl, hg⟩; first | (have G2 := Lib.hid (grownBy_trans G1.out hg); clear G1 hg) | (have G1 := Lib.hid (grownBy_trans G0.out hg); clear G0 hg)))
  go_ret
  exact own_post G1.out _ rfl rfl

end Go.Proofs.Ytecaolkbllbokaa.TG

namespace Go.Proofs.Ytecaolkbllbokaa.TG
open Go.RowKit Go.Great
set_option linter.unusedSimpArgs false
set_option linter.unusedVariables false

set_option maxRecDepth 100000 in
set_option maxHeartbeats 4000000 in
theorem own_k22 (u : Un) (hu : UnWF u) (hnt : u.texts.length ≤ 1024) (me n kc : Int) (pt pf : Option Addr) (ct cf B : Nat) (w : World) (hU : UnitAt w B pt pf u) :
    Calls Try.prog 111 #[.agg #[.slice pt u.texts.length ct, .slice pf u.funcs.length cf], .int .i64 me, .agg #[.int .i64 22, .int .i64 n, .int .i64 kc]] w (LnsPost w (ownL u.texts me 22 n)) := by
  have UU := Lib.hid hU
  have G0 := Lib.hid (rgrow_two w (.cells #[.slice pt u.texts.length ct, .slice pf u.funcs.length cf] 25) (.cells #[.int .i64 22, .int .i64 n, .int .i64 kc] 108))
  clear hU
  go_enter Try.func111, Try.ntmps111
  go_wp2_with ((go_at_call 50; refine (line_raw _ _ _ _).mono ?_; rintro e wj ⟨rfl, hg⟩; first | (have G2 := Lib.hid (grownBy_trans G1.out hg); clear G1 hg) | (have G1 := Lib.hid (grownBy_trans G0.out hg); clear G0 hg)))
  go_ret
  exact own_post2 G2.out _ rfl rfl

set_option maxRecDepth 100000 in
set_option maxHeartbeats 4000000 in
theorem own_k25 (u : Un) (hu : UnWF u) (hnt : u.texts.length ≤ 1024) (me n kc : Int) (pt pf : Option Addr) (ct cf B : Nat) (w : World) (hU : UnitAt w B pt pf u) :
    Calls Try.prog 111 #[.agg #[.slice pt u.texts.length ct, .slice pf u.funcs.length cf], .int .i64 me, .agg #[.int .i64 25, .int .i64 n, .int .i64 kc]] w (LnsPost w (ownL u.texts me 25 n)) := by
  have UU := Lib.hid hU
  have G0 := Lib.hid (rgrow_two w (.cells #[.slice pt u.texts.length ct, .slice pf u.funcs.length cf] 25) (.cells #[.int .i64 25, .int .i64 n, .int .i64 kc] 108))
  clear hU
  go_enter Try.func111, Try.ntmps111
  go_wp2_with ((go_at_call 50; refine (line_raw _ _ _ _).mono ?_; rintro e wj ⟨rfl, hg⟩; first | (have G2 := Lib.hid (grownBy_trans G1.out hg); clear G1 hg) | (have G1 := Lib.hid (grownBy_trans G0.out hg); clear G0 hg)))
  go_ret
  exact own_post G1.out _ rfl rfl

set_option maxRecDepth 100000 in
set_option maxHeartbeats 4000000 in
theorem own_k26 (u : Un) (hu : UnWF u) (hnt : u.texts.length ≤ 1024) (me n kc : Int) (pt pf : Option Addr) (ct cf B : Nat) (w : World) (hU : UnitAt w B pt pf u) :
    Calls Try.prog 111 #[.agg #[.slice pt u.texts.length ct, .slice pf u.funcs.length cf], .int .i64 me, .agg #[.int .i64 26, .int .i64 n, .int .i64 kc]] w (LnsPost w (ownL u.texts me 26 n)) := by
  have UU := Lib.hid hU
  have G0 := Lib.hid (rgrow_two w (.cells #[.slice pt u.texts.length ct, .slice pf u.funcs.length cf] 25) (.cells #[.int .i64 26, .int .i64 n, .int .i64 kc] 108))
  clear hU
  go_enter Try.func111, Try.ntmps111
  go_wp2_with ((go_at_call 50; refine (line_raw _ _ _ _).mono ?_; rintro e wj ⟨rfl, hg⟩; first | (have G2 := Lib.hid (grownBy_trans G1.out hg); clear G1 hg) | (have G1 := Lib.hid (grownBy_trans G0.out hg); clear G0 hg)))
  go_ret
  exact own_post G1.out _ rfl rfl

set_option maxRecDepth 100000 in
set_option maxHeartbeats 4000000 in
theorem own_k1 (u : Un) (hu : UnWF u) (hnt : u.texts.length ≤ 1024) (me n kc : Int) (pt pf : Option Addr) (ct cf B : Nat) (w : World) (hU : UnitAt w B pt pf u) :
    Calls Try.prog 111 #[.agg #[.slice pt u.texts.length ct, .slice pf u.funcs.length cf], .int .i64 me, .agg #[.int .i64 1, .int .i64 n, .int .i64 kc]] w (LnsPost w (ownL u.texts me 1 n)) := by
  have UU := Lib.hid hU
  have G0 := Lib.hid (rgrow_two w (.cells #[.slice pt u.texts.length ct, .slice pf u.funcs.length cf] 25) (.cells #[.int .i64 1, .int .i64 n, .int .i64 kc] 108))
  clear hU
  go_enter Try.func111, Try.ntmps111
  go_wp2
  go_ret
  exact own_nil G0.out _ rfl rfl

end Go.Proofs.Ytecaolkbllbokaa.TG

namespace Go.Proofs.Ytecaolkbllbokaa.TG
open Go.RowKit Go.Great
set_option linter.unusedSimpArgs false
set_option linter.unusedVariables false

def K21 (w : World) (N : Nat) (n : Int) (W' : World) : Prop := w.grownBy W' none ∧ W'.cell? ⟨N, 1, none⟩ = some (.int .i64 n) ∧ N < W'.heap.size
theorem k21_call {w W' W2 : World} {N : Nat} {n : Int} (K : w.grownBy W' none ∧ W'.cell? ⟨N, 1, none⟩ = some (.int .i64 n) ∧ N < W'.heap.size) (g : W'.grownBy W2 none) : w.grownBy W2 none ∧ W2.cell? ⟨N, 1, none⟩ = some (.int .i64 n) ∧ N < W2.heap.size :=
  ⟨grownBy_trans K.1 g, g.cell K.2.1 (by simp), Nat.lt_of_lt_of_le K.2.2 g.size⟩
theorem k21_drew {w W' : World} {N : Nat} {n : Int} (K : w.grownBy W' none ∧ W'.cell? ⟨N, 1, none⟩ = some (.int .i64 n) ∧ N < W'.heap.size) : w.grownBy W'.drew none ∧ W'.drew.cell? ⟨N, 1, none⟩ = some (.int .i64 n) ∧ N < W'.drew.heap.size :=
  ⟨grownBy_drew K.1, K.2.1, K.2.2⟩
theorem k21_alloc {w W' : World} {o : Obj} {N : Nat} {n : Int} (K : w.grownBy W' none ∧ W'.cell? ⟨N, 1, none⟩ = some (.int .i64 n) ∧ N < W'.heap.size) : w.grownBy (W'.alloc o) none ∧ (W'.alloc o).cell? ⟨N, 1, none⟩ = some (.int .i64 n) ∧ N < (W'.alloc o).heap.size :=
  k21_call K (World.grownBy_alloc _ _ none)

set_option maxRecDepth 100000 in
set_option maxHeartbeats 4000000 in
theorem own_k21 (u : Un) (me n kc : Int) (pt pf : Option Addr) (ct cf B : Nat) (w : World) :
    Calls Try.prog 111 #[.agg #[.slice pt u.texts.length ct, .slice pf u.funcs.length cf], .int .i64 me, .agg #[.int .i64 21, .int .i64 n, .int .i64 kc]] w (LnsPost w (ownL u.texts me 21 n)) := by
  have G0 := Lib.hid (rgrow_two w (.cells #[.slice pt u.texts.length ct, .slice pf u.funcs.length cf] 25) (.cells #[.int .i64 21, .int .i64 n, .int .i64 kc] 108))
  have c1 : ((w.alloc (.cells #[.slice pt u.texts.length ct, .slice pf u.funcs.length cf] 25)).alloc (.cells #[.int .i64 21, .int .i64 n, .int .i64 kc] 108)).cell? ⟨w.heap.size + 1, 1, none⟩ = some (.int .i64 n) := by
    have := copy_new (w.alloc (.cells #[.slice pt u.texts.length ct, .slice pf u.funcs.length cf] 25)) 21 n kc
    rw [World.size_alloc] at this
    exact copy_1 this
  have c2 : w.heap.size + 1 < ((w.alloc (.cells #[.slice pt u.texts.length ct, .slice pf u.funcs.length cf] 25)).alloc (.cells #[.int .i64 21, .int .i64 n, .int .i64 kc] 108)).heap.size := World.block_lt_of_cell? _ _ c1
  have KK := Lib.hid (And.intro G0.out (And.intro c1 c2))
  clear c1 c2 G0
  go_enter Try.func111, Try.ntmps111
  go_wp2
  generalize (w.alloc (.cells #[.slice pt u.texts.length ct, .slice pf u.funcs.length cf] 25)).alloc (.cells #[.int .i64 21, .int .i64 n, .int .i64 kc] 108) = W at *
  have K0 := KK.out
  have S0 := Lib.hid (Nat.le_succ w.heap.size)
  generalize w.heap.size + 1 = N at *
  obtain ⟨K01, K02, K03⟩ := K0
  go_region_held3 (fun W' => w.grownBy W' none ∧ W'.cell? ⟨N, 1, none⟩ = some (.int .i64 n) ∧ N < W'.heap.size) (first | assumption | exact ⟨by assumption, by assumption, by assumption⟩ | exact k21_drew (by first | assumption | exact ⟨by assumption, by assumption, by assumption⟩) | exact k21_alloc (by first | assumption | exact ⟨by assumption, by assumption, by assumption⟩)) (first | (go_at_call 50; refine (line_raw _ _ _ _).mono ?_; rintro e wj ⟨rfl, hg⟩; have K9 := k21_call (by first | assumption | exact ⟨by assumption, by assumption, by assumption⟩ | exact k21_drew (by first | assumption | exact ⟨by assumption, by assumption, by assumption⟩)) hg; obtain ⟨K91, K92, K93⟩ := K9; have GJ := Lib.hid K91; clear hg))
  all_goals (go_wp2; go_ret; exact own_post2 GJ.out _ rfl rfl)

theorem own_any (u : Un) (hu : UnWF u) (hnt : u.texts.length ≤ 1024) (me k n kc : Int) (hk : 1 ≤ k ∧ k ≤ 26) (h5 : k ≠ 5) (h6 : k ≠ 6) (h7 : ¬ (k = 7 ∨ k = 8)) (h23 : k ≠ 23) (h24 : k ≠ 24) (ht : k = 14 ∨ k = 15 → 0 ≤ n ∧ n < u.texts.length) (pt pf : Option Addr) (ct cf B : Nat) (w : World) (hU : UnitAt w B pt pf u) :
    Calls Try.prog 111 #[.agg #[.slice pt u.texts.length ct, .slice pf u.funcs.length cf], .int .i64 me, .agg #[.int .i64 k, .int .i64 n, .int .i64 kc]] w (LnsPost w (ownL u.texts me k n)) := by
  have hc : k = 1 ∨ k = 2 ∨ k = 3 ∨ k = 4 ∨ k = 9 ∨ k = 10 ∨ k = 11 ∨ k = 12 ∨ k = 13 ∨ k = 14 ∨ k = 15 ∨ k = 16 ∨ k = 17 ∨ k = 18 ∨ k = 19 ∨ k = 20 ∨ k = 21 ∨ k = 22 ∨ k = 25 ∨ k = 26 := by omega
  rcases hc with rfl | rfl | rfl | rfl | rfl | rfl | rfl | rfl | rfl | rfl | rfl | rfl | rfl | rfl | rfl | rfl | rfl | rfl | rfl | rfl
  · exact own_k1 u hu hnt me n kc pt pf ct cf B w hU
  · exact own_k2 u hu hnt me n kc pt pf ct cf B w hU
  · exact own_k3 u hu hnt me n kc pt pf ct cf B w hU
  · exact own_k4 u hu hnt me n kc pt pf ct cf B w hU
  · exact own_k9 u hu hnt me n kc pt pf ct cf B w hU
  · exact own_k10 u hu hnt me n kc pt pf ct cf B w hU
  · exact own_k11 u hu hnt me n kc pt pf ct cf B w hU
  · exact own_k12 u hu hnt me n kc pt pf ct cf B w hU
  · exact own_k13 u hu hnt me n kc pt pf ct cf B w hU
  · exact own_k14 u hu hnt me n kc (ht (by omega)).1 (ht (by omega)).2 pt pf ct cf B w hU
  · exact own_k15 u hu hnt me n kc (ht (by omega)).1 (ht (by omega)).2 pt pf ct cf B w hU
  · exact own_k16 u hu hnt me n kc pt pf ct cf B w hU
  · exact own_k17 u hu hnt me n kc pt pf ct cf B w hU
  · exact own_k18 u hu hnt me n kc pt pf ct cf B w hU
  · exact own_k19 u hu hnt me n kc pt pf ct cf B w hU
  · exact own_k20 u hu hnt me n kc pt pf ct cf B w hU
  · exact own_k21 u me n kc pt pf ct cf B w
  · exact own_k22 u hu hnt me n kc pt pf ct cf B w hU
  · exact own_k25 u hu hnt me n kc pt pf ct cf B w hU
  · exact own_k26 u hu hnt me n kc pt pf ct cf B w hU

end Go.Proofs.Ytecaolkbllbokaa.TG

namespace Go.Proofs.Ytecaolkbllbokaa.TG
open Go.RowKit Go.Great
set_option linter.unusedSimpArgs false
set_option linter.unusedVariables false

/-- The unit, the function's parts, and where they and the compiler's state lie. -/
structure Lx where
  u : Un
  pt : Option Addr
  pf : Option Addr
  ct : Nat
  cf : Nat
  B : Nat
  Bc : Nat
  pp : Option Addr
  cp : Nat
  ps : List (Int × Int × Int)

def Lx.P (x : Lx) (g : Nat) : Nat → Rs := partR x.u.texts x.ps g

structure LxAt (x : Lx) (w : World) : Prop where
  un : UnitAt w x.B x.pt x.pf x.u
  pa : PartsB w x.B x.pp x.ps
  lb : x.B ≤ x.Bc

def CodR (x : Lx) (w : World) (a : Nat) (ov : Bool) : Prop := w.heap[x.Bc]? = some (.cells #[.slice x.pt x.u.texts.length x.ct, .slice x.pf x.u.funcs.length x.cf, .slice x.pp x.ps.length x.cp, .int .i64 (a : Int), .bool ov] 121 (0, 0))

theorem cod_lt {x : Lx} {w : World} {a : Nat} {ov : Bool} (h : CodR x w a ov) : x.Bc < w.heap.size := (Array.getElem?_eq_some_iff.1 h).1
theorem cod_cell {x : Lx} {w : World} {a : Nat} {ov : Bool} (h : CodR x w a ov) (j : Nat) : w.cell? ⟨x.Bc, j, none⟩ = (#[.slice x.pt x.u.texts.length x.ct, .slice x.pf x.u.funcs.length x.cf, .slice x.pp x.ps.length x.cp, .int .i64 (a : Int), .bool ov] : Array Value)[j]? := cell_of_row w x.Bc j _ _ _ h
theorem cod_0 {x : Lx} {w : World} {a : Nat} {ov : Bool} (h : CodR x w a ov) : w.cell? ⟨x.Bc, 0, none⟩ = some (.slice x.pt x.u.texts.length x.ct) := cod_cell h 0
theorem cod_1 {x : Lx} {w : World} {a : Nat} {ov : Bool} (h : CodR x w a ov) : w.cell? ⟨x.Bc, 1, none⟩ = some (.slice x.pf x.u.funcs.length x.cf) := cod_cell h 1
theorem cod_2 {x : Lx} {w : World} {a : Nat} {ov : Bool} (h : CodR x w a ov) : w.cell? ⟨x.Bc, 2, none⟩ = some (.slice x.pp x.ps.length x.cp) := cod_cell h 2
theorem cod_3 {x : Lx} {w : World} {a : Nat} {ov : Bool} (h : CodR x w a ov) : w.cell? ⟨x.Bc, 3, none⟩ = some (.int .i64 (a : Int)) := cod_cell h 3
theorem cod_4 {x : Lx} {w : World} {a : Nat} {ov : Bool} (h : CodR x w a ov) : w.cell? ⟨x.Bc, 4, none⟩ = some (.bool ov) := cod_cell h 4
theorem cod_z {x : Lx} {w : World} {a : Nat} {ov : Bool} (h : CodR x w a ov) (j : Nat) : w.frozen? ⟨x.Bc, j, none⟩ = false := frozen_of_row w x.Bc j _ _ h
theorem cod_kept {x : Lx} {w w' : World} {a : Nat} {ov : Bool} (h : CodR x w a ov) (g : w.grownBy w' none) : CodR x w' a ov := by
  unfold CodR at *
  rw [g.block x.Bc (cod_lt h) (by simp)]; exact h
theorem cod_at {x : Lx} {w : World} {a : Nat} {ov : Bool} (h : CodR x w a ov) (a' : Nat) : CodR x (w.setCell ⟨x.Bc, 3, none⟩ (.int .i64 ((a : Int) + 1))) (a + 1) ov := by
  unfold CodR at *
  rw [heap_setCell_same w x.Bc _ _ _ _ h]; simp
theorem cod_over {x : Lx} {w : World} {a : Nat} {ov : Bool} (h : CodR x w a ov) (b : Bool) : CodR x (w.setCell ⟨x.Bc, 4, none⟩ (.bool b)) a b := by
  unfold CodR at *
  rw [heap_setCell_same w x.Bc _ _ _ _ h]; rfl

theorem lx_kept {x : Lx} {w w' : World} {row : Option Nat} (h : LxAt x w) (g : w.grownBy w' row) (hr : ∀ r, row = some r → x.B ≤ r) : LxAt x w' := ⟨unitAt_kept h.un g hr, partsB_kept h.pa g hr, h.lb⟩
theorem lx_kept' {x : Lx} {w w' : World} (h : LxAt x w) (g : w.grownBy w' (some x.Bc)) : LxAt x w' := lx_kept h g fun r e => by injection e with e; have := h.lb; omega

/-- What part and next leave. -/
def NPost (x : Lx) (w : World) (r : Rs) (e : Ending) (w' : World) : Prop := ∃ v, e = .returned v ∧ LnsAt w' w.heap.size v r.1 ∧ w.grownBy w' (some x.Bc) ∧ CodR x w' r.2.2 r.2.1

theorem lns_keepB {w w' : World} {b Bc : Nat} {v : Value} {R : List Ln} (h : LnsAt w b v R) (g : w.grownBy w' (some Bc)) (hb : Bc < b) : LnsAt w' b v R :=
  h.kept g (by
    cases hv : v.ownBlock with
    | none => exact Or.inl rfl
    | some k => exact Or.inr (by have := (h.lt k hv).1; simp; omega))

/-- The contracts, as deep as g. -/
def PCon (x : Lx) (g : Nat) : Prop := ∀ (m a : Nat) (w : World), okP x.u.texts.length x.ps g m a → m ≤ 1000 → LxAt x w → CodR x w a false → Calls Try.prog 81 #[.pointer (some ⟨x.Bc, 0, none⟩)] w (NPost x w (x.P g a))
def NCon (x : Lx) (g : Nat) : Prop := ∀ (m a : Nat) (ov : Bool) (w : World), (ov = false → okP x.u.texts.length x.ps g m a) → m ≤ 1000 → LxAt x w → CodR x w a ov → Calls Try.prog 49 #[.pointer (some ⟨x.Bc, 0, none⟩)] w (NPost x w (nextR (x.P g) ov a))

theorem npost_nil {x : Lx} {w : World} {a : Nat} {P : Nat → Rs} (h : CodR x w a true) (e : Ending) (he : e = .returned (.slice none 0 0)) : NPost x w (nextR P true a) e w :=
  ⟨_, he, lns_nil _ _, grownBy_refl _ _, h⟩
theorem npost_over {x : Lx} {w w' : World} {r : Rs} {v : Value} (hl : LnsAt w' w.heap.size v r.1) (g : w.grownBy w' (some x.Bc)) (hc : CodR x w' r.2.2 r.2.1) (b : Bool) (hb : b = (r.2.1 || decide (4096 < r.1.length))) (hlt : x.Bc < w.heap.size) (e : Ending) (he : e = .returned v) :
    NPost x w (r.1, r.2.1 || decide (4096 < r.1.length), r.2.2) e (w'.setCell ⟨x.Bc, 4, none⟩ (.bool b)) := by
  subst hb
  exact ⟨_, he, lns_keepB hl (grownBy_set w' x.Bc 4 _) hlt, grownBy_trans g (grownBy_set w' x.Bc 4 _), cod_over hc _⟩

set_option maxRecDepth 100000 in
set_option maxHeartbeats 4000000 in
theorem next_con (x : Lx) (g : Nat) (hP : PCon x g) : NCon x g := by
  intro m a ov w hok hm hx hc
  have HC := Lib.hid hc
  have c4 := cod_4 hc
  have lt := cod_lt hc
  cases ov with
  | true =>
    clear hc hok hx
    go_enter Try.func49, Try.ntmps49
    go_wp2
    go_ret
    exact npost_nil HC.out _ rfl
  | false =>
    have PC := Lib.hid (hP m a w (hok rfl) hm hx hc)
    have HL := Lib.hid lt
    clear hc hok hx
    unfold nextR
    simp only [cond_false]
    generalize x.P g a = r at *
    cases hr : r.2.1 with
    | true =>
      have HR := Lib.hid hr
      clear hr
      go_enter Try.func49, Try.ntmps49
      go_wp2_with (go_at_call 81; refine PC.out.mono ?_; intro e w1 hq; obtain ⟨v, rfl, hl, hg, hcc⟩ := hq; obtain ⟨pv, cv, rfl⟩ := lns_slice hl; have L1 := Lib.hid hl; have G1 := Lib.hid hg; have C1 := Lib.hid hcc; have d4 := cod_4 hcc; rw [HR.out] at d4; have z4 := cod_z hcc 4; have lt1 := cod_lt hcc; clear hl hg hcc)
      go_ret
      have := npost_over L1.out G1.out C1.out true (by rw [HR.out]; rfl) HL.out _ rfl
      rw [HR.out] at this
      exact this
    | false =>
      have HR := Lib.hid hr
      clear hr
      go_enter Try.func49, Try.ntmps49
      go_wp2_with (go_at_call 81; refine PC.out.mono ?_; intro e w1 hq; obtain ⟨v, rfl, hl, hg, hcc⟩ := hq; obtain ⟨pv, cv, rfl⟩ := lns_slice hl; have L1 := Lib.hid hl; have G1 := Lib.hid hg; have C1 := Lib.hid hcc; have d4 := cod_4 hcc; rw [HR.out] at d4; have z4 := cod_z hcc 4; have lt1 := cod_lt hcc; clear hl hg hcc)
      go_ret
      have := npost_over L1.out G1.out C1.out (decide ((4096 : Int) < (r.1.length : Int))) (by rw [HR.out, Bool.false_or]; exact decide_eq_decide.2 (by omega)) HL.out _ rfl
      rw [HR.out] at this
      exact this

end Go.Proofs.Ytecaolkbllbokaa.TG
