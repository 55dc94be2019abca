/-
  The reference's compiler: own, for single kinds of parts. Conditions: as each theorem states.
  The reference's compiler: own, for single kinds of parts. Conditions: as each theorem states.
  The reference's compiler: own, for single kinds of parts. Conditions: as each theorem states.
-/
import Derived.Test.YtecaolkbllbokaaMA26
namespace Go.Proofs.Ytecaolkbllbokaa.TG
open Go.RowKit Go.Great
set_option linter.unusedSimpArgs false
set_option linter.unusedVariables false

set_option maxRecDepth 100000 in
set_option maxHeartbeats 4000000 in
theorem own_k2 (u : Un) (hu : UnWF u) (hnt : u.texts.length ≤ 1024) (me n kc : Int) (pt pf : Option Addr) (ct cf B : Nat) (w : World) (hU : UnitAt w B pt pf u) :
    Calls Try.prog 111 #[.agg #[.slice pt u.texts.length ct, .slice pf u.funcs.length cf], .int .i64 me, .agg #[.int .i64 2, .int .i64 n, .int .i64 kc]] w (LnsPost w (ownL u.texts me 2 n)) := by
  have UU := Lib.hid hU
  have G0 := Lib.hid (rgrow_two w (.cells #[.slice pt u.texts.length ct, .slice pf u.funcs.length cf] 25) (.cells #[.int .i64 2, .int .i64 n, .int .i64 kc] 108))
  clear hU
  go_enter Try.func111, Try.ntmps111
  go_wp2_with ((go_at_call 50; refine (line_raw _ _ _ _).mono ?_; rintro e wj ⟨rfl, hg⟩; first | (have G2 := Lib.hid (grownBy_trans G1.out hg); clear G1 hg) | (have G1 := Lib.hid (grownBy_trans G0.out hg); clear G0 hg)))
  go_ret
  exact own_post G1.out _ rfl rfl

set_option maxRecDepth 100000 in
set_option maxHeartbeats 4000000 in
theorem own_k3 (u : Un) (hu : UnWF u) (hnt : u.texts.length ≤ 1024) (me n kc : Int) (pt pf : Option Addr) (ct cf B : Nat) (w : World) (hU : UnitAt w B pt pf u) :
    Calls Try.prog 111 #[.agg #[.slice pt u.texts.length ct, .slice pf u.funcs.length cf], .int .i64 me, .agg #[.int .i64 3, .int .i64 n, .int .i64 kc]] w (LnsPost w (ownL u.texts me 3 n)) := by
  have UU := Lib.hid hU
  have G0 := Lib.hid (rgrow_two w (.cells #[.slice pt u.texts.length ct, .slice pf u.funcs.length cf] 25) (.cells #[.int .i64 3, .int .i64 n, .int .i64 kc] 108))
  clear hU
  go_enter Try.func111, Try.ntmps111
  go_wp2_with ((go_at_call 50; refine (line_raw _ _ _ _).mono ?_; rintro e wj ⟨rfl, hg⟩; first | (have G2 := Lib.hid (grownBy_trans G1.out hg); clear G1 hg) | (have G1 := Lib.hid (grownBy_trans G0.out hg); clear G0 hg)))
  go_ret
  exact own_post G1.out _ rfl rfl

set_option maxRecDepth 100000 in
set_option maxHeartbeats 4000000 in
theorem own_k4 (u : Un) (hu : UnWF u) (hnt : u.texts.length ≤ 1024) (me n kc : Int) (pt pf : Option Addr) (ct cf B : Nat) (w : World) (hU : UnitAt w B pt pf u) :
    Calls Try.prog 111 #[.agg #[.slice pt u.texts.length ct, .slice pf u.funcs.length cf], .int .i64 me, .agg #[.int .i64 4, .int .i64 n, .int .i64 kc]] w (LnsPost w (ownL u.texts me 4 n)) := by
  have UU := Lib.hid hU
  have G0 := Lib.hid (rgrow_two w (.cells #[.slice pt u.texts.length ct, .slice pf u.funcs.length cf] 25) (.cells #[.int .i64 4, .int .i64 n, .int .i64 kc] 108))
  clear hU
  go_enter Try.func111, Try.ntmps111
  go_wp2_with ((go_at_call 50; refine (line_raw _ _ _ _).mono ?_; rintro e wj ⟨rfl, hg⟩; first | (have G2 := Lib.hid (grownBy_trans G1.out hg); clear G1 hg) | (have G1 := Lib.hid (grownBy_trans G0.out hg); clear G0 hg)))
  go_ret
  exact own_post G1.out _ rfl rfl

set_option maxRecDepth 100000 in
set_option maxHeartbeats 4000000 in
theorem own_k9 (u : Un) (hu : UnWF u) (hnt : u.texts.length ≤ 1024) (me n kc : Int) (pt pf : Option Addr) (ct cf B : Nat) (w : World) (hU : UnitAt w B pt pf u) :
    Calls Try.prog 111 #[.agg #[.slice pt u.texts.length ct, .slice pf u.funcs.length cf], .int .i64 me, .agg #[.int .i64 9, .int .i64 n, .int .i64 kc]] w (LnsPost w (ownL u.texts me 9 n)) := by
  have UU := Lib.hid hU
  have G0 := Lib.hid (rgrow_two w (.cells #[.slice pt u.texts.length ct, .slice pf u.funcs.length cf] 25) (.cells #[.int .i64 9, .int .i64 n, .int .i64 kc] 108))
  clear hU
  go_enter Try.func111, Try.ntmps111
  go_wp2_with ((go_at_call 50; refine (line_raw _ _ _ _).mono ?_; rintro e wj ⟨rfl, hg⟩; first | (have G2 := Lib.hid (grownBy_trans G1.out hg); clear G1 hg) | (have G1 := Lib.hid (grownBy_trans G0.out hg); clear G0 hg)))
  go_ret
  exact own_post G1.out _ rfl rfl

set_option maxRecDepth 100000 in
set_option maxHeartbeats 4000000 in
theorem own_k10 (u : Un) (hu : UnWF u) (hnt : u.texts.length ≤ 1024) (me n kc : Int) (pt pf : Option Addr) (ct cf B : Nat) (w : World) (hU : UnitAt w B pt pf u) :
    Calls Try.prog 111 #[.agg #[.slice pt u.texts.length ct, .slice pf u.funcs.length cf], .int .i64 me, .agg #[.int .i64 10, .int .i64 n, .int .i64 kc]] w (LnsPost w (ownL u.texts me 10 n)) := by
  have UU := Lib.hid hU
  have G0 := Lib.hid (rgrow_two w (.cells #[.slice pt u.texts.length ct, .slice pf u.funcs.length cf] 25) (.cells #[.int .i64 10, .int .i64 n, .int .i64 kc] 108))
  clear hU
  go_enter Try.func111, Try.ntmps111
  go_wp2_with ((go_at_call 50; refine (line_raw _ _ _ _).mono ?_; rintro e wj ⟨rfl, hg⟩; first | (have G2 := Lib.hid (grownBy_trans G1.out hg); clear G1 hg) | (have G1 := Lib.hid (grownBy_trans G0.out hg); clear G0 hg)))
  go_ret
  exact own_post G1.out _ rfl rfl

set_option maxRecDepth 100000 in
set_option maxHeartbeats 4000000 in
theorem own_k11 (u : Un) (hu : UnWF u) (hnt : u.texts.length ≤ 1024) (me n kc : Int) (pt pf : Option Addr) (ct cf B : Nat) (w : World) (hU : UnitAt w B pt pf u) :
    Calls Try.prog 111 #[.agg #[.slice pt u.texts.length ct, .slice pf u.funcs.length cf], .int .i64 me, .agg #[.int .i64 11, .int .i64 n, .int .i64 kc]] w (LnsPost w (ownL u.texts me 11 n)) := by
  have UU := Lib.hid hU
  have G0 := Lib.hid (rgrow_two w (.cells #[.slice pt u.texts.length ct, .slice pf u.funcs.length cf] 25) (.cells #[.int .i64 11, .int .i64 n, .int .i64 kc] 108))
  clear hU
  go_enter Try.func111, Try.ntmps111
  go_wp2_with ((go_at_call 50; refine (line_raw _ _ _ _).mono ?_; rintro e wj ⟨rfl, hg⟩; first | (have G2 := Lib.hid (grownBy_trans G1.out hg); clear G1 hg) | (have G1 := Lib.hid (grownBy_trans G0.out hg); clear G0 hg)))
  go_ret
  exact own_post G1.out _ rfl rfl

set_option maxRecDepth 100000 in
set_option maxHeartbeats 4000000 in
theorem own_k12 (u : Un) (hu : UnWF u) (hnt : u.texts.length ≤ 1024) (me n kc : Int) (pt pf : Option Addr) (ct cf B : Nat) (w : World) (hU : UnitAt w B pt pf u) :
    Calls Try.prog 111 #[.agg #[.slice pt u.texts.length ct, .slice pf u.funcs.length cf], .int .i64 me, .agg #[.int .i64 12, .int .i64 n, .int .i64 kc]] w (LnsPost w (ownL u.texts me 12 n)) := by
  have UU := Lib.hid hU
  have G0 := Lib.hid (rgrow_two w (.cells #[.slice pt u.texts.length ct, .slice pf u.funcs.length cf] 25) (.cells #[.int .i64 12, .int .i64 n, .int .i64 kc] 108))
  clear hU
  go_enter Try.func111, Try.ntmps111
  go_wp2_with ((go_at_call 50; refine (line_raw _ _ _ _).mono ?_; rintro e wj ⟨rfl, hg⟩; first | (have G2 := Lib.hid (grownBy_trans G1.out hg); clear G1 hg) | (have G1 := Lib.hid (grownBy_trans G0.out hg); clear G0 hg)))
  go_ret
  exact own_post G1.out _ rfl rfl

set_option maxRecDepth 100000 in
set_option maxHeartbeats 4000000 in
theorem own_k13 (u : Un) (hu : UnWF u) (hnt : u.texts.length ≤ 1024) (me n kc : Int) (pt pf : Option Addr) (ct cf B : Nat) (w : World) (hU : UnitAt w B pt pf u) :
    Calls Try.prog 111 #[.agg #[.slice pt u.texts.length ct, .slice pf u.funcs.length cf], .int .i64 me, .agg #[.int .i64 13, .int .i64 n, .int .i64 kc]] w (LnsPost w (ownL u.texts me 13 n)) := by
  have UU := Lib.hid hU
  have G0 := Lib.hid (rgrow_two w (.cells #[.slice pt u.texts.length ct, .slice pf u.funcs.length cf] 25) (.cells #[.int .i64 13, .int .i64 n, .int .i64 kc] 108))
  clear hU
  go_enter Try.func111, Try.ntmps111
  go_wp2_with ((go_at_call 50; refine (line_raw _ _ _ _).mono ?_; rintro e wj ⟨rfl, hg⟩; first | (have G2 := Lib.hid (grownBy_trans G1.out hg); clear G1 hg) | (have G1 := Lib.hid (grownBy_trans G0.out hg); clear G0 hg)))
  go_ret
  exact own_post G1.out _ rfl rfl

end Go.Proofs.Ytecaolkbllbokaa.TG

namespace Go.Proofs.Ytecaolkbllbokaa.TG
open Go.RowKit Go.Great
set_option linter.unusedSimpArgs false
set_option linter.unusedVariables false

set_option maxRecDepth 100000 in
set_option maxHeartbeats 4000000 in
theorem own_k14 (u : Un) (hu : UnWF u) (hnt : u.texts.length ≤ 1024) (me n kc : Int) (hn0 : 0 ≤ n) (hn : n < u.texts.length) (pt pf : Option Addr) (ct cf B : Nat) (w : World) (hU : UnitAt w B pt pf u) :
    Calls Try.prog 111 #[.agg #[.slice pt u.texts.length ct, .slice pf u.funcs.length cf], .int .i64 me, .agg #[.int .i64 14, .int .i64 n, .int .i64 kc]] w (LnsPost w (ownL u.texts me 14 n)) := by
  have UU := Lib.hid hU
  have G0 := Lib.hid (rgrow_two w (.cells #[.slice pt u.texts.length ct, .slice pf u.funcs.length cf] 25) (.cells #[.int .i64 14, .int .i64 n, .int .i64 kc] 108))
  clear hU
  go_enter Try.func111, Try.ntmps111
  go_wp2_with (first | (go_at_call 50; refine (line_raw _ _ _ _).mono ?_; rintro e wj ⟨rfl, hg⟩; first | (have G2 := Lib.hid (grownBy_trans G1.out hg); clear G1 hg) | (have G1 := Lib.hid (grownBy_trans G0.out hg); clear G0 hg)) | (go_at_call 29; refine (ahead_any u hu hnt n hn0 (by omega) pt pf ct cf B _ (unitAt_kept UU.out G0.out (by simp))).mono ?_; rintro e wa ⟨rfl, hg⟩; have GA := Lib.hid (grownBy_trans G0.out hg); clear G0 hg; have G0 := GA; clear GA))
  go_ret
  exact own_post G1.out _ rfl rfl

set_option maxRecDepth 100000 in
set_option maxHeartbeats 4000000 in
theorem own_k15 (u : Un) (hu : UnWF u) (hnt : u.texts.length ≤ 1024) (me n kc : Int) (hn0 : 0 ≤ n) (hn : n < u.texts.length) (pt pf : Option Addr) (ct cf B : Nat) (w : World) (hU : UnitAt w B pt pf u) :
    Calls Try.prog 111 #[.agg #[.slice pt u.texts.length ct, .slice pf u.funcs.length cf], .int .i64 me, .agg #[.int .i64 15, .int .i64 n, .int .i64 kc]] w (LnsPost w (ownL u.texts me 15 n)) := by
  have UU := Lib.hid hU
  obtain ⟨bt, ot, rfl, hbt, hct⟩ := hU.texts (by omega)
  obtain ⟨i, rfl⟩ : ∃ i : Nat, n = (i : Int) := ⟨n.toNat, by omega⟩
  obtain ⟨⟨nm, d⟩, hd⟩ : ∃ x, u.texts[i]? = some x := ⟨_, List.getElem?_eq_getElem (by omega)⟩
  obtain ⟨_, pd, cd, e1, _⟩ := hct i nm d hd
  have hle := hU.le
  have hbw : bt < w.heap.size := by omega
  have hE : finG u.texts 15 (i : Int) = [(3, (d.length : Int))] := by
    unfold finG; simp [List.getD, hd]
  have E15 := Lib.hid hE
  clear hct hd hE
  have G0 := Lib.hid (rgrow_two w (.cells #[.slice (some ⟨bt, ot, none⟩) u.texts.length ct, .slice pf u.funcs.length cf] 25) (.cells #[.int .i64 15, .int .i64 i, .int .i64 kc] 108))
  clear hU
  go_enter Try.func111, Try.ntmps111
  go_wp2_with ((go_at_call 50; refine (line_raw _ _ _ _).mono ?_; rintro e wj ⟨rfl, hg⟩; first | (have G2 := Lib.hid (grownBy_trans G1.out hg); clear G1 hg) | (have G1 := Lib.hid (grownBy_trans G0.out hg); clear G0 hg)))
  go_ret
  exact own_post G1.out _ E15.out rfl

set_option maxRecDepth 100000 in
set_option maxHeartbeats 4000000 in
theorem own_k16 (u : Un) (hu : UnWF u) (hnt : u.texts.length ≤ 1024) (me n kc : Int) (pt pf : Option Addr) (ct cf B : Nat) (w : World) (hU : UnitAt w B pt pf u) :
    Calls Try.prog 111 #[.agg #[.slice pt u.texts.length ct, .slice pf u.funcs.length cf], .int .i64 me, .agg #[.int .i64 16, .int .i64 n, .int .i64 kc]] w (LnsPost w (ownL u.texts me 16 n)) := by
  have UU := Lib.hid hU
  have G0 := Lib.hid (rgrow_two w (.cells #[.slice pt u.texts.length ct, .slice pf u.funcs.length cf] 25) (.cells #[.int .i64 16, .int .i64 n, .int .i64 kc] 108))
  clear hU
  go_enter Try.func111, Try.ntmps111
  go_wp2_with ((go_at_call 50; refine (line_raw _ _ _ _).mono ?_; rintro e wj ⟨rfl, hg⟩; first | (have G2 := Lib.hid (grownBy_trans G1.out hg); clear G1 hg) | (have G1 := Lib.hid (grownBy_trans G0.out hg); clear G0 hg)))
  go_ret
  exact own_post G1.out _ rfl rfl

set_option maxRecDepth 100000 in
set_option maxHeartbeats 4000000 in
theorem own_k17 (u : Un) (hu : UnWF u) (hnt : u.texts.length ≤ 1024) (me n kc : Int) (pt pf : Option Addr) (ct cf B : Nat) (w : World) (hU : UnitAt w B pt pf u) :
    Calls Try.prog 111 #[.agg #[.slice pt u.texts.length ct, .slice pf u.funcs.length cf], .int .i64 me, .agg #[.int .i64 17, .int .i64 n, .int .i64 kc]] w (LnsPost w (ownL u.texts me 17 n)) := by
  have UU := Lib.hid hU
  have G0 := Lib.hid (rgrow_two w (.cells #[.slice pt u.texts.length ct, .slice pf u.funcs.length cf] 25) (.cells #[.int .i64 17, .int .i64 n, .int .i64 kc] 108))
  clear hU
  go_enter Try.func111, Try.ntmps111
  go_wp2_with ((go_at_call 50; refine (line_raw _ _ _ _).mono ?_; rintro e wj ⟨rfl, hg⟩; first | (have G2 := Lib.hid (grownBy_trans G1.out hg); clear G1 hg) | (have G1 := Lib.hid (grownBy_trans G0.out hg); clear G0 hg)))
  go_ret
  exact own_post G1.out _ rfl rfl

set_option maxRecDepth 100000 in
set_option maxHeartbeats 4000000 in
theorem own_k18 (u : Un) (hu : UnWF u) (hnt : u.texts.length ≤ 1024) (me n kc : Int) (pt pf : Option Addr) (ct cf B : Nat) (w : World) (hU : UnitAt w B pt pf u) :
    Calls Try.prog 111 #[.agg #[.slice pt u.texts.length ct, .slice pf u.funcs.length cf], .int .i64 me, .agg #[.int .i64 18, .int .i64 n, .int .i64 kc]] w (LnsPost w (ownL u.texts me 18 n)) := by
  have UU := Lib.hid hU
  have G0 := Lib.hid (rgrow_two w (.cells #[.slice pt u.texts.length ct, .slice pf u.funcs.length cf] 25) (.cells #[.int .i64 18, .int .i64 n, .int .i64 kc] 108))
  clear hU
  go_enter Try.func111, Try.ntmps111
  go_wp2_with ((go_at_call 50; refine (line_raw _ _ _ _).mono ?_; rintro e wj ⟨rfl, hg⟩; first | (have G2 := Lib.hid (grownBy_trans G1.out hg); clear G1 hg) | (have G1 := Lib.hid (grownBy_trans G0.out hg); clear G0 hg)))
  go_ret
  exact own_post G1.out _ rfl rfl

set_option maxRecDepth 100000 in
set_option maxHeartbeats 4000000 in
theorem own_k19 (u : Un) (hu : UnWF u) (hnt : u.texts.length ≤ 1024) (me n kc : Int) (pt pf : Option Addr) (ct cf B : Nat) (w : World) (hU : UnitAt w B pt pf u) :
    Calls Try.prog 111 #[.agg #[.slice pt u.texts.length ct, .slice pf u.funcs.length cf], .int .i64 me, .agg #[.int .i64 19, .int .i64 n, .int .i64 kc]] w (LnsPost w (ownL u.texts me 19 n)) := by
  have UU := Lib.hid hU
  have G0 := Lib.hid (rgrow_two w (.cells #[.slice pt u.texts.length ct, .slice pf u.funcs.length cf] 25) (.cells #[.int .i64 19, .int .i64 n, .int .i64 kc] 108))
  clear hU
  go_enter Try.func111, Try.ntmps111
  go_wp2_with ((go_at_call 50; refine (line_raw _ _ _ _).mono ?_; rintro e wj ⟨rfl, hg⟩; first | (have G2 := Lib.hid (grownBy_trans G1.out hg); clear G1 hg) | (have G1 := Lib.hid (grownBy_trans G0.out hg); clear G0 hg)))
  go_ret
  exact own_post G1.out _ rfl rfl

set_option maxRecDepth 100000 in
set_option maxHeartbeats 4000000 in
theorem own_k20 (u : Un) (hu : UnWF u) (hnt : u.texts.length ≤ 1024) (me n kc : Int) (pt pf : Option Addr) (ct cf B : Nat) (w : World) (hU : UnitAt w B pt pf u) :
    Calls Try.prog 111 #[.agg #[.slice pt u.texts.length ct, .slice pf u.funcs.length cf], .int .i64 me, .agg #[.int .i64 20, .int .i64 n, .int .i64 kc]] w (LnsPost w (ownL u.texts me 20 n)) := by
  have UU := Lib.hid hU
  have G0 := Lib.hid (rgrow_two w (.cells #[.slice pt u.texts.length ct, .slice pf u.funcs.length cf] 25) (.cells #[.int .i64 20, .int .i64 n, .int .i64 kc] 108))
  clear hU
  go_enter Try.func111, Try.ntmps111
  go_wp2_with ((go_at_call 50; refine (line_raw _ _ _ _).mono ?_; rintro e wj ⟨rfl, hg⟩; first | (have G2 := Lib.hid (grownBy_trans G1.out hg); clear G1 hg) | (have G1 := Lib.hid (grownBy_trans G0.out hg); clear G0 hg)))
  go_ret
  exact own_post G1.out _ rfl rfl

end Go.Proofs.Ytecaolkbllbokaa.TG

namespace Go.Proofs.Ytecaolkbllbokaa.TG
open Go.RowKit Go.Great
set_option linter.unusedSimpArgs false
set_option linter.unusedVariables false

set_option maxRecDepth 100000 in
set_option maxHeartbeats 4000000 in
theorem own_k22 (u : Un) (hu : UnWF u) (hnt : u.texts.length ≤ 1024) (me n kc : Int) (pt pf : Option Addr) (ct cf B : Nat) (w : World) (hU : UnitAt w B pt pf u) :
    Calls Try.prog 111 #[.agg #[.slice pt u.texts.length ct, .slice pf u.funcs.length cf], .int .i64 me, .agg #[.int .i64 22, .int .i64 n, .int .i64 kc]] w (LnsPost w (ownL u.texts me 22 n)) := by
  have UU := Lib.hid hU
  have G0 := Lib.hid (rgrow_two w (.cells #[.slice pt u.texts.length ct, .slice pf u.funcs.length cf] 25) (.cells #[.int .i64 22, .int .i64 n, .int .i64 kc] 108))
  clear hU
  go_enter Try.func111, Try.ntmps111
  go_wp2_with ((go_at_call 50; refine (line_raw _ _ _ _).mono ?_; rintro e wj ⟨rfl, hg⟩; first | (have G2 := Lib.hid (grownBy_trans G1.out hg); clear G1 hg) | (have G1 := Lib.hid (grownBy_trans G0.out hg); clear G0 hg)))
  go_ret
  exact own_post2 G2.out _ rfl rfl

set_option maxRecDepth 100000 in
set_option maxHeartbeats 4000000 in
theorem own_k25 (u : Un) (hu : UnWF u) (hnt : u.texts.length ≤ 1024) (me n kc : Int) (pt pf : Option Addr) (ct cf B : Nat) (w : World) (hU : UnitAt w B pt pf u) :
    Calls Try.prog 111 #[.agg #[.slice pt u.texts.length ct, .slice pf u.funcs.length cf], .int .i64 me, .agg #[.int .i64 25, .int .i64 n, .int .i64 kc]] w (LnsPost w (ownL u.texts me 25 n)) := by
  have UU := Lib.hid hU
  have G0 := Lib.hid (rgrow_two w (.cells #[.slice pt u.texts.length ct, .slice pf u.funcs.length cf] 25) (.cells #[.int .i64 25, .int .i64 n, .int .i64 kc] 108))
  clear hU
  go_enter Try.func111, Try.ntmps111
  go_wp2_with ((go_at_call 50; refine (line_raw _ _ _ _).mono ?_; rintro e wj ⟨rfl, hg⟩; first | (have G2 := Lib.hid (grownBy_trans G1.out hg); clear G1 hg) | (have G1 := Lib.hid (grownBy_trans G0.out hg); clear G0 hg)))
  go_ret
  exact own_post G1.out _ rfl rfl

set_option maxRecDepth 100000 in
set_option maxHeartbeats 4000000 in
theorem own_k26 (u : Un) (hu : UnWF u) (hnt : u.texts.length ≤ 1024) (me n kc : Int) (pt pf : Option Addr) (ct cf B : Nat) (w : World) (hU : UnitAt w B pt pf u) :
    Calls Try.prog 111 #[.agg #[.slice pt u.texts.length ct, .slice pf u.funcs.length cf], .int .i64 me, .agg #[.int .i64 26, .int .i64 n, .int .i64 kc]] w (LnsPost w (ownL u.texts me 26 n)) := by
  have UU := Lib.hid hU
  have G0 := Lib.hid (rgrow_two w (.cells #[.slice pt u.texts.length ct, .slice pf u.funcs.length cf] 25) (.cells #[.int .i64 26, .int .i64 n, .int .i64 kc] 108))
  clear hU
  go_enter Try.func111, Try.ntmps111
  go_wp2_with ((go_at_call 50; refine (line_raw _ _ _ _).mono ?_; rintro e wj ⟨rfl, hg⟩; first | (have G2 := Lib.hid (grownBy_trans G1.out hg); clear G1 hg) | (have G1 := Lib.hid (grownBy_trans G0.out hg); clear G0 hg)))
  go_ret
  exact own_post G1.out _ rfl rfl

set_option maxRecDepth 100000 in
set_option maxHeartbeats 4000000 in
theorem own_k1 (u : Un) (hu : UnWF u) (hnt : u.texts.length ≤ 1024) (me n kc : Int) (pt pf : Option Addr) (ct cf B : Nat) (w : World) (hU : UnitAt w B pt pf u) :
    Calls Try.prog 111 #[.agg #[.slice pt u.texts.length ct, .slice pf u.funcs.length cf], .int .i64 me, .agg #[.int .i64 1, .int .i64 n, .int .i64 kc]] w (LnsPost w (ownL u.texts me 1 n)) := by
  have UU := Lib.hid hU
  have G0 := Lib.hid (rgrow_two w (.cells #[.slice pt u.texts.length ct, .slice pf u.funcs.length cf] 25) (.cells #[.int .i64 1, .int .i64 n, .int .i64 kc] 108))
  clear hU
  go_enter Try.func111, Try.ntmps111
  go_wp2
  go_ret
  exact own_nil G0.out _ rfl rfl

end Go.Proofs.Ytecaolkbllbokaa.TG
