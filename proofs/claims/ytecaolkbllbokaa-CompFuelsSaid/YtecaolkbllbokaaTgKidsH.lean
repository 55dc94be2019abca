/-
  Walks of package tongue's kids at a call. Conditions: as each theorem states.
-/
import Derived.Test.YtecaolkbllbokaaTgKidsG
import Derived.Test.YtecaolkbllbokaaTgWant
import Derived.Deep.QuietTactic
import Derived.BigQuiet
namespace Go.Proofs.Ytecaolkbllbokaa.TG
open Go.RowKit Go.Great
set_option linter.unusedSimpArgs false
set_option linter.unusedVariables false

theorem sys_all (n : Nat) : ∃ (nm : ByteArray) (tk u : Int) (bb : Bool), ∀ w, Calls Try.prog 128 #[.int .i64 n] w fun e w' => e = .returned (.tuple #[.agg #[.string nm, .int .i64 0, .int .i64 tk, .int .i64 u], .bool bb]) ∧ w.grownBy w' none := by
  by_cases h : n < 5
  · exact ⟨_, _, _, _, fun w => sys_any n h w⟩
  · exact ⟨_, _, _, _, fun w => sys_out n (by omega) w⟩

set_option maxRecDepth 100000 in
set_option maxHeartbeats 2000000 in
theorem kids_k25 (n : Nat) (kc args : Int) (Bc bF oF nf cf : Nat) (hn : n < nf) (hnf : nf ≤ 1000000) (w : World) (hlt : Bc < w.heap.size) (hltF : bF < w.heap.size)
    (h1 : w.cell? ⟨Bc, 1, none⟩ = some (.slice (some ⟨bF, oF, none⟩) nf cf)) (ha : w.cell? ⟨bF, oF + n * 4 + 1, none⟩ = some (.int .i64 args)) :
    Calls Try.prog 115 #[.pointer (some ⟨Bc, 0, none⟩), .agg #[.int .i64 25, .int .i64 n, .int .i64 kc]] w fun e w' => e = .returned (.int .i64 (if kc = args then 0 else 174)) ∧ w.grownBy w' none := by
  obtain ⟨nm, tk, u, bb, S0⟩ := sys_all n
  have S := Lib.hid S0
  clear S0
  have hni : (n : Int) < (nf : Int) := by omega
  by_cases h : kc = args
  · rw [if_pos h]
    subst h
    go_enter Try.func115, Try.ntmps115
    go_wp2_with (go_at_call 128; refine (S.out _).mono ?_; rintro e w1 ⟨rfl, hg⟩; have HG := Lib.hid hg; have z0 := hg.cell (a := ⟨w.heap.size, 0, none⟩) (v := .int .i64 25) (by simp) (by simp); have z1 := hg.cell (a := ⟨w.heap.size, 1, none⟩) (v := .int .i64 n) (by simp) (by simp); have z2 := hg.cell (a := ⟨w.heap.size, 2, none⟩) (v := .int .i64 kc) (by simp) (by simp); have z3 := (grownBy_trans (World.grownBy_alloc w _ none) hg).cell h1 (by simp); have z4 := (grownBy_trans (World.grownBy_alloc w _ none) hg).cell ha (by simp); have hz := size_lt hg; have y1 := Nat.lt_trans hlt hz; have y2 := Nat.lt_trans hltF hz; clear hg)
    go_quiet (fail)
    go_wp2
    go_ret
    exact ⟨rfl, grownBy_trans (grownBy_trans (World.grownBy_alloc _ _ _) HG.out) (grownBy_quiet _ _ _)⟩
  · rw [if_neg h]
    have hb : (kc != args) = true := by simpa using h
    go_enter Try.func115, Try.ntmps115
    go_wp2_with (go_at_call 128; refine (S.out _).mono ?_; rintro e w1 ⟨rfl, hg⟩; have HG := Lib.hid hg; have z0 := hg.cell (a := ⟨w.heap.size, 0, none⟩) (v := .int .i64 25) (by simp) (by simp); have z1 := hg.cell (a := ⟨w.heap.size, 1, none⟩) (v := .int .i64 n) (by simp) (by simp); have z2 := hg.cell (a := ⟨w.heap.size, 2, none⟩) (v := .int .i64 kc) (by simp) (by simp); have z3 := (grownBy_trans (World.grownBy_alloc w _ none) hg).cell h1 (by simp); have z4 := (grownBy_trans (World.grownBy_alloc w _ none) hg).cell ha (by simp); have hz := size_lt hg; have y1 := Nat.lt_trans hlt hz; have y2 := Nat.lt_trans hltF hz; clear hg)
    go_quiet (fail)
    go_wp2
    go_ret
    exact ⟨rfl, grownBy_trans (grownBy_trans (World.grownBy_alloc _ _ _) HG.out) (grownBy_quiet _ _ _)⟩

end Go.Proofs.Ytecaolkbllbokaa.TG
