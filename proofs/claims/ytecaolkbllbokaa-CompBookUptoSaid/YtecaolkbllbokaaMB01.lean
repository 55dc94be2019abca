/-
  Walks of package tongue's number, the tests of instructions. Conditions: as each theorem states.
-/
import Derived.Test.YtecaolkbllbokaaMB00
namespace Go.Proofs.Ytecaolkbllbokaa.TG
open Go.RowKit Go.Great
set_option linter.unusedSimpArgs false
set_option linter.unusedVariables false

set_option maxRecDepth 100000 in
set_option maxHeartbeats 2000000 in
theorem number_one (n kc : Int) (Bc : Nat) (w : World) :
    Calls Try.prog 114 #[.pointer (some ⟨Bc, 0, none⟩), .agg #[.int .i64 19, .int .i64 n, .int .i64 kc]] w fun e w' => e = .returned (.int .i64 (mayE (opn n == 1))) ∧ w.grownBy w' none := by
    have H := Lib.hid (has1_any n)
    have M := Lib.hid may_any
    generalize (opn n == 1) = v at *
    go_enter Try.func114, Try.ntmps114
    go_wp2_with (first | (go_at_call 137; refine (H.out _).mono ?_; rintro e w1 ⟨rfl, c, rfl⟩) | (go_at_call 136; refine (M.out _ _).mono ?_; rintro e w1 ⟨rfl, rfl⟩))
    go_ret
    exact ⟨rfl, grownBy_trans (World.grownBy_alloc _ _ _) (World.grownBy_alloc _ _ _)⟩

set_option maxRecDepth 100000 in
set_option maxHeartbeats 2000000 in
theorem number_two (n kc : Int) (Bc : Nat) (w : World) :
    Calls Try.prog 114 #[.pointer (some ⟨Bc, 0, none⟩), .agg #[.int .i64 20, .int .i64 n, .int .i64 kc]] w fun e w' => e = .returned (.int .i64 (mayE (opn n == 2))) ∧ w.grownBy w' none := by
    have H := Lib.hid (has2_any n)
    have M := Lib.hid may_any
    generalize (opn n == 2) = v at *
    go_enter Try.func114, Try.ntmps114
    go_wp2_with (first | (go_at_call 138; refine (H.out _).mono ?_; rintro e w1 ⟨rfl, c, rfl⟩) | (go_at_call 136; refine (M.out _ _).mono ?_; rintro e w1 ⟨rfl, rfl⟩))
    go_ret
    exact ⟨rfl, grownBy_trans (World.grownBy_alloc _ _ _) (World.grownBy_alloc _ _ _)⟩

set_option maxRecDepth 100000 in
set_option maxHeartbeats 2000000 in
theorem number_turn (n kc : Int) (Bc : Nat) (w : World) :
    Calls Try.prog 114 #[.pointer (some ⟨Bc, 0, none⟩), .agg #[.int .i64 21, .int .i64 n, .int .i64 kc]] w fun e w' => e = .returned (.int .i64 (mayE (n == 32 || n == 33 || n == 41))) ∧ w.grownBy w' none := by
    have M := Lib.hid may_any
    cases e1 : (n == 32) <;> cases e2 : (n == 33) <;> cases e3 : (n == 41)
    all_goals
      go_enter Try.func114, Try.ntmps114
      go_wp2_with (go_at_call 136; refine (M.out _ _).mono ?_; rintro e w1 ⟨rfl, rfl⟩)
      go_ret
      exact ⟨rfl, World.grownBy_alloc _ _ _⟩

end Go.Proofs.Ytecaolkbllbokaa.TG
