/-
  Walks of package tongue's number, the kinds that want no number. Conditions: as each theorem states.
-/
import Derived.Test.YtecaolkbllbokaaMB00
namespace Go.Proofs.Ytecaolkbllbokaa.TG
open Go.RowKit Go.Great
set_option linter.unusedSimpArgs false
set_option linter.unusedVariables false

set_option maxRecDepth 100000 in
set_option maxHeartbeats 1000000 in
theorem number_none1 (n kc : Int) (Bc : Nat) (w : World) :
    Calls Try.prog 114 #[.pointer (some ⟨Bc, 0, none⟩), .agg #[.int .i64 1, .int .i64 n, .int .i64 kc]] w fun e w' => e = .returned (.int .i64 (mayE (n == 0))) ∧ w.grownBy w' none := by
    have M := Lib.hid may_any
    go_enter Try.func114, Try.ntmps114
    go_wp2_with (go_at_call 136; refine (M.out _ _).mono ?_; rintro e w1 ⟨rfl, rfl⟩)
    go_ret
    exact ⟨rfl, World.grownBy_alloc _ _ _⟩

set_option maxRecDepth 100000 in
set_option maxHeartbeats 1000000 in
theorem number_none3 (n kc : Int) (Bc : Nat) (w : World) :
    Calls Try.prog 114 #[.pointer (some ⟨Bc, 0, none⟩), .agg #[.int .i64 3, .int .i64 n, .int .i64 kc]] w fun e w' => e = .returned (.int .i64 (mayE (n == 0))) ∧ w.grownBy w' none := by
    have M := Lib.hid may_any
    go_enter Try.func114, Try.ntmps114
    go_wp2_with (go_at_call 136; refine (M.out _ _).mono ?_; rintro e w1 ⟨rfl, rfl⟩)
    go_ret
    exact ⟨rfl, World.grownBy_alloc _ _ _⟩

set_option maxRecDepth 100000 in
set_option maxHeartbeats 1000000 in
theorem number_none4 (n kc : Int) (Bc : Nat) (w : World) :
    Calls Try.prog 114 #[.pointer (some ⟨Bc, 0, none⟩), .agg #[.int .i64 4, .int .i64 n, .int .i64 kc]] w fun e w' => e = .returned (.int .i64 (mayE (n == 0))) ∧ w.grownBy w' none := by
    have M := Lib.hid may_any
    go_enter Try.func114, Try.ntmps114
    go_wp2_with (go_at_call 136; refine (M.out _ _).mono ?_; rintro e w1 ⟨rfl, rfl⟩)
    go_ret
    exact ⟨rfl, World.grownBy_alloc _ _ _⟩

set_option maxRecDepth 100000 in
set_option maxHeartbeats 1000000 in
theorem number_none5 (n kc : Int) (Bc : Nat) (w : World) :
    Calls Try.prog 114 #[.pointer (some ⟨Bc, 0, none⟩), .agg #[.int .i64 5, .int .i64 n, .int .i64 kc]] w fun e w' => e = .returned (.int .i64 (mayE (n == 0))) ∧ w.grownBy w' none := by
    have M := Lib.hid may_any
    go_enter Try.func114, Try.ntmps114
    go_wp2_with (go_at_call 136; refine (M.out _ _).mono ?_; rintro e w1 ⟨rfl, rfl⟩)
    go_ret
    exact ⟨rfl, World.grownBy_alloc _ _ _⟩

set_option maxRecDepth 100000 in
set_option maxHeartbeats 1000000 in
theorem number_none6 (n kc : Int) (Bc : Nat) (w : World) :
    Calls Try.prog 114 #[.pointer (some ⟨Bc, 0, none⟩), .agg #[.int .i64 6, .int .i64 n, .int .i64 kc]] w fun e w' => e = .returned (.int .i64 (mayE (n == 0))) ∧ w.grownBy w' none := by
    have M := Lib.hid may_any
    go_enter Try.func114, Try.ntmps114
    go_wp2_with (go_at_call 136; refine (M.out _ _).mono ?_; rintro e w1 ⟨rfl, rfl⟩)
    go_ret
    exact ⟨rfl, World.grownBy_alloc _ _ _⟩

set_option maxRecDepth 100000 in
set_option maxHeartbeats 1000000 in
theorem number_none9 (n kc : Int) (Bc : Nat) (w : World) :
    Calls Try.prog 114 #[.pointer (some ⟨Bc, 0, none⟩), .agg #[.int .i64 9, .int .i64 n, .int .i64 kc]] w fun e w' => e = .returned (.int .i64 (mayE (n == 0))) ∧ w.grownBy w' none := by
    have M := Lib.hid may_any
    go_enter Try.func114, Try.ntmps114
    go_wp2_with (go_at_call 136; refine (M.out _ _).mono ?_; rintro e w1 ⟨rfl, rfl⟩)
    go_ret
    exact ⟨rfl, World.grownBy_alloc _ _ _⟩

set_option maxRecDepth 100000 in
set_option maxHeartbeats 1000000 in
theorem number_none10 (n kc : Int) (Bc : Nat) (w : World) :
    Calls Try.prog 114 #[.pointer (some ⟨Bc, 0, none⟩), .agg #[.int .i64 10, .int .i64 n, .int .i64 kc]] w fun e w' => e = .returned (.int .i64 (mayE (n == 0))) ∧ w.grownBy w' none := by
    have M := Lib.hid may_any
    go_enter Try.func114, Try.ntmps114
    go_wp2_with (go_at_call 136; refine (M.out _ _).mono ?_; rintro e w1 ⟨rfl, rfl⟩)
    go_ret
    exact ⟨rfl, World.grownBy_alloc _ _ _⟩

set_option maxRecDepth 100000 in
set_option maxHeartbeats 1000000 in
theorem number_none11 (n kc : Int) (Bc : Nat) (w : World) :
    Calls Try.prog 114 #[.pointer (some ⟨Bc, 0, none⟩), .agg #[.int .i64 11, .int .i64 n, .int .i64 kc]] w fun e w' => e = .returned (.int .i64 (mayE (n == 0))) ∧ w.grownBy w' none := by
    have M := Lib.hid may_any
    go_enter Try.func114, Try.ntmps114
    go_wp2_with (go_at_call 136; refine (M.out _ _).mono ?_; rintro e w1 ⟨rfl, rfl⟩)
    go_ret
    exact ⟨rfl, World.grownBy_alloc _ _ _⟩

set_option maxRecDepth 100000 in
set_option maxHeartbeats 1000000 in
theorem number_none16 (n kc : Int) (Bc : Nat) (w : World) :
    Calls Try.prog 114 #[.pointer (some ⟨Bc, 0, none⟩), .agg #[.int .i64 16, .int .i64 n, .int .i64 kc]] w fun e w' => e = .returned (.int .i64 (mayE (n == 0))) ∧ w.grownBy w' none := by
    have M := Lib.hid may_any
    go_enter Try.func114, Try.ntmps114
    go_wp2_with (go_at_call 136; refine (M.out _ _).mono ?_; rintro e w1 ⟨rfl, rfl⟩)
    go_ret
    exact ⟨rfl, World.grownBy_alloc _ _ _⟩

set_option maxRecDepth 100000 in
set_option maxHeartbeats 1000000 in
theorem number_none17 (n kc : Int) (Bc : Nat) (w : World) :
    Calls Try.prog 114 #[.pointer (some ⟨Bc, 0, none⟩), .agg #[.int .i64 17, .int .i64 n, .int .i64 kc]] w fun e w' => e = .returned (.int .i64 (mayE (n == 0))) ∧ w.grownBy w' none := by
    have M := Lib.hid may_any
    go_enter Try.func114, Try.ntmps114
    go_wp2_with (go_at_call 136; refine (M.out _ _).mono ?_; rintro e w1 ⟨rfl, rfl⟩)
    go_ret
    exact ⟨rfl, World.grownBy_alloc _ _ _⟩

set_option maxRecDepth 100000 in
set_option maxHeartbeats 1000000 in
theorem number_none18 (n kc : Int) (Bc : Nat) (w : World) :
    Calls Try.prog 114 #[.pointer (some ⟨Bc, 0, none⟩), .agg #[.int .i64 18, .int .i64 n, .int .i64 kc]] w fun e w' => e = .returned (.int .i64 (mayE (n == 0))) ∧ w.grownBy w' none := by
    have M := Lib.hid may_any
    go_enter Try.func114, Try.ntmps114
    go_wp2_with (go_at_call 136; refine (M.out _ _).mono ?_; rintro e w1 ⟨rfl, rfl⟩)
    go_ret
    exact ⟨rfl, World.grownBy_alloc _ _ _⟩

set_option maxRecDepth 100000 in
set_option maxHeartbeats 1000000 in
theorem number_none22 (n kc : Int) (Bc : Nat) (w : World) :
    Calls Try.prog 114 #[.pointer (some ⟨Bc, 0, none⟩), .agg #[.int .i64 22, .int .i64 n, .int .i64 kc]] w fun e w' => e = .returned (.int .i64 (mayE (n == 0))) ∧ w.grownBy w' none := by
    have M := Lib.hid may_any
    go_enter Try.func114, Try.ntmps114
    go_wp2_with (go_at_call 136; refine (M.out _ _).mono ?_; rintro e w1 ⟨rfl, rfl⟩)
    go_ret
    exact ⟨rfl, World.grownBy_alloc _ _ _⟩

set_option maxRecDepth 100000 in
set_option maxHeartbeats 1000000 in
theorem number_none23 (n kc : Int) (Bc : Nat) (w : World) :
    Calls Try.prog 114 #[.pointer (some ⟨Bc, 0, none⟩), .agg #[.int .i64 23, .int .i64 n, .int .i64 kc]] w fun e w' => e = .returned (.int .i64 (mayE (n == 0))) ∧ w.grownBy w' none := by
    have M := Lib.hid may_any
    go_enter Try.func114, Try.ntmps114
    go_wp2_with (go_at_call 136; refine (M.out _ _).mono ?_; rintro e w1 ⟨rfl, rfl⟩)
    go_ret
    exact ⟨rfl, World.grownBy_alloc _ _ _⟩

set_option maxRecDepth 100000 in
set_option maxHeartbeats 1000000 in
theorem number_none24 (n kc : Int) (Bc : Nat) (w : World) :
    Calls Try.prog 114 #[.pointer (some ⟨Bc, 0, none⟩), .agg #[.int .i64 24, .int .i64 n, .int .i64 kc]] w fun e w' => e = .returned (.int .i64 (mayE (n == 0))) ∧ w.grownBy w' none := by
    have M := Lib.hid may_any
    go_enter Try.func114, Try.ntmps114
    go_wp2_with (go_at_call 136; refine (M.out _ _).mono ?_; rintro e w1 ⟨rfl, rfl⟩)
    go_ret
    exact ⟨rfl, World.grownBy_alloc _ _ _⟩

theorem number_none (k n kc : Int) (hk : k = 1 ∨ k = 3 ∨ k = 4 ∨ k = 5 ∨ k = 6 ∨ k = 9 ∨ k = 10 ∨ k = 11 ∨ k = 16 ∨ k = 17 ∨ k = 18 ∨ k = 22 ∨ k = 23 ∨ k = 24) (Bc : Nat) (w : World) :
    Calls Try.prog 114 #[.pointer (some ⟨Bc, 0, none⟩), .agg #[.int .i64 k, .int .i64 n, .int .i64 kc]] w fun e w' => e = .returned (.int .i64 (mayE (n == 0))) ∧ w.grownBy w' none := by
    rcases hk with rfl | rfl | rfl | rfl | rfl | rfl | rfl | rfl | rfl | rfl | rfl | rfl | rfl | rfl
    · exact number_none1 n kc Bc w
    · exact number_none3 n kc Bc w
    · exact number_none4 n kc Bc w
    · exact number_none5 n kc Bc w
    · exact number_none6 n kc Bc w
    · exact number_none9 n kc Bc w
    · exact number_none10 n kc Bc w
    · exact number_none11 n kc Bc w
    · exact number_none16 n kc Bc w
    · exact number_none17 n kc Bc w
    · exact number_none18 n kc Bc w
    · exact number_none22 n kc Bc w
    · exact number_none23 n kc Bc w
    · exact number_none24 n kc Bc w

end Go.Proofs.Ytecaolkbllbokaa.TG
