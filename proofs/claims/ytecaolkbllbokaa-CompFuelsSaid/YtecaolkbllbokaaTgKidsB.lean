/-
  Walks of package tongue's kids, the kinds with a fixed number of kids. Conditions: as each theorem states.
-/
import Derived.Test.YtecaolkbllbokaaTgNum
namespace Go.Proofs.Ytecaolkbllbokaa.TG
open Go.RowKit Go.Great
set_option linter.unusedSimpArgs false
set_option linter.unusedVariables false

set_option maxRecDepth 100000 in
set_option maxHeartbeats 1000000 in
theorem kids_k17 (n kc : Int) (Bc : Nat) (w : World) :
    Calls Try.prog 115 #[.pointer (some ⟨Bc, 0, none⟩), .agg #[.int .i64 17, .int .i64 n, .int .i64 kc]] w fun e w' => e = .returned (.int .i64 (if kc = 1 then 0 else 171)) ∧ w.grownBy w' none := by
  by_cases h : kc = 1
  · rw [if_pos h]
    subst h
    go_enter Try.func115, Try.ntmps115
    go_wp2
    go_ret
    exact ⟨rfl, World.grownBy_alloc _ _ _⟩
  · rw [if_neg h]
    go_enter Try.func115, Try.ntmps115
    go_wp2
    go_ret
    exact ⟨rfl, World.grownBy_alloc _ _ _⟩

set_option maxRecDepth 100000 in
set_option maxHeartbeats 1000000 in
theorem kids_k18 (n kc : Int) (Bc : Nat) (w : World) :
    Calls Try.prog 115 #[.pointer (some ⟨Bc, 0, none⟩), .agg #[.int .i64 18, .int .i64 n, .int .i64 kc]] w fun e w' => e = .returned (.int .i64 (if kc = 1 then 0 else 171)) ∧ w.grownBy w' none := by
  by_cases h : kc = 1
  · rw [if_pos h]
    subst h
    go_enter Try.func115, Try.ntmps115
    go_wp2
    go_ret
    exact ⟨rfl, World.grownBy_alloc _ _ _⟩
  · rw [if_neg h]
    go_enter Try.func115, Try.ntmps115
    go_wp2
    go_ret
    exact ⟨rfl, World.grownBy_alloc _ _ _⟩

set_option maxRecDepth 100000 in
set_option maxHeartbeats 1000000 in
theorem kids_k19 (n kc : Int) (Bc : Nat) (w : World) :
    Calls Try.prog 115 #[.pointer (some ⟨Bc, 0, none⟩), .agg #[.int .i64 19, .int .i64 n, .int .i64 kc]] w fun e w' => e = .returned (.int .i64 (if kc = 1 then 0 else 171)) ∧ w.grownBy w' none := by
  by_cases h : kc = 1
  · rw [if_pos h]
    subst h
    go_enter Try.func115, Try.ntmps115
    go_wp2
    go_ret
    exact ⟨rfl, World.grownBy_alloc _ _ _⟩
  · rw [if_neg h]
    go_enter Try.func115, Try.ntmps115
    go_wp2
    go_ret
    exact ⟨rfl, World.grownBy_alloc _ _ _⟩

set_option maxRecDepth 100000 in
set_option maxHeartbeats 1000000 in
theorem kids_k22 (n kc : Int) (Bc : Nat) (w : World) :
    Calls Try.prog 115 #[.pointer (some ⟨Bc, 0, none⟩), .agg #[.int .i64 22, .int .i64 n, .int .i64 kc]] w fun e w' => e = .returned (.int .i64 (if kc = 1 then 0 else 171)) ∧ w.grownBy w' none := by
  by_cases h : kc = 1
  · rw [if_pos h]
    subst h
    go_enter Try.func115, Try.ntmps115
    go_wp2
    go_ret
    exact ⟨rfl, World.grownBy_alloc _ _ _⟩
  · rw [if_neg h]
    go_enter Try.func115, Try.ntmps115
    go_wp2
    go_ret
    exact ⟨rfl, World.grownBy_alloc _ _ _⟩

end Go.Proofs.Ytecaolkbllbokaa.TG
