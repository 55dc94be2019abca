/-
  Walks of package tongue's kids, the kinds with a fixed number of kids. Conditions: as each theorem states.
-/
import Derived.Test.YtecaolkbllbokaaTgNum
namespace Go.Proofs.Ytecaolkbllbokaa.TG
open Go.RowKit Go.Great
set_option linter.unusedSimpArgs false
set_option linter.unusedVariables false

set_option maxRecDepth 100000 in
set_option maxHeartbeats 1000000 in
theorem kids_k14 (n kc : Int) (Bc : Nat) (w : World) :
    Calls Try.prog 115 #[.pointer (some ⟨Bc, 0, none⟩), .agg #[.int .i64 14, .int .i64 n, .int .i64 kc]] w fun e w' => e = .returned (.int .i64 (if kc = 0 then 0 else 171)) ∧ w.grownBy w' none := by
  by_cases h : kc = 0
  · rw [if_pos h]
    subst h
    go_enter Try.func115, Try.ntmps115
    go_wp2
    go_ret
    exact ⟨rfl, World.grownBy_alloc _ _ _⟩
  · rw [if_neg h]
    go_enter Try.func115, Try.ntmps115
    go_wp2
    go_ret
    exact ⟨rfl, World.grownBy_alloc _ _ _⟩

set_option maxRecDepth 100000 in
set_option maxHeartbeats 1000000 in
theorem kids_k15 (n kc : Int) (Bc : Nat) (w : World) :
    Calls Try.prog 115 #[.pointer (some ⟨Bc, 0, none⟩), .agg #[.int .i64 15, .int .i64 n, .int .i64 kc]] w fun e w' => e = .returned (.int .i64 (if kc = 0 then 0 else 171)) ∧ w.grownBy w' none := by
  by_cases h : kc = 0
  · rw [if_pos h]
    subst h
    go_enter Try.func115, Try.ntmps115
    go_wp2
    go_ret
    exact ⟨rfl, World.grownBy_alloc _ _ _⟩
  · rw [if_neg h]
    go_enter Try.func115, Try.ntmps115
    go_wp2
    go_ret
    exact ⟨rfl, World.grownBy_alloc _ _ _⟩

set_option maxRecDepth 100000 in
set_option maxHeartbeats 1000000 in
theorem kids_k16 (n kc : Int) (Bc : Nat) (w : World) :
    Calls Try.prog 115 #[.pointer (some ⟨Bc, 0, none⟩), .agg #[.int .i64 16, .int .i64 n, .int .i64 kc]] w fun e w' => e = .returned (.int .i64 (if kc = 0 then 0 else 171)) ∧ w.grownBy w' none := by
  by_cases h : kc = 0
  · rw [if_pos h]
    subst h
    go_enter Try.func115, Try.ntmps115
    go_wp2
    go_ret
    exact ⟨rfl, World.grownBy_alloc _ _ _⟩
  · rw [if_neg h]
    go_enter Try.func115, Try.ntmps115
    go_wp2
    go_ret
    exact ⟨rfl, World.grownBy_alloc _ _ _⟩

end Go.Proofs.Ytecaolkbllbokaa.TG
