/-
  Walks of package tongue's kids, the kinds with a fixed number of kids. Conditions: as each theorem states.
  Walks of package tongue's kids, the kinds with a fixed number of kids. Conditions: as each theorem states.
  Walks of package tongue's kids, the kinds with a fixed number of kids. Conditions: as each theorem states.
  Walks of package tongue's kids, the kinds with a fixed number of kids. Conditions: as each theorem states.
  Walks of package tongue's kids, the kinds with a fixed number of kids. Conditions: as each theorem states.
-/
import Derived.Test.YtecaolkbllbokaaMA01
namespace Go.Proofs.Ytecaolkbllbokaa.TG
open Go.RowKit Go.Great
set_option linter.unusedSimpArgs false
set_option linter.unusedVariables false

set_option maxRecDepth 100000 in
set_option maxHeartbeats 1000000 in
theorem kids_k2 (n kc : Int) (Bc : Nat) (w : World) :
    Calls Try.prog 115 #[.pointer (some ⟨Bc, 0, none⟩), .agg #[.int .i64 2, .int .i64 n, .int .i64 kc]] w fun e w' => e = .returned (.int .i64 (if kc = 1 then 0 else 171)) ∧ w.grownBy w' none := by
  by_cases h : kc = 1
  · rw [if_pos h]
    subst h
    go_enter Try.func115, Try.ntmps115
    go_wp2
    go_ret
    exact ⟨rfl, World.grownBy_alloc _ _ _⟩
  · rw [if_neg h]
    go_enter Try.func115, Try.ntmps115
    go_wp2
    go_ret
    exact ⟨rfl, World.grownBy_alloc _ _ _⟩

set_option maxRecDepth 100000 in
set_option maxHeartbeats 1000000 in
theorem kids_k9 (n kc : Int) (Bc : Nat) (w : World) :
    Calls Try.prog 115 #[.pointer (some ⟨Bc, 0, none⟩), .agg #[.int .i64 9, .int .i64 n, .int .i64 kc]] w fun e w' => e = .returned (.int .i64 (if kc = 1 then 0 else 171)) ∧ w.grownBy w' none := by
  by_cases h : kc = 1
  · rw [if_pos h]
    subst h
    go_enter Try.func115, Try.ntmps115
    go_wp2
    go_ret
    exact ⟨rfl, World.grownBy_alloc _ _ _⟩
  · rw [if_neg h]
    go_enter Try.func115, Try.ntmps115
    go_wp2
    go_ret
    exact ⟨rfl, World.grownBy_alloc _ _ _⟩

set_option maxRecDepth 100000 in
set_option maxHeartbeats 1000000 in
theorem kids_k10 (n kc : Int) (Bc : Nat) (w : World) :
    Calls Try.prog 115 #[.pointer (some ⟨Bc, 0, none⟩), .agg #[.int .i64 10, .int .i64 n, .int .i64 kc]] w fun e w' => e = .returned (.int .i64 (if kc = 1 then 0 else 171)) ∧ w.grownBy w' none := by
  by_cases h : kc = 1
  · rw [if_pos h]
    subst h
    go_enter Try.func115, Try.ntmps115
    go_wp2
    go_ret
    exact ⟨rfl, World.grownBy_alloc _ _ _⟩
  · rw [if_neg h]
    go_enter Try.func115, Try.ntmps115
    go_wp2
    go_ret
    exact ⟨rfl, World.grownBy_alloc _ _ _⟩

set_option maxRecDepth 100000 in
set_option maxHeartbeats 1000000 in
theorem kids_k11 (n kc : Int) (Bc : Nat) (w : World) :
    Calls Try.prog 115 #[.pointer (some ⟨Bc, 0, none⟩), .agg #[.int .i64 11, .int .i64 n, .int .i64 kc]] w fun e w' => e = .returned (.int .i64 (if kc = 1 then 0 else 171)) ∧ w.grownBy w' none := by
  by_cases h : kc = 1
  · rw [if_pos h]
    subst h
    go_enter Try.func115, Try.ntmps115
    go_wp2
    go_ret
    exact ⟨rfl, World.grownBy_alloc _ _ _⟩
  · rw [if_neg h]
    go_enter Try.func115, Try.ntmps115
    go_wp2
    go_ret
    exact ⟨rfl, World.grownBy_alloc _ _ _⟩

end Go.Proofs.Ytecaolkbllbokaa.TG

namespace Go.Proofs.Ytecaolkbllbokaa.TG
open Go.RowKit Go.Great
set_option linter.unusedSimpArgs false
set_option linter.unusedVariables false

set_option maxRecDepth 100000 in
set_option maxHeartbeats 1000000 in
theorem kids_k17 (n kc : Int) (Bc : Nat) (w : World) :
    Calls Try.prog 115 #[.pointer (some ⟨Bc, 0, none⟩), .agg #[.int .i64 17, .int .i64 n, .int .i64 kc]] w fun e w' => e = .returned (.int .i64 (if kc = 1 then 0 else 171)) ∧ w.grownBy w' none := by
  by_cases h : kc = 1
  · rw [if_pos h]
    subst h
    go_enter Try.func115, Try.ntmps115
    go_wp2
    go_ret
    exact ⟨rfl, World.grownBy_alloc _ _ _⟩
  · rw [if_neg h]
    go_enter Try.func115, Try.ntmps115
    go_wp2
    go_ret
    exact ⟨rfl, World.grownBy_alloc _ _ _⟩

set_option maxRecDepth 100000 in
set_option maxHeartbeats 1000000 in
theorem kids_k18 (n kc : Int) (Bc : Nat) (w : World) :
    Calls Try.prog 115 #[.pointer (some ⟨Bc, 0, none⟩), .agg #[.int .i64 18, .int .i64 n, .int .i64 kc]] w fun e w' => e = .returned (.int .i64 (if kc = 1 then 0 else 171)) ∧ w.grownBy w' none := by
  by_cases h : kc = 1
  · rw [if_pos h]
    subst h
    go_enter Try.func115, Try.ntmps115
    go_wp2
    go_ret
    exact ⟨rfl, World.grownBy_alloc _ _ _⟩
  · rw [if_neg h]
    go_enter Try.func115, Try.ntmps115
    go_wp2
    go_ret
    exact ⟨rfl, World.grownBy_alloc _ _ _⟩

set_option maxRecDepth 100000 in
set_option maxHeartbeats 1000000 in
theorem kids_k19 (n kc : Int) (Bc : Nat) (w : World) :
    Calls Try.prog 115 #[.pointer (some ⟨Bc, 0, none⟩), .agg #[.int .i64 19, .int .i64 n, .int .i64 kc]] w fun e w' => e = .returned (.int .i64 (if kc = 1 then 0 else 171)) ∧ w.grownBy w' none := by
  by_cases h : kc = 1
  · rw [if_pos h]
    subst h
    go_enter Try.func115, Try.ntmps115
    go_wp2
    go_ret
    exact ⟨rfl, World.grownBy_alloc _ _ _⟩
  · rw [if_neg h]
    go_enter Try.func115, Try.ntmps115
    go_wp2
    go_ret
    exact ⟨rfl, World.grownBy_alloc _ _ _⟩

set_option maxRecDepth 100000 in
set_option maxHeartbeats 1000000 in
theorem kids_k22 (n kc : Int) (Bc : Nat) (w : World) :
    Calls Try.prog 115 #[.pointer (some ⟨Bc, 0, none⟩), .agg #[.int .i64 22, .int .i64 n, .int .i64 kc]] w fun e w' => e = .returned (.int .i64 (if kc = 1 then 0 else 171)) ∧ w.grownBy w' none := by
  by_cases h : kc = 1
  · rw [if_pos h]
    subst h
    go_enter Try.func115, Try.ntmps115
    go_wp2
    go_ret
    exact ⟨rfl, World.grownBy_alloc _ _ _⟩
  · rw [if_neg h]
    go_enter Try.func115, Try.ntmps115
    go_wp2
    go_ret
    exact ⟨rfl, World.grownBy_alloc _ _ _⟩

end Go.Proofs.Ytecaolkbllbokaa.TG

namespace Go.Proofs.Ytecaolkbllbokaa.TG
open Go.RowKit Go.Great
set_option linter.unusedSimpArgs false
set_option linter.unusedVariables false

set_option maxRecDepth 100000 in
set_option maxHeartbeats 1000000 in
theorem kids_k3 (n kc : Int) (Bc : Nat) (w : World) :
    Calls Try.prog 115 #[.pointer (some ⟨Bc, 0, none⟩), .agg #[.int .i64 3, .int .i64 n, .int .i64 kc]] w fun e w' => e = .returned (.int .i64 (if kc = 2 then 0 else 171)) ∧ w.grownBy w' none := by
  by_cases h : kc = 2
  · rw [if_pos h]
    subst h
    go_enter Try.func115, Try.ntmps115
    go_wp2
    go_ret
    exact ⟨rfl, World.grownBy_alloc _ _ _⟩
  · rw [if_neg h]
    go_enter Try.func115, Try.ntmps115
    go_wp2
    go_ret
    exact ⟨rfl, World.grownBy_alloc _ _ _⟩

set_option maxRecDepth 100000 in
set_option maxHeartbeats 1000000 in
theorem kids_k4 (n kc : Int) (Bc : Nat) (w : World) :
    Calls Try.prog 115 #[.pointer (some ⟨Bc, 0, none⟩), .agg #[.int .i64 4, .int .i64 n, .int .i64 kc]] w fun e w' => e = .returned (.int .i64 (if kc = 2 then 0 else 171)) ∧ w.grownBy w' none := by
  by_cases h : kc = 2
  · rw [if_pos h]
    subst h
    go_enter Try.func115, Try.ntmps115
    go_wp2
    go_ret
    exact ⟨rfl, World.grownBy_alloc _ _ _⟩
  · rw [if_neg h]
    go_enter Try.func115, Try.ntmps115
    go_wp2
    go_ret
    exact ⟨rfl, World.grownBy_alloc _ _ _⟩

set_option maxRecDepth 100000 in
set_option maxHeartbeats 1000000 in
theorem kids_k6 (n kc : Int) (Bc : Nat) (w : World) :
    Calls Try.prog 115 #[.pointer (some ⟨Bc, 0, none⟩), .agg #[.int .i64 6, .int .i64 n, .int .i64 kc]] w fun e w' => e = .returned (.int .i64 (if kc = 2 then 0 else 171)) ∧ w.grownBy w' none := by
  by_cases h : kc = 2
  · rw [if_pos h]
    subst h
    go_enter Try.func115, Try.ntmps115
    go_wp2
    go_ret
    exact ⟨rfl, World.grownBy_alloc _ _ _⟩
  · rw [if_neg h]
    go_enter Try.func115, Try.ntmps115
    go_wp2
    go_ret
    exact ⟨rfl, World.grownBy_alloc _ _ _⟩

set_option maxRecDepth 100000 in
set_option maxHeartbeats 1000000 in
theorem kids_k20 (n kc : Int) (Bc : Nat) (w : World) :
    Calls Try.prog 115 #[.pointer (some ⟨Bc, 0, none⟩), .agg #[.int .i64 20, .int .i64 n, .int .i64 kc]] w fun e w' => e = .returned (.int .i64 (if kc = 2 then 0 else 171)) ∧ w.grownBy w' none := by
  by_cases h : kc = 2
  · rw [if_pos h]
    subst h
    go_enter Try.func115, Try.ntmps115
    go_wp2
    go_ret
    exact ⟨rfl, World.grownBy_alloc _ _ _⟩
  · rw [if_neg h]
    go_enter Try.func115, Try.ntmps115
    go_wp2
    go_ret
    exact ⟨rfl, World.grownBy_alloc _ _ _⟩

end Go.Proofs.Ytecaolkbllbokaa.TG

namespace Go.Proofs.Ytecaolkbllbokaa.TG
open Go.RowKit Go.Great
set_option linter.unusedSimpArgs false
set_option linter.unusedVariables false

set_option maxRecDepth 100000 in
set_option maxHeartbeats 1000000 in
theorem kids_k21 (n kc : Int) (Bc : Nat) (w : World) :
    Calls Try.prog 115 #[.pointer (some ⟨Bc, 0, none⟩), .agg #[.int .i64 21, .int .i64 n, .int .i64 kc]] w fun e w' => e = .returned (.int .i64 (if kc = 2 then 0 else 171)) ∧ w.grownBy w' none := by
  by_cases h : kc = 2
  · rw [if_pos h]
    subst h
    go_enter Try.func115, Try.ntmps115
    go_wp2
    go_ret
    exact ⟨rfl, World.grownBy_alloc _ _ _⟩
  · rw [if_neg h]
    go_enter Try.func115, Try.ntmps115
    go_wp2
    go_ret
    exact ⟨rfl, World.grownBy_alloc _ _ _⟩

set_option maxRecDepth 100000 in
set_option maxHeartbeats 1000000 in
theorem kids_k23 (n kc : Int) (Bc : Nat) (w : World) :
    Calls Try.prog 115 #[.pointer (some ⟨Bc, 0, none⟩), .agg #[.int .i64 23, .int .i64 n, .int .i64 kc]] w fun e w' => e = .returned (.int .i64 (if kc = 2 then 0 else 171)) ∧ w.grownBy w' none := by
  by_cases h : kc = 2
  · rw [if_pos h]
    subst h
    go_enter Try.func115, Try.ntmps115
    go_wp2
    go_ret
    exact ⟨rfl, World.grownBy_alloc _ _ _⟩
  · rw [if_neg h]
    go_enter Try.func115, Try.ntmps115
    go_wp2
    go_ret
    exact ⟨rfl, World.grownBy_alloc _ _ _⟩

set_option maxRecDepth 100000 in
set_option maxHeartbeats 1000000 in
theorem kids_k24 (n kc : Int) (Bc : Nat) (w : World) :
    Calls Try.prog 115 #[.pointer (some ⟨Bc, 0, none⟩), .agg #[.int .i64 24, .int .i64 n, .int .i64 kc]] w fun e w' => e = .returned (.int .i64 (if kc = 2 then 0 else 171)) ∧ w.grownBy w' none := by
  by_cases h : kc = 2
  · rw [if_pos h]
    subst h
    go_enter Try.func115, Try.ntmps115
    go_wp2
    go_ret
    exact ⟨rfl, World.grownBy_alloc _ _ _⟩
  · rw [if_neg h]
    go_enter Try.func115, Try.ntmps115
    go_wp2
    go_ret
    exact ⟨rfl, World.grownBy_alloc _ _ _⟩

end Go.Proofs.Ytecaolkbllbokaa.TG

namespace Go.Proofs.Ytecaolkbllbokaa.TG
open Go.RowKit Go.Great
set_option linter.unusedSimpArgs false
set_option linter.unusedVariables false

set_option maxRecDepth 100000 in
set_option maxHeartbeats 1000000 in
theorem kids_k7 (n kc : Int) (Bc : Nat) (w : World) :
    Calls Try.prog 115 #[.pointer (some ⟨Bc, 0, none⟩), .agg #[.int .i64 7, .int .i64 n, .int .i64 kc]] w fun e w' => e = .returned (.int .i64 (if kc = 0 then 0 else 171)) ∧ w.grownBy w' none := by
  by_cases h : kc = 0
  · rw [if_pos h]
    subst h
    go_enter Try.func115, Try.ntmps115
    go_wp2
    go_ret
    exact ⟨rfl, World.grownBy_alloc _ _ _⟩
  · rw [if_neg h]
    go_enter Try.func115, Try.ntmps115
    go_wp2
    go_ret
    exact ⟨rfl, World.grownBy_alloc _ _ _⟩

set_option maxRecDepth 100000 in
set_option maxHeartbeats 1000000 in
theorem kids_k8 (n kc : Int) (Bc : Nat) (w : World) :
    Calls Try.prog 115 #[.pointer (some ⟨Bc, 0, none⟩), .agg #[.int .i64 8, .int .i64 n, .int .i64 kc]] w fun e w' => e = .returned (.int .i64 (if kc = 0 then 0 else 171)) ∧ w.grownBy w' none := by
  by_cases h : kc = 0
  · rw [if_pos h]
    subst h
    go_enter Try.func115, Try.ntmps115
    go_wp2
    go_ret
    exact ⟨rfl, World.grownBy_alloc _ _ _⟩
  · rw [if_neg h]
    go_enter Try.func115, Try.ntmps115
    go_wp2
    go_ret
    exact ⟨rfl, World.grownBy_alloc _ _ _⟩

set_option maxRecDepth 100000 in
set_option maxHeartbeats 1000000 in
theorem kids_k12 (n kc : Int) (Bc : Nat) (w : World) :
    Calls Try.prog 115 #[.pointer (some ⟨Bc, 0, none⟩), .agg #[.int .i64 12, .int .i64 n, .int .i64 kc]] w fun e w' => e = .returned (.int .i64 (if kc = 0 then 0 else 171)) ∧ w.grownBy w' none := by
  by_cases h : kc = 0
  · rw [if_pos h]
    subst h
    go_enter Try.func115, Try.ntmps115
    go_wp2
    go_ret
    exact ⟨rfl, World.grownBy_alloc _ _ _⟩
  · rw [if_neg h]
    go_enter Try.func115, Try.ntmps115
    go_wp2
    go_ret
    exact ⟨rfl, World.grownBy_alloc _ _ _⟩

set_option maxRecDepth 100000 in
set_option maxHeartbeats 1000000 in
theorem kids_k13 (n kc : Int) (Bc : Nat) (w : World) :
    Calls Try.prog 115 #[.pointer (some ⟨Bc, 0, none⟩), .agg #[.int .i64 13, .int .i64 n, .int .i64 kc]] w fun e w' => e = .returned (.int .i64 (if kc = 0 then 0 else 171)) ∧ w.grownBy w' none := by
  by_cases h : kc = 0
  · rw [if_pos h]
    subst h
    go_enter Try.func115, Try.ntmps115
    go_wp2
    go_ret
    exact ⟨rfl, World.grownBy_alloc _ _ _⟩
  · rw [if_neg h]
    go_enter Try.func115, Try.ntmps115
    go_wp2
    go_ret
    exact ⟨rfl, World.grownBy_alloc _ _ _⟩

end Go.Proofs.Ytecaolkbllbokaa.TG
