/-
  Walks of package tongue's kids, the kinds with a fixed number of kids. Conditions: as each theorem states.
  Walks of package tongue's kids, the kinds with a fixed number of kids. Conditions: as each theorem states.
  Walks of package tongue's kids, the kinds with a fixed number of kids. Conditions: as each theorem states.
  Walks of package tongue's kids, the kinds with a fixed number of kids. Conditions: as each theorem states.
  Walks of package tongue's kids, the kinds with a fixed number of kids. Conditions: as each theorem states.
  Walks of package tongue's kids, the kinds with a fixed number of kids. Conditions: as each theorem states.
  Walks of package op's table of calls. Conditions: as each theorem states.
-/
import Derived.Test.YtecaolkbllbokaaMB00
import Derived.Laws.ResultCell
namespace Go.Proofs.Ytecaolkbllbokaa.TG
open Go.RowKit Go.Great
set_option linter.unusedSimpArgs false
set_option linter.unusedVariables false

set_option maxRecDepth 100000 in
set_option maxHeartbeats 1000000 in
theorem kids_k2 (n kc : Int) (Bc : Nat) (w : World) :
    Calls Try.prog 115 #[.pointer (some ⟨Bc, 0, none⟩), .agg #[.int .i64 2, .int .i64 n, .int .i64 kc]] w fun e w' => e = .returned (.int .i64 (if kc = 1 then 0 else 171)) ∧ w.grownBy w' none := by
  by_cases h : kc = 1
  · rw [if_pos h]
    subst h
    go_enter Try.func115, Try.ntmps115
    go_wp2
    go_ret
    exact ⟨rfl, World.grownBy_alloc _ _ _⟩
  · rw [if_neg h]
    go_enter Try.func115, Try.ntmps115
    go_wp2
    go_ret
    exact ⟨rfl, World.grownBy_alloc _ _ _⟩

set_option maxRecDepth 100000 in
set_option maxHeartbeats 1000000 in
theorem kids_k9 (n kc : Int) (Bc : Nat) (w : World) :
    Calls Try.prog 115 #[.pointer (some ⟨Bc, 0, none⟩), .agg #[.int .i64 9, .int .i64 n, .int .i64 kc]] w fun e w' => e = .returned (.int .i64 (if kc = 1 then 0 else 171)) ∧ w.grownBy w' none := by
  by_cases h : kc = 1
  · rw [if_pos h]
    subst h
    go_enter Try.func115, Try.ntmps115
    go_wp2
    go_ret
    exact ⟨rfl, World.grownBy_alloc _ _ _⟩
  · rw [if_neg h]
    go_enter Try.func115, Try.ntmps115
    go_wp2
    go_ret
    exact ⟨rfl, World.grownBy_alloc _ _ _⟩

set_option maxRecDepth 100000 in
set_option maxHeartbeats 1000000 in
theorem kids_k10 (n kc : Int) (Bc : Nat) (w : World) :
    Calls Try.prog 115 #[.pointer (some ⟨Bc, 0, none⟩), .agg #[.int .i64 10, .int .i64 n, .int .i64 kc]] w fun e w' => e = .returned (.int .i64 (if kc = 1 then 0 else 171)) ∧ w.grownBy w' none := by
  by_cases h : kc = 1
  · rw [if_pos h]
    subst h
    go_enter Try.func115, Try.ntmps115
    go_wp2
    go_ret
    exact ⟨rfl, World.grownBy_alloc _ _ _⟩
  · rw [if_neg h]
    go_enter Try.func115, Try.ntmps115
    go_wp2
    go_ret
    exact ⟨rfl, World.grownBy_alloc _ _ _⟩

set_option maxRecDepth 100000 in
set_option maxHeartbeats 1000000 in
theorem kids_k11 (n kc : Int) (Bc : Nat) (w : World) :
    Calls Try.prog 115 #[.pointer (some ⟨Bc, 0, none⟩), .agg #[.int .i64 11, .int .i64 n, .int .i64 kc]] w fun e w' => e = .returned (.int .i64 (if kc = 1 then 0 else 171)) ∧ w.grownBy w' none := by
  by_cases h : kc = 1
  · rw [if_pos h]
    subst h
    go_enter Try.func115, Try.ntmps115
    go_wp2
    go_ret
    exact ⟨rfl, World.grownBy_alloc _ _ _⟩
  · rw [if_neg h]
    go_enter Try.func115, Try.ntmps115
    go_wp2
    go_ret
    exact ⟨rfl, World.grownBy_alloc _ _ _⟩

end Go.Proofs.Ytecaolkbllbokaa.TG

namespace Go.Proofs.Ytecaolkbllbokaa.TG
open Go.RowKit Go.Great
set_option linter.unusedSimpArgs false
set_option linter.unusedVariables false

set_option maxRecDepth 100000 in
set_option maxHeartbeats 1000000 in
theorem kids_k17 (n kc : Int) (Bc : Nat) (w : World) :
    Calls Try.prog 115 #[.pointer (some ⟨Bc, 0, none⟩), .agg #[.int .i64 17, .int .i64 n, .int .i64 kc]] w fun e w' => e = .returned (.int .i64 (if kc = 1 then 0 else 171)) ∧ w.grownBy w' none := by
  by_cases h : kc = 1
  · rw [if_pos h]
    subst h
    go_enter Try.func115, Try.ntmps115
    go_wp2
    go_ret
    exact ⟨rfl, World.grownBy_alloc _ _ _⟩
  · rw [if_neg h]
    go_enter Try.func115, Try.ntmps115
    go_wp2
    go_ret
    exact ⟨rfl, World.grownBy_alloc _ _ _⟩

set_option maxRecDepth 100000 in
set_option maxHeartbeats 1000000 in
theorem kids_k18 (n kc : Int) (Bc : Nat) (w : World) :
    Calls Try.prog 115 #[.pointer (some ⟨Bc, 0, none⟩), .agg #[.int .i64 18, .int .i64 n, .int .i64 kc]] w fun e w' => e = .returned (.int .i64 (if kc = 1 then 0 else 171)) ∧ w.grownBy w' none := by
  by_cases h : kc = 1
  · rw [if_pos h]
    subst h
    go_enter Try.func115, Try.ntmps115
    go_wp2
    go_ret
    exact ⟨rfl, World.grownBy_alloc _ _ _⟩
  · rw [if_neg h]
    go_enter Try.func115, Try.ntmps115
    go_wp2
    go_ret
    exact ⟨rfl, World.grownBy_alloc _ _ _⟩

set_option maxRecDepth 100000 in
set_option maxHeartbeats 1000000 in
theorem kids_k19 (n kc : Int) (Bc : Nat) (w : World) :
    Calls Try.prog 115 #[.pointer (some ⟨Bc, 0, none⟩), .agg #[.int .i64 19, .int .i64 n, .int .i64 kc]] w fun e w' => e = .returned (.int .i64 (if kc = 1 then 0 else 171)) ∧ w.grownBy w' none := by
  by_cases h : kc = 1
  · rw [if_pos h]
    subst h
    go_enter Try.func115, Try.ntmps115
    go_wp2
    go_ret
    exact ⟨rfl, World.grownBy_alloc _ _ _⟩
  · rw [if_neg h]
    go_enter Try.func115, Try.ntmps115
    go_wp2
    go_ret
    exact ⟨rfl, World.grownBy_alloc _ _ _⟩

set_option maxRecDepth 100000 in
set_option maxHeartbeats 1000000 in
theorem kids_k22 (n kc : Int) (Bc : Nat) (w : World) :
    Calls Try.prog 115 #[.pointer (some ⟨Bc, 0, none⟩), .agg #[.int .i64 22, .int .i64 n, .int .i64 kc]] w fun e w' => e = .returned (.int .i64 (if kc = 1 then 0 else 171)) ∧ w.grownBy w' none := by
  by_cases h : kc = 1
  · rw [if_pos h]
    subst h
    go_enter Try.func115, Try.ntmps115
    go_wp2
    go_ret
    exact ⟨rfl, World.grownBy_alloc _ _ _⟩
  · rw [if_neg h]
    go_enter Try.func115, Try.ntmps115
    go_wp2
    go_ret
    exact ⟨rfl, World.grownBy_alloc _ _ _⟩

end Go.Proofs.Ytecaolkbllbokaa.TG

namespace Go.Proofs.Ytecaolkbllbokaa.TG
open Go.RowKit Go.Great
set_option linter.unusedSimpArgs false
set_option linter.unusedVariables false

set_option maxRecDepth 100000 in
set_option maxHeartbeats 1000000 in
theorem kids_k3 (n kc : Int) (Bc : Nat) (w : World) :
    Calls Try.prog 115 #[.pointer (some ⟨Bc, 0, none⟩), .agg #[.int .i64 3, .int .i64 n, .int .i64 kc]] w fun e w' => e = .returned (.int .i64 (if kc = 2 then 0 else 171)) ∧ w.grownBy w' none := by
  by_cases h : kc = 2
  · rw [if_pos h]
    subst h
    go_enter Try.func115, Try.ntmps115
    go_wp2
    go_ret
    exact ⟨rfl, World.grownBy_alloc _ _ _⟩
  · rw [if_neg h]
    go_enter Try.func115, Try.ntmps115
    go_wp2
    go_ret
    exact ⟨rfl, World.grownBy_alloc _ _ _⟩

set_option maxRecDepth 100000 in
set_option maxHeartbeats 1000000 in
theorem kids_k4 (n kc : Int) (Bc : Nat) (w : World) :
    Calls Try.prog 115 #[.pointer (some ⟨Bc, 0, none⟩), .agg #[.int .i64 4, .int .i64 n, .int .i64 kc]] w fun e w' => e = .returned (.int .i64 (if kc = 2 then 0 else 171)) ∧ w.grownBy w' none := by
  by_cases h : kc = 2
  · rw [if_pos h]
    subst h
    go_enter Try.func115, Try.ntmps115
    go_wp2
    go_ret
    exact ⟨rfl, World.grownBy_alloc _ _ _⟩
  · rw [if_neg h]
    go_enter Try.func115, Try.ntmps115
    go_wp2
    go_ret
    exact ⟨rfl, World.grownBy_alloc _ _ _⟩

set_option maxRecDepth 100000 in
set_option maxHeartbeats 1000000 in
theorem kids_k6 (n kc : Int) (Bc : Nat) (w : World) :
    Calls Try.prog 115 #[.pointer (some ⟨Bc, 0, none⟩), .agg #[.int .i64 6, .int .i64 n, .int .i64 kc]] w fun e w' => e = .returned (.int .i64 (if kc = 2 then 0 else 171)) ∧ w.grownBy w' none := by
  by_cases h : kc = 2
  · rw [if_pos h]
    subst h
    go_enter Try.func115, Try.ntmps115
    go_wp2
    go_ret
    exact ⟨rfl, World.grownBy_alloc _ _ _⟩
  · rw [if_neg h]
    go_enter Try.func115, Try.ntmps115
    go_wp2
    go_ret
    exact ⟨rfl, World.grownBy_alloc _ _ _⟩

set_option maxRecDepth 100000 in
set_option maxHeartbeats 1000000 in
theorem kids_k20 (n kc : Int) (Bc : Nat) (w : World) :
    Calls Try.prog 115 #[.pointer (some ⟨Bc, 0, none⟩), .agg #[.int .i64 20, .int .i64 n, .int .i64 kc]] w fun e w' => e = .returned (.int .i64 (if kc = 2 then 0 else 171)) ∧ w.grownBy w' none := by
  by_cases h : kc = 2
  · rw [if_pos h]
    subst h
    go_enter Try.func115, Try.ntmps115
    go_wp2
    go_ret
    exact ⟨rfl, World.grownBy_alloc _ _ _⟩
  · rw [if_neg h]
    go_enter Try.func115, Try.ntmps115
    go_wp2
    go_ret
    exact ⟨rfl, World.grownBy_alloc _ _ _⟩

end Go.Proofs.Ytecaolkbllbokaa.TG

namespace Go.Proofs.Ytecaolkbllbokaa.TG
open Go.RowKit Go.Great
set_option linter.unusedSimpArgs false
set_option linter.unusedVariables false

set_option maxRecDepth 100000 in
set_option maxHeartbeats 1000000 in
theorem kids_k21 (n kc : Int) (Bc : Nat) (w : World) :
    Calls Try.prog 115 #[.pointer (some ⟨Bc, 0, none⟩), .agg #[.int .i64 21, .int .i64 n, .int .i64 kc]] w fun e w' => e = .returned (.int .i64 (if kc = 2 then 0 else 171)) ∧ w.grownBy w' none := by
  by_cases h : kc = 2
  · rw [if_pos h]
    subst h
    go_enter Try.func115, Try.ntmps115
    go_wp2
    go_ret
    exact ⟨rfl, World.grownBy_alloc _ _ _⟩
  · rw [if_neg h]
    go_enter Try.func115, Try.ntmps115
    go_wp2
    go_ret
    exact ⟨rfl, World.grownBy_alloc _ _ _⟩

set_option maxRecDepth 100000 in
set_option maxHeartbeats 1000000 in
theorem kids_k23 (n kc : Int) (Bc : Nat) (w : World) :
    Calls Try.prog 115 #[.pointer (some ⟨Bc, 0, none⟩), .agg #[.int .i64 23, .int .i64 n, .int .i64 kc]] w fun e w' => e = .returned (.int .i64 (if kc = 2 then 0 else 171)) ∧ w.grownBy w' none := by
  by_cases h : kc = 2
  · rw [if_pos h]
    subst h
    go_enter Try.func115, Try.ntmps115
    go_wp2
    go_ret
    exact ⟨rfl, World.grownBy_alloc _ _ _⟩
  · rw [if_neg h]
    go_enter Try.func115, Try.ntmps115
    go_wp2
    go_ret
    exact ⟨rfl, World.grownBy_alloc _ _ _⟩

set_option maxRecDepth 100000 in
set_option maxHeartbeats 1000000 in
theorem kids_k24 (n kc : Int) (Bc : Nat) (w : World) :
    Calls Try.prog 115 #[.pointer (some ⟨Bc, 0, none⟩), .agg #[.int .i64 24, .int .i64 n, .int .i64 kc]] w fun e w' => e = .returned (.int .i64 (if kc = 2 then 0 else 171)) ∧ w.grownBy w' none := by
  by_cases h : kc = 2
  · rw [if_pos h]
    subst h
    go_enter Try.func115, Try.ntmps115
    go_wp2
    go_ret
    exact ⟨rfl, World.grownBy_alloc _ _ _⟩
  · rw [if_neg h]
    go_enter Try.func115, Try.ntmps115
    go_wp2
    go_ret
    exact ⟨rfl, World.grownBy_alloc _ _ _⟩

end Go.Proofs.Ytecaolkbllbokaa.TG

namespace Go.Proofs.Ytecaolkbllbokaa.TG
open Go.RowKit Go.Great
set_option linter.unusedSimpArgs false
set_option linter.unusedVariables false

set_option maxRecDepth 100000 in
set_option maxHeartbeats 1000000 in
theorem kids_k7 (n kc : Int) (Bc : Nat) (w : World) :
    Calls Try.prog 115 #[.pointer (some ⟨Bc, 0, none⟩), .agg #[.int .i64 7, .int .i64 n, .int .i64 kc]] w fun e w' => e = .returned (.int .i64 (if kc = 0 then 0 else 171)) ∧ w.grownBy w' none := by
  by_cases h : kc = 0
  · rw [if_pos h]
    subst h
    go_enter Try.func115, Try.ntmps115
    go_wp2
    go_ret
    exact ⟨rfl, World.grownBy_alloc _ _ _⟩
  · rw [if_neg h]
    go_enter Try.func115, Try.ntmps115
    go_wp2
    go_ret
    exact ⟨rfl, World.grownBy_alloc _ _ _⟩

set_option maxRecDepth 100000 in
set_option maxHeartbeats 1000000 in
theorem kids_k8 (n kc : Int) (Bc : Nat) (w : World) :
    Calls Try.prog 115 #[.pointer (some ⟨Bc, 0, none⟩), .agg #[.int .i64 8, .int .i64 n, .int .i64 kc]] w fun e w' => e = .returned (.int .i64 (if kc = 0 then 0 else 171)) ∧ w.grownBy w' none := by
  by_cases h : kc = 0
  · rw [if_pos h]
    subst h
    go_enter Try.func115, Try.ntmps115
    go_wp2
    go_ret
    exact ⟨rfl, World.grownBy_alloc _ _ _⟩
  · rw [if_neg h]
    go_enter Try.func115, Try.ntmps115
    go_wp2
    go_ret
    exact ⟨rfl, World.grownBy_alloc _ _ _⟩

set_option maxRecDepth 100000 in
set_option maxHeartbeats 1000000 in
theorem kids_k12 (n kc : Int) (Bc : Nat) (w : World) :
    Calls Try.prog 115 #[.pointer (some ⟨Bc, 0, none⟩), .agg #[.int .i64 12, .int .i64 n, .int .i64 kc]] w fun e w' => e = .returned (.int .i64 (if kc = 0 then 0 else 171)) ∧ w.grownBy w' none := by
  by_cases h : kc = 0
  · rw [if_pos h]
    subst h
    go_enter Try.func115, Try.ntmps115
    go_wp2
    go_ret
    exact ⟨rfl, World.grownBy_alloc _ _ _⟩
  · rw [if_neg h]
    go_enter Try.func115, Try.ntmps115
    go_wp2
    go_ret
    exact ⟨rfl, World.grownBy_alloc _ _ _⟩

set_option maxRecDepth 100000 in
set_option maxHeartbeats 1000000 in
theorem kids_k13 (n kc : Int) (Bc : Nat) (w : World) :
    Calls Try.prog 115 #[.pointer (some ⟨Bc, 0, none⟩), .agg #[.int .i64 13, .int .i64 n, .int .i64 kc]] w fun e w' => e = .returned (.int .i64 (if kc = 0 then 0 else 171)) ∧ w.grownBy w' none := by
  by_cases h : kc = 0
  · rw [if_pos h]
    subst h
    go_enter Try.func115, Try.ntmps115
    go_wp2
    go_ret
    exact ⟨rfl, World.grownBy_alloc _ _ _⟩
  · rw [if_neg h]
    go_enter Try.func115, Try.ntmps115
    go_wp2
    go_ret
    exact ⟨rfl, World.grownBy_alloc _ _ _⟩

end Go.Proofs.Ytecaolkbllbokaa.TG

namespace Go.Proofs.Ytecaolkbllbokaa.TG
open Go.RowKit Go.Great
set_option linter.unusedSimpArgs false
set_option linter.unusedVariables false

set_option maxRecDepth 100000 in
set_option maxHeartbeats 1000000 in
theorem kids_k14 (n kc : Int) (Bc : Nat) (w : World) :
    Calls Try.prog 115 #[.pointer (some ⟨Bc, 0, none⟩), .agg #[.int .i64 14, .int .i64 n, .int .i64 kc]] w fun e w' => e = .returned (.int .i64 (if kc = 0 then 0 else 171)) ∧ w.grownBy w' none := by
  by_cases h : kc = 0
  · rw [if_pos h]
    subst h
    go_enter Try.func115, Try.ntmps115
    go_wp2
    go_ret
    exact ⟨rfl, World.grownBy_alloc _ _ _⟩
  · rw [if_neg h]
    go_enter Try.func115, Try.ntmps115
    go_wp2
    go_ret
    exact ⟨rfl, World.grownBy_alloc _ _ _⟩

set_option maxRecDepth 100000 in
set_option maxHeartbeats 1000000 in
theorem kids_k15 (n kc : Int) (Bc : Nat) (w : World) :
    Calls Try.prog 115 #[.pointer (some ⟨Bc, 0, none⟩), .agg #[.int .i64 15, .int .i64 n, .int .i64 kc]] w fun e w' => e = .returned (.int .i64 (if kc = 0 then 0 else 171)) ∧ w.grownBy w' none := by
  by_cases h : kc = 0
  · rw [if_pos h]
    subst h
    go_enter Try.func115, Try.ntmps115
    go_wp2
    go_ret
    exact ⟨rfl, World.grownBy_alloc _ _ _⟩
  · rw [if_neg h]
    go_enter Try.func115, Try.ntmps115
    go_wp2
    go_ret
    exact ⟨rfl, World.grownBy_alloc _ _ _⟩

set_option maxRecDepth 100000 in
set_option maxHeartbeats 1000000 in
theorem kids_k16 (n kc : Int) (Bc : Nat) (w : World) :
    Calls Try.prog 115 #[.pointer (some ⟨Bc, 0, none⟩), .agg #[.int .i64 16, .int .i64 n, .int .i64 kc]] w fun e w' => e = .returned (.int .i64 (if kc = 0 then 0 else 171)) ∧ w.grownBy w' none := by
  by_cases h : kc = 0
  · rw [if_pos h]
    subst h
    go_enter Try.func115, Try.ntmps115
    go_wp2
    go_ret
    exact ⟨rfl, World.grownBy_alloc _ _ _⟩
  · rw [if_neg h]
    go_enter Try.func115, Try.ntmps115
    go_wp2
    go_ret
    exact ⟨rfl, World.grownBy_alloc _ _ _⟩

end Go.Proofs.Ytecaolkbllbokaa.TG

namespace Go.Proofs.Ytecaolkbllbokaa.TG
open Go.RowKit Go.Great
set_option linter.unusedSimpArgs false
set_option linter.unusedVariables false

def sOpen : ByteArray := ⟨#[111, 112, 101, 110]⟩
def sRead : ByteArray := ⟨#[114, 101, 97, 100]⟩
def sWrite : ByteArray := ⟨#[119, 114, 105, 116, 101]⟩
def sList : ByteArray := ⟨#[108, 105, 115, 116]⟩
def sClose : ByteArray := ⟨#[99, 108, 111, 115, 101]⟩
def callCells : Array Value := #[.string sOpen, .int .i64 0, .int .i64 3, .int .i64 1, .string sRead, .int .i64 0, .int .i64 3, .int .i64 1, .string sWrite, .int .i64 0, .int .i64 3, .int .i64 1,
  .string sList, .int .i64 0, .int .i64 4, .int .i64 1, .string sClose, .int .i64 0, .int .i64 1, .int .i64 1]

theorem calls_any (w : World) : Calls Try.prog 142 #[] w fun e w' => e = .returned (.slice (some ⟨w.heap.size, 0, none⟩) 5 5) ∧ w' = w.alloc (.cells callCells 165) := by
  go_enter Try.func142, Try.ntmps142
  go_wp2_with (refine wpList_buildSliceTo rfl 162 165 5 _ rfl w.heap.size rfl (some 6) rfl Try.underlying162 callCells (by kernel_rfl) ?_)
  go_ret
  exact ⟨rfl, rfl⟩

set_option maxHeartbeats 1000000 in
theorem row_any (n : Nat) (hn : n < 5) (b : Nat) (x : ByteArray) (y t u : Int) (w : World) (hb : b < w.heap.size) (h0 : w.cell? ⟨b, n * 4, none⟩ = some (.string x)) (h1 : w.cell? ⟨b, n * 4 + 1, none⟩ = some (.int .i64 y)) (h2 : w.cell? ⟨b, n * 4 + 2, none⟩ = some (.int .i64 t)) (h3 : w.cell? ⟨b, n * 4 + 3, none⟩ = some (.int .i64 u)) :
    Calls Try.prog 91 #[.slice (some ⟨b, 0, none⟩) 5 5, .int .i64 n] w fun e w' => e = .returned (.tuple #[.agg #[.string x, .int .i64 y, .int .i64 t, .int .i64 u], .bool true]) ∧ w' = w.alloc (.cells #[.string x, .int .i64 y, .int .i64 t, .int .i64 u] 165) := by
  rcases (by omega : n = 0 ∨ n = 1 ∨ n = 2 ∨ n = 3 ∨ n = 4) with rfl | rfl | rfl | rfl | rfl
  all_goals
    simp only [Nat.reduceMul, Nat.reduceAdd, Nat.zero_mul, Nat.zero_add] at h0 h1 h2 h3
    go_enter Try.func91, Try.ntmps91
    go_wp2
    (try simp only [Exit.inBlock, Exit.then])
    refine bodyPost_ret (v := .tuple #[.agg #[.string x, .int .i64 y, .int .i64 t, .int .i64 u], .bool true]) ?_ rfl ⟨rfl, ?_⟩
    · rw [results_cell_tmp rfl]
      go_simp
    · rfl

theorem callCells_at (w : World) (g : Nat) (hg : g = w.heap.size) (i : Nat) (v : Value) (h : callCells[i]? = some v) : (w.alloc (.cells callCells 165)).cell? ⟨g, i, none⟩ = some v := by
  subst hg
  rw [World.cell?_alloc_at (hn := rfl)]
  exact h

def sysName (n : Nat) : ByteArray := [sOpen, sRead, sWrite, sList, sClose].getD n sOpen
def sysTakes (n : Nat) : Int := [3, 3, 3, 4, 1].getD n 0

set_option maxHeartbeats 1000000 in
theorem sys_any (n : Nat) (hn : n < 5) (w : World) :
    Calls Try.prog 128 #[.int .i64 n] w fun e w' => e = .returned (.tuple #[.agg #[.string (sysName n), .int .i64 0, .int .i64 (sysTakes n), .int .i64 1], .bool true]) ∧ w.grownBy w' none := by
  have C := Lib.hid calls_any
  have R := Lib.hid (fun w2 hb h0 h1 h2 h3 => row_any n hn (w.heap.size + 1) (sysName n) 0 (sysTakes n) 1 w2 hb h0 h1 h2 h3)
  have K := Lib.hid (callCells_at)
  have T0 : callCells[n * 4]? = some (.string (sysName n)) := by rcases (by omega : n = 0 ∨ n = 1 ∨ n = 2 ∨ n = 3 ∨ n = 4) with rfl | rfl | rfl | rfl | rfl <;> rfl
  have T1 : callCells[n * 4 + 1]? = some (.int .i64 0) := by rcases (by omega : n = 0 ∨ n = 1 ∨ n = 2 ∨ n = 3 ∨ n = 4) with rfl | rfl | rfl | rfl | rfl <;> rfl
  have T2 : callCells[n * 4 + 2]? = some (.int .i64 (sysTakes n)) := by rcases (by omega : n = 0 ∨ n = 1 ∨ n = 2 ∨ n = 3 ∨ n = 4) with rfl | rfl | rfl | rfl | rfl <;> rfl
  have T3 : callCells[n * 4 + 3]? = some (.int .i64 1) := by rcases (by omega : n = 0 ∨ n = 1 ∨ n = 2 ∨ n = 3 ∨ n = 4) with rfl | rfl | rfl | rfl | rfl <;> rfl
  have HT := Lib.hid (And.intro T0 (And.intro T1 (And.intro T2 T3)))
  clear T0 T1 T2 T3
  generalize sysName n = nm at *
  generalize sysTakes n = tk at *
  go_enter Try.func128, Try.ntmps128
  go_wp2_with (first
    | (go_at_call 142; refine (C.out _).mono ?_; rintro e w1 ⟨rfl, rfl⟩)
    | (go_at_call 91; refine (R.out _ (by simp) ((K.out _ _ (by simp) _ _ HT.out.1)) (K.out _ _ (by simp) _ _ HT.out.2.1) (K.out _ _ (by simp) _ _ HT.out.2.2.1) (K.out _ _ (by simp) _ _ HT.out.2.2.2)).mono ?_; rintro e w2 ⟨rfl, rfl⟩))
  (try simp only [Exit.inBlock, Exit.then])
  refine bodyPost_ret (v := .tuple #[.agg #[.string nm, .int .i64 0, .int .i64 tk, .int .i64 1], .bool true]) ?_ rfl ⟨rfl, ?_⟩
  · rw [results_cell_tmp rfl]
    go_simp
  · exact grownBy_trans (grownBy_trans (World.grownBy_alloc _ _ _) (World.grownBy_alloc _ _ _)) (World.grownBy_alloc _ _ _)

theorem row_out (n : Int) (hn : n < 0 ∨ 5 ≤ n) (b : Nat) (w : World) (hb : b < w.heap.size) :
    Calls Try.prog 91 #[.slice (some ⟨b, 0, none⟩) 5 5, .int .i64 n] w fun e w' => e = .returned (.tuple #[.agg #[.string ⟨#[]⟩, .int .i64 0, .int .i64 0, .int .i64 0], .bool false]) ∧ w' = w.alloc (.cells #[.string ⟨#[]⟩, .int .i64 0, .int .i64 0, .int .i64 0] 165) := by
  rcases hn with hn | hn
  · go_enter Try.func91, Try.ntmps91
    go_wp2
    (try simp only [Exit.inBlock, Exit.then])
    refine bodyPost_ret (v := .tuple #[.agg #[.string ⟨#[]⟩, .int .i64 0, .int .i64 0, .int .i64 0], .bool false]) ?_ rfl ⟨rfl, ?_⟩
    · rw [results_cell_tmp rfl]
      go_simp
    · rfl
  · have hn0 : ¬ n < 0 := by omega
    go_enter Try.func91, Try.ntmps91
    go_wp2
    (try simp only [Exit.inBlock, Exit.then])
    refine bodyPost_ret (v := .tuple #[.agg #[.string ⟨#[]⟩, .int .i64 0, .int .i64 0, .int .i64 0], .bool false]) ?_ rfl ⟨rfl, ?_⟩
    · rw [results_cell_tmp rfl]
      go_simp
    · rfl

set_option maxHeartbeats 1000000 in
theorem sys_out (n : Int) (hn : n < 0 ∨ 5 ≤ n) (w : World) :
    Calls Try.prog 128 #[.int .i64 n] w fun e w' => e = .returned (.tuple #[.agg #[.string ⟨#[]⟩, .int .i64 0, .int .i64 0, .int .i64 0], .bool false]) ∧ w.grownBy w' none := by
  have C := Lib.hid calls_any
  have R := Lib.hid (fun w2 hb => row_out n hn (w.heap.size + 1) w2 hb)
  clear hn
  go_enter Try.func128, Try.ntmps128
  go_wp2_with (first
    | (go_at_call 142; refine (C.out _).mono ?_; rintro e w1 ⟨rfl, rfl⟩)
    | (go_at_call 91; refine (R.out _ (by simp)).mono ?_; rintro e w2 ⟨rfl, rfl⟩))
  (try simp only [Exit.inBlock, Exit.then])
  refine bodyPost_ret (v := .tuple #[.agg #[.string ⟨#[]⟩, .int .i64 0, .int .i64 0, .int .i64 0], .bool false]) ?_ rfl ⟨rfl, ?_⟩
  · rw [results_cell_tmp rfl]
    go_simp
  · exact grownBy_trans (grownBy_trans (World.grownBy_alloc _ _ _) (World.grownBy_alloc _ _ _)) (World.grownBy_alloc _ _ _)

end Go.Proofs.Ytecaolkbllbokaa.TG
