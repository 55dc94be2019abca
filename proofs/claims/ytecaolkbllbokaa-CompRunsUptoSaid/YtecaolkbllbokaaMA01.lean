/-
  Walks of package tongue's number, by its two closures. Conditions: as each theorem states.
-/
import Derived.Test.YtecaolkbllbokaaMA00
import Derived.Deep.QuietTactic
import Derived.BigQuiet
namespace Go.Proofs.Ytecaolkbllbokaa.TG
open Go.RowKit Go.Great
set_option linter.unusedSimpArgs false
set_option linter.unusedVariables false

def amongE (x n e : Int) : Int := if x < 0 ∨ n ≤ x then e else 0
def mayE (b : Bool) : Int := if b then 0 else 171

theorem among_any (x n e : Int) (b : Nat) (w : World) (h1 : w.cell? ⟨b, 1, none⟩ = some (.int .i64 x)) :
    Calls Try.prog 135 #[.int .i64 n, .int .i64 e, .pointer (some ⟨b, 0, none⟩)] w fun r w' => r = .returned (.int .i64 (amongE x n e)) ∧ w = w' := by
  unfold amongE
  by_cases c1 : x < 0
  · rw [if_pos (Or.inl c1)]
    go_enter Try.func135, Try.ntmps135
    go_wp2
    go_ret
    exact ⟨rfl, rfl⟩
  · by_cases c2 : n ≤ x
    · rw [if_pos (Or.inr c2)]
      go_enter Try.func135, Try.ntmps135
      go_wp2
      go_ret
      exact ⟨rfl, rfl⟩
    · rw [if_neg (by omega)]
      go_enter Try.func135, Try.ntmps135
      go_wp2
      go_ret
      exact ⟨rfl, rfl⟩

theorem may_any (b : Bool) (w : World) :
    Calls Try.prog 136 #[.bool b] w fun r w' => r = .returned (.int .i64 (mayE b)) ∧ w = w' := by
  cases b
  all_goals
    go_enter Try.func136, Try.ntmps136
    go_wp2
    go_ret
    exact ⟨rfl, rfl⟩

/-- What number answers, by the kind k and the number n of a part. -/
def numE (nl nt nf loops k n : Int) : Int :=
  if k = 12 then 0 else if k = 2 ∨ k = 13 then amongE n nl 173 else if k = 14 ∨ k = 15 then amongE n nt 173 else if k = 25 then amongE n nf 173 else
  if k = 26 then amongE n 5 171 else if k = 7 ∨ k = 8 then amongE n loops 171 else if k = 19 then mayE (opn n == 1) else if k = 20 then mayE (opn n == 2) else
  if k = 21 then mayE (n == 32 || n == 33 || n == 41) else mayE (n == 0)

/-- What a walk of the checker reads: the checker's block and its function's cells. -/
structure Chk (w : World) (Bc bf of : Nat) (vt vf vl vp : Value) (at_ loops most : Int) : Prop where
  lt : Bc < w.heap.size
  ltf : bf < w.heap.size
  ne : bf ≠ Bc
  c0 : w.cell? ⟨Bc, 0, none⟩ = some vt
  c1 : w.cell? ⟨Bc, 1, none⟩ = some vf
  c2 : w.cell? ⟨Bc, 2, none⟩ = some (.pointer (some ⟨bf, of, none⟩))
  c3 : w.cell? ⟨Bc, 3, none⟩ = some (.int .i64 at_)
  c4 : w.cell? ⟨Bc, 4, none⟩ = some (.int .i64 loops)
  c5 : w.cell? ⟨Bc, 5, none⟩ = some (.int .i64 most)
  f2 : w.cell? ⟨bf, of + 2, none⟩ = some vl
  f3 : w.cell? ⟨bf, of + 3, none⟩ = some vp

set_option maxRecDepth 100000 in
set_option maxHeartbeats 2000000 in
theorem number_num (n kc : Int) (Bc : Nat) (w : World) :
    Calls Try.prog 114 #[.pointer (some ⟨Bc, 0, none⟩), .agg #[.int .i64 12, .int .i64 n, .int .i64 kc]] w fun e w' => e = .returned (.int .i64 0) ∧ w.grownBy w' none := by
  go_enter Try.func114, Try.ntmps114
  go_wp2
  go_ret
  exact ⟨rfl, World.grownBy_alloc _ _ _⟩

set_option maxRecDepth 100000 in
set_option maxHeartbeats 2000000 in
theorem number_local (k n kc : Int) (hk : k = 2 ∨ k = 13) (Bc bf of nl cl : Nat) (pl : Option Addr) (w : World) (hlt : Bc < w.heap.size) (hltf : bf < w.heap.size)
    (h2 : w.cell? ⟨Bc, 2, none⟩ = some (.pointer (some ⟨bf, of, none⟩))) (hf : w.cell? ⟨bf, of + 2, none⟩ = some (.slice pl nl cl)) :
    Calls Try.prog 114 #[.pointer (some ⟨Bc, 0, none⟩), .agg #[.int .i64 k, .int .i64 n, .int .i64 kc]] w fun e w' => e = .returned (.int .i64 (amongE n nl 173)) ∧ w.grownBy w' none := by
  rcases hk with rfl | rfl
  all_goals
    go_enter Try.func114, Try.ntmps114
    go_wp2_with (go_at_call 135; refine (among_any n nl 173 w.heap.size _ (by simp)).mono ?_; rintro e w1 ⟨rfl, rfl⟩)
    go_ret
    exact ⟨rfl, World.grownBy_alloc _ _ _⟩

set_option maxRecDepth 100000 in
set_option maxHeartbeats 2000000 in
theorem number_text (k n kc : Int) (hk : k = 14 ∨ k = 15) (Bc nl cl : Nat) (pl : Option Addr) (w : World) (hlt : Bc < w.heap.size)
    (h2 : w.cell? ⟨Bc, 0, none⟩ = some (.slice pl nl cl)) :
    Calls Try.prog 114 #[.pointer (some ⟨Bc, 0, none⟩), .agg #[.int .i64 k, .int .i64 n, .int .i64 kc]] w fun e w' => e = .returned (.int .i64 (amongE n nl 173)) ∧ w.grownBy w' none := by
  rcases hk with rfl | rfl
  all_goals
    go_enter Try.func114, Try.ntmps114
    go_wp2_with (go_at_call 135; refine (among_any n nl 173 w.heap.size _ (by simp)).mono ?_; rintro e w1 ⟨rfl, rfl⟩)
    go_ret
    exact ⟨rfl, World.grownBy_alloc _ _ _⟩

set_option maxRecDepth 100000 in
set_option maxHeartbeats 2000000 in
theorem number_call (n kc : Int) (Bc nl cl : Nat) (pl : Option Addr) (w : World) (hlt : Bc < w.heap.size)
    (h2 : w.cell? ⟨Bc, 1, none⟩ = some (.slice pl nl cl)) :
    Calls Try.prog 114 #[.pointer (some ⟨Bc, 0, none⟩), .agg #[.int .i64 25, .int .i64 n, .int .i64 kc]] w fun e w' => e = .returned (.int .i64 (amongE n nl 173)) ∧ w.grownBy w' none := by
    go_enter Try.func114, Try.ntmps114
    go_wp2_with (go_at_call 135; refine (among_any n nl 173 w.heap.size _ (by simp)).mono ?_; rintro e w1 ⟨rfl, rfl⟩)
    go_ret
    exact ⟨rfl, World.grownBy_alloc _ _ _⟩

set_option maxRecDepth 100000 in
set_option maxHeartbeats 2000000 in
theorem number_sys (n kc : Int) (Bc : Nat) (w : World) :
    Calls Try.prog 114 #[.pointer (some ⟨Bc, 0, none⟩), .agg #[.int .i64 26, .int .i64 n, .int .i64 kc]] w fun e w' => e = .returned (.int .i64 (amongE n 5 171)) ∧ w.grownBy w' none := by
    go_enter Try.func114, Try.ntmps114
    go_wp2_with (go_at_call 135; refine (among_any n 5 171 w.heap.size _ (by simp)).mono ?_; rintro e w1 ⟨rfl, rfl⟩)
    go_ret
    exact ⟨rfl, World.grownBy_alloc _ _ _⟩

set_option maxRecDepth 100000 in
set_option maxHeartbeats 2000000 in
theorem number_jump (k n kc loops : Int) (hk : k = 7 ∨ k = 8) (Bc : Nat) (w : World) (hlt : Bc < w.heap.size)
    (h2 : w.cell? ⟨Bc, 4, none⟩ = some (.int .i64 loops)) :
    Calls Try.prog 114 #[.pointer (some ⟨Bc, 0, none⟩), .agg #[.int .i64 k, .int .i64 n, .int .i64 kc]] w fun e w' => e = .returned (.int .i64 (amongE n loops 171)) ∧ w.grownBy w' none := by
  rcases hk with rfl | rfl
  all_goals
    go_enter Try.func114, Try.ntmps114
    go_wp2_with (go_at_call 135; refine (among_any n loops 171 w.heap.size _ (by simp)).mono ?_; rintro e w1 ⟨rfl, rfl⟩)
    go_ret
    exact ⟨rfl, World.grownBy_alloc _ _ _⟩

end Go.Proofs.Ytecaolkbllbokaa.TG
