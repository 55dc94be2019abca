/-
  Walks of package tongue's kinds and kid: what a part's kind is, and what its kids must be. Conditions: none.
-/
import Derived.Test.YtecaolkbllbokaaTgHead
namespace Go.Proofs.Ytecaolkbllbokaa.TG
open Go.RowKit Go.Great
set_option linter.unusedSimpArgs false
set_option linter.unusedVariables false

/-- A part, by value. -/
def pt (k n c : Int) : Value := .agg #[.int .i64 k, .int .i64 n, .int .i64 c]

def kindsE (k : Int) : Int := if k = 1 then 0 else if k < 12 then 1 else 2
def kidE (kind i : Int) : Int := if kind = 1 then 1 else if (kind = 5 ∨ kind = 6) ∧ 0 < i then 0 else 2

theorem kinds_any (k : Int) (w : World) : Calls Try.prog 113 #[.int .i64 k] w fun e w' => e = .returned (.int .i64 (kindsE k)) ∧ w = w' := by
  unfold kindsE
  by_cases h1 : k = 1
  · subst h1
    rw [if_pos rfl]
    go_enter Try.func113, Try.ntmps113
    go_wp2
    go_ret
    exact ⟨rfl, rfl⟩
  · rw [if_neg h1]
    have e1 : (k == 1) = false := beq_eq_false_iff_ne.2 h1
    clear h1
    by_cases h2 : k < 12
    · rw [if_pos h2]
      go_enter Try.func113, Try.ntmps113
      go_wp2
      go_ret
      exact ⟨rfl, rfl⟩
    · rw [if_neg h2]
      go_enter Try.func113, Try.ntmps113
      go_wp2
      go_ret
      exact ⟨rfl, rfl⟩

theorem kid_any (k n c i : Int) (w : World) : Calls Try.prog 86 #[.agg #[.int .i64 k, .int .i64 n, .int .i64 c], .int .i64 i] w fun e w' => e = .returned (.int .i64 (kidE k i)) ∧ w.grownBy w' none := by
  unfold kidE
  by_cases h1 : k = 1
  · subst h1
    rw [if_pos rfl]
    go_enter Try.func86, Try.ntmps86
    go_wp2
    go_ret
    exact ⟨rfl, World.grownBy_alloc _ _ _⟩
  rw [if_neg h1]
  have e1 : (k == 1) = false := beq_eq_false_iff_ne.2 h1
  clear h1
  by_cases h5 : k = 5
  · subst h5
    by_cases hi : 0 < i
    · rw [if_pos ⟨Or.inl rfl, hi⟩]
      go_enter Try.func86, Try.ntmps86
      go_wp2
      go_ret
      exact ⟨rfl, World.grownBy_alloc _ _ _⟩
    · rw [if_neg (fun h => hi h.2)]
      go_enter Try.func86, Try.ntmps86
      go_wp2
      go_ret
      exact ⟨rfl, World.grownBy_alloc _ _ _⟩
  by_cases h6 : k = 6
  · subst h6
    by_cases hi : 0 < i
    · rw [if_pos ⟨Or.inr rfl, hi⟩]
      go_enter Try.func86, Try.ntmps86
      go_wp2
      go_ret
      exact ⟨rfl, World.grownBy_alloc _ _ _⟩
    · rw [if_neg (fun h => hi h.2)]
      go_enter Try.func86, Try.ntmps86
      go_wp2
      go_ret
      exact ⟨rfl, World.grownBy_alloc _ _ _⟩
  rw [if_neg (fun h => h.1.elim h5 h6)]
  have e5 : (k == 5) = false := beq_eq_false_iff_ne.2 h5
  have e6 : (k == 6) = false := beq_eq_false_iff_ne.2 h6
  clear h5 h6
  go_enter Try.func86, Try.ntmps86
  go_wp2
  go_ret
  exact ⟨rfl, World.grownBy_alloc _ _ _⟩

end Go.Proofs.Ytecaolkbllbokaa.TG
