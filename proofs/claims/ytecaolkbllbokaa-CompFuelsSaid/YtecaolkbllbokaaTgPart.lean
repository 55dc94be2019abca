/-
  Walk of the checker's part. Conditions: as each theorem states.
-/
import Derived.Test.YtecaolkbllbokaaTgAlone2
import Derived.Test.YtecaolkbllbokaaTgWant
import Derived.Deep.Draws
namespace Go.Proofs.Ytecaolkbllbokaa.TG
open Go.RowKit Go.Great
set_option linter.unusedSimpArgs false
set_option linter.unusedVariables false

/-- At the end of the parts. -/
theorem part_end (what deep : Int) (Bc bf of np cp : Nat) (vt vf vl : Value) (pp : Option Addr) (at_ loops most : Int) (hat : (np : Int) ≤ at_) (w : World)
    (hC : Chk w Bc bf of vt vf vl (.slice pp np cp) at_ loops most) :
    Calls Try.prog 54 #[.pointer (some ⟨Bc, 0, none⟩), .int .i64 what, .int .i64 deep] w fun e w' => e = .returned (.tuple #[.int .i64 0, .int .i64 171]) ∧ w.grownBy w' none := by
  obtain ⟨hlt, hltf, hne, c0, c1, c2, c3, c4, c5, f2, f3⟩ := hC
  go_enter Try.func54, Try.ntmps54
  go_wp2
  go_quiet (fail)
  go_wp2
  (try simp only [Exit.inBlock, Exit.then])
  refine bodyPost_ret (v := .tuple #[.int .i64 0, .int .i64 171]) ?_ rfl ⟨rfl, ?_⟩
  · rw [results_tmp2 rfl]
    go_simp
  · exact ⟨rfl, rfl, rfl, by simp, fun k hk _ => by simp⟩

end Go.Proofs.Ytecaolkbllbokaa.TG
