/-
  Walk of the checker's all: a function's parts. Conditions: as each theorem states.
-/
import Derived.Test.YtecaolkbllbokaaTgPartD
namespace Go.Proofs.Ytecaolkbllbokaa.TG
open Go.RowKit Go.Great
set_option linter.unusedSimpArgs false
set_option linter.unusedVariables false

/-- What all answers. -/
def allE (nl nt : Nat) (fs : List Int) (ps : List (Int × Int × Int)) : Int :=
  if (partE nl nt fs ps 65 0 ⟨0, 0, 0⟩).2.1 ≠ 0 then (partE nl nt fs ps 65 0 ⟨0, 0, 0⟩).2.1
  else if (partE nl nt fs ps 65 0 ⟨0, 0, 0⟩).2.2.a ≠ ps.length then 171
  else if 256 < (partE nl nt fs ps 65 0 ⟨0, 0, 0⟩).2.2.m then 175 else 0

set_option maxRecDepth 100000 in
set_option maxHeartbeats 2000000 in
theorem all_any (tc : TypeId) (Bc bf of cp cf nl cl nt ct : Nat) (pt pf pl pp : Option Addr) (fs : List Int) (hfs : fs.length ≤ 1000000) (ps : List (Int × Int × Int)) (hnp : ps.length ≤ 17592186044415) (w : World)
    (hE : Env w Bc bf of (.slice pl nl cl) pp cp ps pf fs) (hB : BoxW tc w Bc bf of (.slice pt nt ct) (.slice pf fs.length cf) ⟨0, 0, 0⟩) :
    Calls Try.prog 35 #[.pointer (some ⟨Bc, 0, none⟩)] w fun e w' => e = .returned (.int .i64 (allE nl nt fs ps)) ∧ w.grownBy w' (some Bc) := by
  have P := Lib.hid (part_any 65 (Nat.le_refl _) tc 0 Bc bf of cp cf nl cl nt ct pt pf pl pp fs hfs ps hnp ⟨0, 0, 0⟩ (Nat.zero_le _) (by decide) (by decide) (by decide) (by decide) w hE hB)
  have G := partE_good nl nt fs ps (by omega) 65 0 ⟨0, 0, 0⟩ (Nat.zero_le _)
  have EE := Lib.hid hE
  clear hE hB
  unfold allE
  generalize partE nl nt fs ps 65 0 ⟨0, 0, 0⟩ = q at *
  obtain ⟨qw, qe, qs⟩ := q
  by_cases h0 : qe = 0
  · subst h0
    have G0 := G rfl
    have ga := G0.a2
    simp only [] at ga
    clear G G0
    have hsa : (qs.a : Int) ≤ ps.length := by omega
    by_cases h1 : qs.a = ps.length
    · have n1 : ((qs.a : Int) != (ps.length : Int)) = false := by simp [h1]
      by_cases h2 : 256 < qs.m
      · rw [if_neg (by simp), if_neg (by simp [h1]), if_pos h2]
        clear h1
        go_enter Try.func35, Try.ntmps35
        go_wp2_with (go_at_call 54; refine P.out.mono ?_; intro e w1 hp; obtain ⟨rfl, hg, hb⟩ := hp; have HG := Lib.hid hg; have hC := env_chk (env_kept EE.out hg) (hb rfl); obtain ⟨hlt, hltf, hne, c0, c1, c2, c3, c4, c5, f2, f3⟩ := hC; clear hg hb)
        go_quiet (fail)
        go_wp2
        go_ret
        exact ⟨rfl, grownBy_drewN' HG.out _⟩
      · rw [if_neg (by simp), if_neg (by simp [h1]), if_neg h2]
        clear h1
        go_enter Try.func35, Try.ntmps35
        go_wp2_with (go_at_call 54; refine P.out.mono ?_; intro e w1 hp; obtain ⟨rfl, hg, hb⟩ := hp; have HG := Lib.hid hg; have hC := env_chk (env_kept EE.out hg) (hb rfl); obtain ⟨hlt, hltf, hne, c0, c1, c2, c3, c4, c5, f2, f3⟩ := hC; clear hg hb)
        go_quiet (fail)
        go_wp2
        go_ret
        exact ⟨rfl, grownBy_drewN' HG.out _⟩
    · have n1 : ((qs.a : Int) != (ps.length : Int)) = true := by simp; omega
      rw [if_neg (by simp), if_pos h1]
      clear h1
      go_enter Try.func35, Try.ntmps35
      go_wp2_with (go_at_call 54; refine P.out.mono ?_; intro e w1 hp; obtain ⟨rfl, hg, hb⟩ := hp; have HG := Lib.hid hg; have hC := env_chk (env_kept EE.out hg) (hb rfl); obtain ⟨hlt, hltf, hne, c0, c1, c2, c3, c4, c5, f2, f3⟩ := hC; clear hg hb)
      go_quiet (fail)
      go_wp2
      go_ret
      exact ⟨rfl, grownBy_drewN' HG.out _⟩
  · have n0 : (qe != 0) = true := by simpa using h0
    rw [if_pos h0]
    clear G h0
    go_enter Try.func35, Try.ntmps35
    go_wp2_with (go_at_call 54; refine P.out.mono ?_; intro e w1 hp; obtain ⟨rfl, hg, hb⟩ := hp; have HG := Lib.hid hg; clear hg hb)
    go_ret
    exact ⟨rfl, HG.out⟩

end Go.Proofs.Ytecaolkbllbokaa.TG
