/-
  Walks of package tongue's kids: blocks, tests, calls. Conditions: as each theorem states.
-/
import Derived.Test.YtecaolkbllbokaaTgNum
import Derived.Test.YtecaolkbllbokaaTgSys
import Derived.Test.YtecaolkbllbokaaTgHead
namespace Go.Proofs.Ytecaolkbllbokaa.TG
open Go.RowKit Go.Great
set_option linter.unusedSimpArgs false
set_option linter.unusedVariables false

set_option maxRecDepth 100000 in
set_option maxHeartbeats 1000000 in
theorem kids_k1 (n kc : Int) (Bc : Nat) (w : World) :
    Calls Try.prog 115 #[.pointer (some ⟨Bc, 0, none⟩), .agg #[.int .i64 1, .int .i64 n, .int .i64 kc]] w fun e w' => e = .returned (.int .i64 (if 0 ≤ kc then 0 else 171)) ∧ w.grownBy w' none := by
  by_cases h : 0 ≤ kc
  · rw [if_pos h]
    have hm : max kc 0 = kc := by omega
    have hb : (kc != kc) = false := by simp
    go_enter Try.func115, Try.ntmps115
    go_wp2
    all_goals first
      | (exfalso; simp [hm] at *; done)
      | (go_ret; exact ⟨rfl, World.grownBy_alloc _ _ _⟩)
  · rw [if_neg h]
    have hm : max kc 0 = 0 := by omega
    have hb : (kc != 0) = true := by simp; omega
    go_enter Try.func115, Try.ntmps115
    go_wp2
    all_goals first
      | (exfalso; simp [hm] at *; omega)
      | (go_ret; exact ⟨rfl, World.grownBy_alloc _ _ _⟩)

set_option maxRecDepth 100000 in
set_option maxHeartbeats 1000000 in
theorem kids_k5 (n kc : Int) (Bc : Nat) (w : World) :
    Calls Try.prog 115 #[.pointer (some ⟨Bc, 0, none⟩), .agg #[.int .i64 5, .int .i64 n, .int .i64 kc]] w fun e w' => e = .returned (.int .i64 (if 2 ≤ kc ∧ kc ≤ 3 then 0 else 171)) ∧ w.grownBy w' none := by
  by_cases h : 2 ≤ kc ∧ kc ≤ 3
  · rw [if_pos h]
    have hm : min (max kc 2) 3 = kc := by omega
    have hb : (kc != kc) = false := by simp
    go_enter Try.func115, Try.ntmps115
    go_wp2
    all_goals first
      | (exfalso; simp [hm] at *; done)
      | (go_ret; exact ⟨rfl, World.grownBy_alloc _ _ _⟩)
  · rw [if_neg h]
    have hb : (kc != min (max kc 2) 3) = true := by simp; omega
    generalize hm : min (max kc 2) 3 = m at *
    go_enter Try.func115, Try.ntmps115
    go_wp2
    all_goals first
      | (exfalso; simp [hm] at *; omega)
      | (go_ret; exact ⟨rfl, World.grownBy_alloc _ _ _⟩)

set_option maxRecDepth 100000 in
set_option maxHeartbeats 1000000 in
theorem kids_k26 (n : Nat) (hn : n < 5) (kc : Int) (Bc : Nat) (w : World) :
    Calls Try.prog 115 #[.pointer (some ⟨Bc, 0, none⟩), .agg #[.int .i64 26, .int .i64 n, .int .i64 kc]] w fun e w' => e = .returned (.int .i64 (if kc = sysTakes n then 0 else 174)) ∧ w.grownBy w' none := by
  have S := Lib.hid (sys_any n hn)
  clear hn
  generalize sysName n = nm at *
  generalize sysTakes n = tk at *
  by_cases h : kc = tk
  · rw [if_pos h]
    subst h
    go_enter Try.func115, Try.ntmps115
    go_wp2_with (go_at_call 128; refine (S.out _).mono ?_; rintro e w1 ⟨rfl, hg⟩; have HG := Lib.hid hg; have z0 := hg.cell (a := ⟨w.heap.size, 0, none⟩) (v := .int .i64 26) (by simp) (by simp); have z2 := hg.cell (a := ⟨w.heap.size, 2, none⟩) (v := .int .i64 kc) (by simp) (by simp); have hz := size_lt hg; clear hg)
    go_ret
    exact ⟨rfl, grownBy_trans (grownBy_trans (World.grownBy_alloc _ _ _) HG.out) (World.grownBy_alloc _ _ _)⟩
  · rw [if_neg h]
    have hb : (kc != tk) = true := by simpa using h
    go_enter Try.func115, Try.ntmps115
    go_wp2_with (go_at_call 128; refine (S.out _).mono ?_; rintro e w1 ⟨rfl, hg⟩; have HG := Lib.hid hg; have z0 := hg.cell (a := ⟨w.heap.size, 0, none⟩) (v := .int .i64 26) (by simp) (by simp); have z2 := hg.cell (a := ⟨w.heap.size, 2, none⟩) (v := .int .i64 kc) (by simp) (by simp); have hz := size_lt hg; clear hg)
    go_ret
    exact ⟨rfl, grownBy_trans (grownBy_trans (World.grownBy_alloc _ _ _) HG.out) (World.grownBy_alloc _ _ _)⟩

end Go.Proofs.Ytecaolkbllbokaa.TG
