/-
  Proved: called with any input, the Go function retort/retortlaw10.CellOrder returns true, and its arguments read afterwards as they read before (the given statement Rows.CellOrderSaid). Conditions: none beside those that the given row states.
  The frame below STEP 1 was written by the kit's proof-skeleton program.
-/
import Derived.Test.YtdjenhbglkcapaaRows
import Derived.WalkKit
import Derived.ProofKit
import Derived.OpenShut
import Derived.Test.YtdjenhbglkcapaaCellPlain
namespace Go.Proofs.Ytdjenhbglkcapaa.cellOrder
open Go.ChangeShapes Go.WideShapes Go.ChangeAt Go.RowKit
set_option linter.unusedSimpArgs false
set_option linter.unusedVariables false      -- a walk need not use every 'w<i>' (that an integer argument fits its kind)

open CW
theorem own : ownKnob Try.prog.godebug = none := by kernel_rfl

/-! ### STEP 1: THE WALK: the Go text returns true. 'Grown w w'': the world has at most new blocks (Derived/RowKit3.lean). Part the cases AHEAD of 'go_enter' where a test parts the walk; take each callee by a contract of your own. -/
set_option maxRecDepth 100000 in
set_option maxHeartbeats 2000000 in
theorem walk (a0 : Int) (a1 : Int) (w0 : (Lit.int .i64 a0).wf = true) (w1 : (Lit.int .i64 a1).wf = true) (w : World) :
    Calls Try.prog 8 #[.int .i64 a0, .int .i64 a1] w fun e w' => e = .returned (.bool true) ∧ Grown w w' := by
  obtain ⟨x, rfl⟩ := word_of_wf w0
  obtain ⟨y, rfl⟩ := word_of_wf w1
  clear w0 w1
  have hx := x.isLt
  have hy := y.isLt
  by_cases nx : nan x.toNat = true
  · clear hx hy
    go_enter Try.func8, Try.ntmps8
    go_wp2_with (first | (go_at_call 12; refine (nan_any _ _).mono ?_; rintro e w' ⟨rfl, rfl⟩) | (go_at_call 14; refine (head_true _).mono ?_; rintro e w' ⟨rfl, n, rfl⟩))
    go_ret
    exact ⟨rfl, (Grown.refl _)⟩
  have nx : nan x.toNat = false := by simpa using nx
  by_cases ny : nan y.toNat = true
  · clear hx hy
    go_enter Try.func8, Try.ntmps8
    go_wp2_with (first | (go_at_call 12; refine (nan_any _ _).mono ?_; rintro e w' ⟨rfl, rfl⟩) | (go_at_call 14; refine (head_true _).mono ?_; rintro e w' ⟨rfl, n, rfl⟩))
    go_ret
    exact ⟨rfl, (Grown.refl _)⟩
  have ny : nan y.toNat = false := by simpa using ny
  have r1 : ∀ z : BitVec 64, rank z.toNat = if z.toInt < 0 then wrap64 (-9223372036854775808 - z.toInt) else z.toInt := by
    intro z
    have hz := z.isLt
    have h1 : ng z.toNat = decide (z.toInt < 0) := by
      unfold ng; rw [Bool.eq_iff_iff, BitVec.toInt_eq_toNat_cond]; simp only [beq_iff_eq, decide_eq_true_eq]; split <;> omega
    unfold rank wrap64
    rw [h1]
    by_cases hs : z.toInt < 0
    · rw [if_pos hs, if_pos (by simpa using hs)]
      rw [BitVec.toInt_eq_toNat_cond] at *; split at * <;> omega
    · rw [if_neg hs, if_neg (by simpa using hs)]
      rw [BitVec.toInt_eq_toNat_cond] at *; split at * <;> omega
  have f1 : ((ltwo 41 x y).toInt == 1) = decide (rank x.toNat < rank y.toNat) := by
    have e : ltwo 41 x y = one (Ieee.double.order x.toNat y.toNat == some .lt) := rfl
    rw [e, order_rank _ _ nx ny, one_toInt]
    by_cases c : rank x.toNat < rank y.toNat
    · rw [cmp_lt c, decide_eq_true c]; rfl
    · rw [decide_eq_false c]
      rcases Int.lt_or_eq_of_le (Int.not_lt.1 c) with h | h
      · rw [cmp_gt h]; rfl
      · rw [h]; simp
  have f2 : ((ltwo 40 x y).toInt == 1) = (rank x.toNat == rank y.toNat) := by
    have e : ltwo 40 x y = one (Ieee.double.order x.toNat y.toNat == some .eq) := rfl
    rw [e, order_rank _ _ nx ny, one_toInt]
    rcases Int.lt_trichotomy (rank x.toNat) (rank y.toNat) with h | h | h
    · rw [cmp_lt h, beq_eq_false_iff_ne.2 (show rank x.toNat ≠ rank y.toNat by omega)]; rfl
    · rw [h]; simp
    · rw [cmp_gt h, beq_eq_false_iff_ne.2 (show rank x.toNat ≠ rank y.toNat by omega)]; rfl
  rw [r1, r1] at f1 f2
  by_cases s1 : x.toInt < 0 <;> by_cases s2 : y.toInt < 0
  all_goals
    simp only [s1, s2, if_true, if_false] at f1 f2
    clear hx hy r1
    go_enter Try.func8, Try.ntmps8
    go_wp2_with (first | (go_at_call 12; refine (nan_any _ _).mono ?_; rintro e w' ⟨rfl, rfl⟩) | (go_at_call 14; refine (head_true _).mono ?_; rintro e w' ⟨rfl, n, rfl⟩) | (go_at_call 16; refine (ltwo_any _ _ _ _).mono ?_; rintro e w' ⟨rfl, n, rfl⟩))
    go_ret
    exact ⟨rfl, (Grown.refl _)⟩

/-! ### THE ROW's STEP: WRITTEN OUT: LEAVE IT -/
set_option maxRecDepth 100000 in
theorem lifted (os : Os) (started : os.Started) (H : Type) (enc : TypeId × Value → H) :
    ReturnsInHanded {} Try.checked os 8 .any (Rows.cellOrderSpec.pre6 enc Try.prog Try.f8 Rows.cellOrderRow.domain false) (Rows.cellOrderSpec.post enc Try.prog Try.f8 false true false false) := by
  refine returnsInHanded_of_change (C := Try.checked) own started (by kernel_rfl) Try.func8
    (ChangeSpec.witness6 (enc := enc) (C := Try.checked) false ⟨#[], #[.int .i64 0, .int .i64 0], []⟩ 8 (by kernel_rfl) (by kernel_rfl) (by kernel_rfl) (by kernel_rfl)) ?_
  intro W base args ds gs before hval0 hW hcnd _
  have hval : ∀ (j : Nat) t v, Try.f8.params[j]? = some t → args[j]? = some v → Value.okWide Try.prog W .any base t v := hval0
  have hW' := hW
  obtain ⟨p, q, hA0, hV, rfl, hfz, hnd⟩ := hW
  have hA : DataW.TrodAll enc Try.prog W 0 (fun _ => true) true Try.f8.params.toList args.toList ds p := hA0
  rw [Try.params8] at hA hval
  obtain ⟨v0, vs0, d0, ds0, p0, q0, hargs, rfl, rfl, h0, r0⟩ := trodAll_cons hA
  obtain ⟨v1, vs1, d1, ds1, p1, q1, rfl, rfl, rfl, h1, r1⟩ := trodAll_cons r0
  obtain ⟨rfl, rfl, rfl⟩ := trodAll_nil r1
  obtain rfl : args = #[v0, v1] := by cases args; simp_all
  obtain ⟨rfl, rfl⟩ := trodVars_none hV
  obtain ⟨a0, rfl, rfl, rfl, w0⟩ := open_int Try.underlying3 (hval 0 3 v0 rfl rfl) h0
  obtain ⟨a1, rfl, rfl, rfl, w1⟩ := open_int Try.underlying3 (hval 1 3 v1 rfl rfl) h1
  clear hA0 hval0
  simp only [List.append_nil] at hW'
  refine (walk a0 a1 w0 w1 W).mono fun e W' ⟨he, hg⟩ => ?_
  subst he
  exact ⟨_, rfl, post_of_same (pa := []) (pv := []) hW' (fun _ _ _ => (trodAll_cons_mk (shut_bool Try.underlying4 _) trodAll_mk0)) (fun sp _ => (trodAll_cons_mk (shut_int Try.underlying3 w0) (trodAll_cons_mk (shut_int Try.underlying3 w1) trodAll_mk0))) (fun _ _ => rfl) rfl
    (hg.frame _) hg.2.1 (ok_one (by kernel_rfl) rfl (okWide_bool_mk Try.underlying4 _))⟩

theorem over : Rows.cellOrderRow.holds Try.pinned (OpenSpec.ofChange Rows.cellOrderSpec) :=
  OpenClaim.holds_of_wide 8 Try.f8 rfl rfl rfl rfl rfl rfl rfl ⟨rfl, rfl, rfl, rfl, rfl⟩ rfl rfl rfl rfl rfl (by kernel_rfl) Try.func8 (by kernel_rfl)
    (of_decide_eq_true (by kernel_rfl)) (by unfold Func.isWrapper; first | (rw [if_pos (by decide +kernel)]; kernel_rfl) | (rw [if_neg (by decide +kernel)]; exact ⟨rfl, rfl⟩))
    (fun os started H enc _ => lifted os started H enc)

/-- ████ THE STATEMENT ████ -/
theorem proved : Rows.CellOrderSaid :=
  over
#print axioms proved
end Go.Proofs.Ytdjenhbglkcapaa.cellOrder
