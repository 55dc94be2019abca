/-
  Proved: called with any input, the Go function retort/retortlaw10.CellShifts returns true, and its arguments read afterwards as they read before (the given statement Rows.CellShiftsSaid). Conditions: none beside those that the given row states.
  The frame below STEP 1 was written by the kit's proof-skeleton program.
-/
import Derived.Test.YtdjenhbglkcapaaRows
import Derived.WalkKit
import Derived.ProofKit
import Derived.OpenShut
import Derived.Test.YtdjenhbglkcapaaCellShift
namespace Go.Proofs.Ytdjenhbglkcapaa.cellShifts
open Go.ChangeShapes Go.WideShapes Go.ChangeAt Go.RowKit
set_option linter.unusedSimpArgs false
set_option linter.unusedVariables false      -- a walk need not use every 'w<i>' (that an integer argument fits its kind)

open CW
theorem own : ownKnob Try.prog.godebug = none := by kernel_rfl

/-! ### STEP 1: THE WALK: the Go text returns true. 'Grown w w'': the world has at most new blocks (Derived/RowKit3.lean). Part the cases AHEAD of 'go_enter' where a test parts the walk; take each callee by a contract of your own. -/
set_option maxRecDepth 100000 in
set_option maxHeartbeats 2000000 in
theorem walk (a0 : Int) (a1 : Int) (w0 : (Lit.int .i64 a0).wf = true) (w1 : (Lit.int .i64 a1).wf = true) (w : World) :
    Calls Try.prog 5 #[.int .i64 a0, .int .i64 a1] w fun e w' => e = .returned (.bool true) ∧ Grown w w' := by
  obtain ⟨x, rfl⟩ := word_of_wf w0
  obtain ⟨y, rfl⟩ := word_of_wf w1
  have hb : bits .and .i64 y.toInt 63 = (y &&& 63#64).toInt := w_and y 63#64
  have hm : y.toNat % 64 < 64 := Nat.mod_lt _ (by decide)
  have hk : (y &&& 63#64).toNat = y.toNat % 64 := by
    rw [BitVec.toNat_and]; exact Nat.and_two_pow_sub_one_eq_mod y.toNat 6
  have hk2 : (y &&& 63#64).toNat % 64 = y.toNat % 64 := by rw [hk]; omega
  have hk3 : (y &&& 63#64).toInt = ((y.toNat % 64 : Nat) : Int) := by
    rw [BitVec.toInt_eq_toNat_cond, hk, if_pos (by omega)]
  have f1 : ((ltwo 28 x y).toInt != (ltwo 28 x (y &&& 63#64)).toInt) = false := by rw [lt_shl, lt_shl, hk2]; simp
  have f2 : ((ltwo 29 x y).toInt != (ltwo 29 x (y &&& 63#64)).toInt) = false := by rw [lt_shr, lt_shr, hk2]; simp
  have f3 : ((ltwo 30 x y).toInt != (ltwo 30 x (y &&& 63#64)).toInt) = false := by rw [lt_ushr, lt_ushr, hk2]; simp
  have f4 : ((ltwo 28 x y).toInt == (ltwo 22 x (ltwo 28 1#64 (y &&& 63#64))).toInt) = true := by
    rw [lt_shl, lt_mul, lt_shl, hk2, up_mul]; simp
  have f5 : ((ltwo 28 (ltwo 29 x y) (y &&& 63#64)).toInt == (ltwo 21 x (ltwo 25 x (ltwo 21 (ltwo 28 1#64 (y &&& 63#64)) 1#64))).toInt) = true := by
    rw [lt_shl, lt_shr, lt_sub, lt_and, lt_sub, lt_shl, hk2, sar_up _ _ hm, flat_up _ _ hm]; simp
  have f6 : ((ltwo 28 (ltwo 30 x y) (y &&& 63#64)).toInt == (ltwo 21 x (ltwo 25 x (ltwo 21 (ltwo 28 1#64 (y &&& 63#64)) 1#64))).toInt) = true := by
    rw [lt_shl, lt_ushr, lt_sub, lt_and, lt_sub, lt_shl, hk2, flat_up _ _ hm]; simp
  have f7 : ((ltwo 29 x y).toInt < 0 ↔ x.toInt < 0) := by
    have := sar_neg x _ hm
    rw [Bool.eq_iff_iff] at this
    rw [lt_shr]; simpa using this
  have f8 : ((y &&& 63#64).toInt == 0) = true ∨ (((y &&& 63#64).toInt == 0) = false ∧ decide (0 ≤ (ltwo 30 x y).toInt) = true) := by
    rw [hk3, lt_ushr]
    by_cases h0 : y.toNat % 64 = 0
    · left; rw [h0]; rfl
    · right; refine ⟨by rw [beq_eq_false_iff_ne]; omega, ?_⟩
      have := flat_nonneg x _ hm h0
      simpa using this
  have c1 : ∀ (k : BitVec 64) (w : World), Calls Try.prog 16 #[.int .i64 28, .int .i64 1, .int .i64 k.toInt] w (fun e w' => e = .returned (.int .i64 (ltwo 28 1#64 k).toInt) ∧ Drew w w') := fun k w => ltwo_any 28 1#64 k w
  have c2 : ∀ (p : BitVec 64) (w : World), Calls Try.prog 16 #[.int .i64 21, .int .i64 p.toInt, .int .i64 1] w (fun e w' => e = .returned (.int .i64 (ltwo 21 p 1#64).toInt) ∧ Drew w w') := fun p w => ltwo_any 21 p 1#64 w
  have C1 := Lib.hid c1; have C2 := Lib.hid c2
  clear hk hk2 hk3 hm c1 c2 w0 w1
  generalize (y &&& 63#64) = k at *
  rcases f8 with f8 | ⟨f8, f9⟩
  all_goals
    go_enter Try.func5, Try.ntmps5
    go_wp2_with (first | (go_at_call 16; (first | (with_reducible refine (C1.out _ _).mono ?_) | (with_reducible refine (C2.out _ _).mono ?_) | (with_reducible refine (ltwo_any _ _ _ _).mono ?_)); rintro e w' ⟨rfl, n, rfl⟩) | (go_at_call 14; refine (head_true _).mono ?_; rintro e w' ⟨rfl, n, rfl⟩))
    go_ret
    exact ⟨rfl, (Grown.refl _)⟩

/-! ### THE ROW's STEP: WRITTEN OUT: LEAVE IT -/
set_option maxRecDepth 100000 in
theorem lifted (os : Os) (started : os.Started) (H : Type) (enc : TypeId × Value → H) :
    ReturnsInHanded {} Try.checked os 5 .any (Rows.cellShiftsSpec.pre6 enc Try.prog Try.f5 Rows.cellShiftsRow.domain false) (Rows.cellShiftsSpec.post enc Try.prog Try.f5 false true false false) := by
  refine returnsInHanded_of_change (C := Try.checked) own started (by kernel_rfl) Try.func5
    (ChangeSpec.witness6 (enc := enc) (C := Try.checked) false ⟨#[], #[.int .i64 0, .int .i64 0], []⟩ 8 (by kernel_rfl) (by kernel_rfl) (by kernel_rfl) (by kernel_rfl)) ?_
  intro W base args ds gs before hval0 hW hcnd _
  have hval : ∀ (j : Nat) t v, Try.f5.params[j]? = some t → args[j]? = some v → Value.okWide Try.prog W .any base t v := hval0
  have hW' := hW
  obtain ⟨p, q, hA0, hV, rfl, hfz, hnd⟩ := hW
  have hA : DataW.TrodAll enc Try.prog W 0 (fun _ => true) true Try.f5.params.toList args.toList ds p := hA0
  rw [Try.params5] at hA hval
  obtain ⟨v0, vs0, d0, ds0, p0, q0, hargs, rfl, rfl, h0, r0⟩ := trodAll_cons hA
  obtain ⟨v1, vs1, d1, ds1, p1, q1, rfl, rfl, rfl, h1, r1⟩ := trodAll_cons r0
  obtain ⟨rfl, rfl, rfl⟩ := trodAll_nil r1
  obtain rfl : args = #[v0, v1] := by cases args; simp_all
  obtain ⟨rfl, rfl⟩ := trodVars_none hV
  obtain ⟨a0, rfl, rfl, rfl, w0⟩ := open_int Try.underlying3 (hval 0 3 v0 rfl rfl) h0
  obtain ⟨a1, rfl, rfl, rfl, w1⟩ := open_int Try.underlying3 (hval 1 3 v1 rfl rfl) h1
  clear hA0 hval0
  simp only [List.append_nil] at hW'
  refine (walk a0 a1 w0 w1 W).mono fun e W' ⟨he, hg⟩ => ?_
  subst he
  exact ⟨_, rfl, post_of_same (pa := []) (pv := []) hW' (fun _ _ _ => (trodAll_cons_mk (shut_bool Try.underlying4 _) trodAll_mk0)) (fun sp _ => (trodAll_cons_mk (shut_int Try.underlying3 w0) (trodAll_cons_mk (shut_int Try.underlying3 w1) trodAll_mk0))) (fun _ _ => rfl) rfl
    (hg.frame _) hg.2.1 (ok_one (by kernel_rfl) rfl (okWide_bool_mk Try.underlying4 _))⟩

theorem over : Rows.cellShiftsRow.holds Try.pinned (OpenSpec.ofChange Rows.cellShiftsSpec) :=
  OpenClaim.holds_of_wide 5 Try.f5 rfl rfl rfl rfl rfl rfl rfl ⟨rfl, rfl, rfl, rfl, rfl⟩ rfl rfl rfl rfl rfl (by kernel_rfl) Try.func5 (by kernel_rfl)
    (of_decide_eq_true (by kernel_rfl)) (by unfold Func.isWrapper; first | (rw [if_pos (by decide +kernel)]; kernel_rfl) | (rw [if_neg (by decide +kernel)]; exact ⟨rfl, rfl⟩))
    (fun os started H enc _ => lifted os started H enc)

/-- ████ THE STATEMENT ████ -/
theorem proved : Rows.CellShiftsSaid :=
  over
#print axioms proved
end Go.Proofs.Ytdjenhbglkcapaa.cellShifts
