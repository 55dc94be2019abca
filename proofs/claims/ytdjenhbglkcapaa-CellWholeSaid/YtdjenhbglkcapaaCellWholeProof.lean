/-
  Proved: called with any input, the Go function retort/retortlaw10.CellWhole returns true, and its arguments read afterwards as they read before (the given statement Rows.CellWholeSaid). Conditions: none beside those that the given row states.
  The frame below STEP 1 was written by the kit's proof-skeleton program.
-/
import Derived.Test.YtdjenhbglkcapaaRows
import Derived.WalkKit
import Derived.ProofKit
import Derived.OpenShut
import Derived.Test.YtdjenhbglkcapaaCellPlain
namespace Go.Proofs.Ytdjenhbglkcapaa.cellWhole
open Go.ChangeShapes Go.WideShapes Go.ChangeAt Go.RowKit
set_option linter.unusedSimpArgs false
set_option linter.unusedVariables false      -- a walk need not use every 'w<i>' (that an integer argument fits its kind)

open CW
theorem nearer_any (r b : BitVec 64) (w : World) :
    Calls Try.prog 19 #[.int .i64 r.toInt, .int .i64 b.toInt] w fun e w' => e = .returned (.bool (decide (down b.toInt < down r.toInt))) ∧ w = w' := by
  have h1 := toInt_lo r
  have h2 := toInt_lo b
  have h3 := toInt_hi r
  have h4 := toInt_hi b
  generalize r.toInt = r at *
  generalize b.toInt = b at *
  by_cases c1 : 0 < r <;> by_cases c2 : 0 < b
  all_goals
    simp only [down, c1, c2, if_true, if_false]
    go_enter Try.func19, Try.ntmps19
    go_wp2
    go_ret
    exact ⟨by simp, rfl⟩
theorem own : ownKnob Try.prog.godebug = none := by kernel_rfl

/-! ### STEP 1: THE WALK: the Go text returns true. 'Grown w w'': the world has at most new blocks (Derived/RowKit3.lean). Part the cases AHEAD of 'go_enter' where a test parts the walk; take each callee by a contract of your own. -/
set_option maxRecDepth 100000 in
set_option maxHeartbeats 2000000 in
theorem walk (a0 : Int) (a1 : Int) (w0 : (Lit.int .i64 a0).wf = true) (w1 : (Lit.int .i64 a1).wf = true) (w : World) :
    Calls Try.prog 4 #[.int .i64 a0, .int .i64 a1] w fun e w' => e = .returned (.bool true) ∧ Grown w w' := by
  obtain ⟨x, rfl⟩ := word_of_wf w0
  obtain ⟨y, rfl⟩ := word_of_wf w1
  have f1 : ((ltwo 21 (ltwo 20 x y) y).toInt != x.toInt) = false := by rw [lt_sub, lt_add, BitVec.add_sub_cancel]; simp
  have f2 : ((ltwo 20 x (lOne 34 x)).toInt != 0) = false := by rw [lt_add, lo_neg, BitVec.add_right_neg]; rfl
  have f3 : ((lOne 35 (lOne 35 x)).toInt != x.toInt) = false := by rw [lo_not, lo_not, BitVec.not_not]; simp
  clear w0 w1
  by_cases hy : y = 0#64
  · subst hy
    have g0 : ((0#64 : BitVec 64).toInt == 0) = true := rfl
    have g1 : ((two 23 x 0#64).2 == 5) = true := rfl
    have g2 : ((two 24 x 0#64).2 == 5) = true := rfl
    have g3 : ((two 23 x 0#64).1.toInt == 0) = true := rfl
    have g4 : ((two 24 x 0#64).1.toInt == 0) = true := rfl
    generalize 0#64 = y at *
    go_enter Try.func4, Try.ntmps4
    go_wp2_with (first | (go_at_call 16; refine (ltwo_any _ _ _ _).mono ?_; rintro e w' ⟨rfl, n, rfl⟩) | (go_at_call 17; refine (lone_any _ _ _).mono ?_; rintro e w' ⟨rfl, n, rfl⟩) | (go_at_call 18; refine (two_any _ _ _ _).mono ?_; rintro e w' ⟨rfl, n, rfl⟩) | (go_at_call 14; refine (head_true _).mono ?_; rintro e w' ⟨rfl, n, rfl⟩))
    go_ret
    exact ⟨rfl, (Grown.refl _)⟩
  · have hyi : y.toInt ≠ 0 := by intro h; exact hy (BitVec.toInt_inj.1 (by rw [h]; rfl))
    have g0 : (y.toInt == 0) = false := beq_eq_false_iff_ne.2 hyi
    have e1 : two 23 x y = (x.sdiv y, 0) := by show (if y = 0#64 then _ else _) = _; rw [if_neg hy]
    have e2 : two 24 x y = (x.srem y, 0) := by show (if y = 0#64 then _ else _) = _; rw [if_neg hy]
    have g1 : ((two 23 x y).2 != 0) = false := by rw [e1]; rfl
    have g2 : ((two 24 x y).2 != 0) = false := by rw [e2]; rfl
    have g3 : ((ltwo 20 (ltwo 22 (two 23 x y).1 y) (two 24 x y).1).toInt != x.toInt) = false := by
      rw [e1, e2, lt_add, lt_mul]; simp only; rw [div_mod]; simp
    have g4 : ((two 24 x y).1.toInt != 0) = false ∨ ((two 24 x y).1.toInt != 0) = true ∧ ((two 24 x y).1.toInt < 0 ↔ x.toInt < 0) := by
      rw [e2, ← w_rem]
      have := (rem_sign x.toInt y.toInt hyi).1
      by_cases h0 : x.toInt.tmod y.toInt = 0
      · simp [h0]
      · have h1 := this h0
        simp [h0, h1]
    have g9 : (wrap64 (wrap64 ((ltwo 32 x y).toInt + (ltwo 32 y x).toInt) + (ltwo 31 x y).toInt) == 1) = true := by
      rw [lt_lt, lt_lt, lt_eq, one_toInt, one_toInt, one_toInt, ← w_eq]
      unfold BitVec.slt
      rcases Int.lt_trichotomy x.toInt y.toInt with h | h | h
      · have h1 : ¬ y.toInt < x.toInt := by omega
        have h2 : ¬ x.toInt = y.toInt := by omega
        simp [h, h1, h2]; unfold wrap64; omega
      · simp [h]; unfold wrap64; omega
      · have h1 : ¬ x.toInt < y.toInt := by omega
        have h2 : ¬ x.toInt = y.toInt := by omega
        simp [h, h1, h2]; unfold wrap64; omega
    have g10 : (wrap64 (wrap64 ((ltwo 33 x y).toInt + (ltwo 33 y x).toInt) + (ltwo 31 x y).toInt) == 1) = true := by
      rw [lt_ult, lt_ult, lt_eq, one_toInt, one_toInt, one_toInt]
      unfold BitVec.ult
      rcases Nat.lt_trichotomy x.toNat y.toNat with h | h | h
      · have h1 : ¬ y.toNat < x.toNat := by omega
        have h2 : ¬ x = y := by intro e; rw [e] at h; omega
        simp [h, h1, h2]; unfold wrap64; omega
      · have h2 : x = y := BitVec.eq_of_toNat_eq h
        simp [h2]; unfold wrap64; omega
      · have h1 : ¬ x.toNat < y.toNat := by omega
        have h2 : ¬ x = y := by intro e; rw [e] at h; omega
        simp [h, h1, h2]; unfold wrap64; omega
    have g11 : (((ltwo 32 x y).toInt == (ltwo 33 x y).toInt) == (decide (x.toInt < 0) == decide (y.toInt < 0))) = true := by
      rw [lt_ult, lt_lt, one_toInt, one_toInt]
      unfold BitVec.ult BitVec.slt
      have h1 : x.toNat < y.toNat ↔ (x.toInt < y.toInt ↔ (x.toInt < 0 ↔ y.toInt < 0)) := by
        have := x.isLt; have := y.isLt
        rw [BitVec.toInt_eq_toNat_cond, BitVec.toInt_eq_toNat_cond]
        split <;> split <;> constructor <;> intros <;> first | omega | (constructor <;> intros <;> omega)
      by_cases c1 : x.toInt < y.toInt <;> by_cases c2 : x.toInt < 0 <;> by_cases c3 : y.toInt < 0 <;> by_cases c4 : x.toNat < y.toNat
      all_goals simp only [c1, c2, c3, c4, decide_true, decide_false, if_true, if_false]
      all_goals first | decide | (exfalso; simp [c1, c2, c3, c4] at h1; done) | (exfalso; omega)
    have g5 : decide (down y.toInt < down (two 24 x y).1.toInt) = true := by
      rw [e2, ← w_rem]
      have := (rem_sign x.toInt y.toInt hyi).2
      unfold down; simp; split <;> split <;> omega
    have g6 : ((ltwo 20 (ltwo 25 x y) (ltwo 26 x y)).toInt != (ltwo 20 x y).toInt) = false := by
      rw [lt_add, lt_and, lt_or, lt_add, and_or]; simp
    have g7 : ((ltwo 27 (ltwo 27 x y) y).toInt != x.toInt) = false := by
      rw [lt_xor, lt_xor, BitVec.xor_assoc, BitVec.xor_self, BitVec.xor_zero]; simp
    have g8 : ((ltwo 21 (ltwo 26 x y) (ltwo 25 x y)).toInt != (ltwo 27 x y).toInt) = false := by
      rw [lt_sub, lt_and, lt_or, lt_xor, or_and_xor]; simp
    clear hy hyi e1 e2
    rcases g4 with g4 | ⟨g4, k4⟩
    all_goals
      go_enter Try.func4, Try.ntmps4
      go_wp2_with (first | (go_at_call 16; refine (ltwo_any _ _ _ _).mono ?_; rintro e w' ⟨rfl, n, rfl⟩) | (go_at_call 17; refine (lone_any _ _ _).mono ?_; rintro e w' ⟨rfl, n, rfl⟩) | (go_at_call 18; refine (two_any _ _ _ _).mono ?_; rintro e w' ⟨rfl, n, rfl⟩) | (go_at_call 14; refine (head_true _).mono ?_; rintro e w' ⟨rfl, n, rfl⟩) | (go_at_call 19; refine (nearer_any _ _ _).mono ?_; rintro e w' ⟨rfl, rfl⟩))
      go_ret
      exact ⟨rfl, (Grown.refl _)⟩

/-! ### THE ROW's STEP: WRITTEN OUT: LEAVE IT -/
set_option maxRecDepth 100000 in
theorem lifted (os : Os) (started : os.Started) (H : Type) (enc : TypeId × Value → H) :
    ReturnsInHanded {} Try.checked os 4 .any (Rows.cellWholeSpec.pre6 enc Try.prog Try.f4 Rows.cellWholeRow.domain false) (Rows.cellWholeSpec.post enc Try.prog Try.f4 false true false false) := by
  refine returnsInHanded_of_change (C := Try.checked) own started (by kernel_rfl) Try.func4
    (ChangeSpec.witness6 (enc := enc) (C := Try.checked) false ⟨#[], #[.int .i64 0, .int .i64 0], []⟩ 8 (by kernel_rfl) (by kernel_rfl) (by kernel_rfl) (by kernel_rfl)) ?_
  intro W base args ds gs before hval0 hW hcnd _
  have hval : ∀ (j : Nat) t v, Try.f4.params[j]? = some t → args[j]? = some v → Value.okWide Try.prog W .any base t v := hval0
  have hW' := hW
  obtain ⟨p, q, hA0, hV, rfl, hfz, hnd⟩ := hW
  have hA : DataW.TrodAll enc Try.prog W 0 (fun _ => true) true Try.f4.params.toList args.toList ds p := hA0
  rw [Try.params4] at hA hval
  obtain ⟨v0, vs0, d0, ds0, p0, q0, hargs, rfl, rfl, h0, r0⟩ := trodAll_cons hA
  obtain ⟨v1, vs1, d1, ds1, p1, q1, rfl, rfl, rfl, h1, r1⟩ := trodAll_cons r0
  obtain ⟨rfl, rfl, rfl⟩ := trodAll_nil r1
  obtain rfl : args = #[v0, v1] := by cases args; simp_all
  obtain ⟨rfl, rfl⟩ := trodVars_none hV
  obtain ⟨a0, rfl, rfl, rfl, w0⟩ := open_int Try.underlying3 (hval 0 3 v0 rfl rfl) h0
  obtain ⟨a1, rfl, rfl, rfl, w1⟩ := open_int Try.underlying3 (hval 1 3 v1 rfl rfl) h1
  clear hA0 hval0
  simp only [List.append_nil] at hW'
  refine (walk a0 a1 w0 w1 W).mono fun e W' ⟨he, hg⟩ => ?_
  subst he
  exact ⟨_, rfl, post_of_same (pa := []) (pv := []) hW' (fun _ _ _ => (trodAll_cons_mk (shut_bool Try.underlying4 _) trodAll_mk0)) (fun sp _ => (trodAll_cons_mk (shut_int Try.underlying3 w0) (trodAll_cons_mk (shut_int Try.underlying3 w1) trodAll_mk0))) (fun _ _ => rfl) rfl
    (hg.frame _) hg.2.1 (ok_one (by kernel_rfl) rfl (okWide_bool_mk Try.underlying4 _))⟩

theorem over : Rows.cellWholeRow.holds Try.pinned (OpenSpec.ofChange Rows.cellWholeSpec) :=
  OpenClaim.holds_of_wide 4 Try.f4 rfl rfl rfl rfl rfl rfl rfl ⟨rfl, rfl, rfl, rfl, rfl⟩ rfl rfl rfl rfl rfl (by kernel_rfl) Try.func4 (by kernel_rfl)
    (of_decide_eq_true (by kernel_rfl)) (by unfold Func.isWrapper; first | (rw [if_pos (by decide +kernel)]; kernel_rfl) | (rw [if_neg (by decide +kernel)]; exact ⟨rfl, rfl⟩))
    (fun os started H enc _ => lifted os started H enc)

/-- ████ THE STATEMENT ████ -/
theorem proved : Rows.CellWholeSaid :=
  over
#print axioms proved
end Go.Proofs.Ytdjenhbglkcapaa.cellWhole
