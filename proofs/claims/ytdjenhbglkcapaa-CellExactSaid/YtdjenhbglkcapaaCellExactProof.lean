/-
  Proved: called with any input, the Go function retort/retortlaw10.CellExact returns true, and its arguments read afterwards as they read before (the given statement Rows.CellExactSaid). Conditions: none beside those that the given row states.
  The frame below STEP 1 was written by the kit's proof-skeleton program.
-/
import Derived.Test.YtdjenhbglkcapaaRows
import Derived.WalkKit
import Derived.ProofKit
import Derived.OpenShut
import Derived.Test.YtdjenhbglkcapaaCellExactW
import Derived.Outline
namespace Go.Proofs.Ytdjenhbglkcapaa.cellExact
open Go.ChangeShapes Go.WideShapes Go.ChangeAt Go.RowKit
set_option linter.unusedSimpArgs false
set_option linter.unusedVariables false      -- a walk need not use every 'w<i>' (that an integer argument fits its kind)

open CW
theorem within_any (x : BitVec 64) (w : World) : Calls Try.prog 20 #[.int .i64 x.toInt] w fun e w' => e = .returned (.int .i64 (within x).toInt) ∧ w = w' := by
  have H := Lib.hid (within_toInt x)
  go_enter Try.func20, Try.ntmps20
  go_wp2
  go_ret
  exact ⟨ret_int H.out, rfl⟩
theorem neq_self (a : Int) : (a != a) = false := by simp
theorem eq_self' (a : Int) : (a == a) = true := by simp
/-- What the law asks of two words that are small enough. -/
structure Small (a b c d e : BitVec 64) : Prop where
  f1 : ((lOne 45 (lOne 44 a)).toInt != a.toInt) = false
  f2 : ((lOne 45 (ltwo 36 (lOne 44 a) (lOne 44 b))).toInt != (a + b).toInt) = false
  f3 : ((lOne 45 (ltwo 37 (lOne 44 a) (lOne 44 b))).toInt != (a - b).toInt) = false
  f4 : ((ltwo 36 (lOne 44 a) (lOne 44 b)).toInt != (lOne 44 (a + b)).toInt) = false
  f5 : ((ltwo 41 (lOne 44 a) (lOne 44 b)).toInt != (ltwo 32 a b).toInt) = false
  f6 : ((ltwo 40 (lOne 44 a) (lOne 44 b)).toInt != (ltwo 31 a b).toInt) = false
  f7 : ((lOne 45 (ltwo 38 (lOne 44 c) (lOne 44 d))).toInt != (c * d).toInt) = false
  f8 : (d.toInt != 0) = false ∨ (d.toInt != 0) = true ∧ ((lOne 45 (ltwo 39 (ltwo 38 (lOne 44 c) (lOne 44 d)) (lOne 44 d))).toInt != c.toInt) = false
  f9 : ((lOne 43 (lOne 44 (e * e))).toInt == (lOne 44 e).toInt) = true
theorem small_of (a b c d e : BitVec 64) (ha : a.toInt.natAbs < 4503599627370496) (hb : b.toInt.natAbs < 4503599627370496)
    (hc : c.toInt.natAbs < 67108864) (hd : d.toInt.natAbs < 67108864) (he : e.toInt.natAbs < 67108864) (he0 : 0 ≤ e.toInt) : Small a b c d e where
  f1 := by rw [toI_word _ a (by omega) (lo_told a)]; exact neq_self _
  f2 := by rw [x_add a b ha hb, toI_word _ (a + b) (by rw [add_toInt a b ha hb]; omega) (lo_told _)]; exact neq_self _
  f3 := by rw [x_sub a b ha hb, toI_word _ (a - b) (by rw [sub_toInt a b ha hb]; omega) (lo_told _)]; exact neq_self _
  f4 := by rw [x_add a b ha hb]; exact neq_self _
  f5 := by rw [x_lt a b ha hb]; exact neq_self _
  f6 := by rw [x_eq a b ha hb]; exact neq_self _
  f7 := by rw [x_mul_back c d hc hd]; exact neq_self _
  f8 := by
    by_cases h : d.toInt = 0
    · left; rw [h]; rfl
    · right; rw [x_div_back c d hc hd h]; exact ⟨by simpa using h, neq_self _⟩
  f9 := by rw [x_root e he he0]; exact eq_self' _
theorem own : ownKnob Try.prog.godebug = none := by kernel_rfl

/-! ### STEP 1: THE WALK: the Go text returns true. 'Grown w w'': the world has at most new blocks (Derived/RowKit3.lean). Part the cases AHEAD of 'go_enter' where a test parts the walk; take each callee by a contract of your own. -/
set_option maxRecDepth 100000 in
set_option maxHeartbeats 2000000 in
theorem walk (a0 : Int) (a1 : Int) (w0 : (Lit.int .i64 a0).wf = true) (w1 : (Lit.int .i64 a1).wf = true) (w : World) :
    Calls Try.prog 6 #[.int .i64 a0, .int .i64 a1] w fun e w' => e = .returned (.bool true) ∧ Grown w w' := by
  obtain ⟨x, rfl⟩ := word_of_wf w0
  obtain ⟨y, rfl⟩ := word_of_wf w1
  clear w0 w1
  have ha := within_small x
  have hb := within_small y
  have c1 := within26_toInt (within x)
  have c2 := within26_toInt (within y)
  have hc := within26_small (within x)
  have hd := within26_small (within y)
  have W1 := Lib.hid (within_any x)
  have W2 := Lib.hid (within_any y)
  generalize within26 (within x) = c at *
  generalize within26 (within y) = d at *
  generalize within x = a at *
  generalize within y = b at *
  have k1 : wrap64 (a.toInt + b.toInt) = (a + b).toInt := w_add a b
  have k2 : wrap64 (a.toInt - b.toInt) = (a - b).toInt := w_sub a b
  have k3 : wrap64 (c.toInt * d.toInt) = (c * d).toInt := w_mul c d
  by_cases hs : c.toInt < 0
  · have hn := neg_toInt c hc
    obtain ⟨f1, f2, f3, f4, f5, f6, f7, f8, f9⟩ := small_of a b c d (-c) ha hb hc hd (by rw [hn]; omega) (by rw [hn]; omega)
    have k4 : wrap64 (-c.toInt) = (-c).toInt := w_neg c
    have k5 : wrap64 ((-c).toInt * (-c).toInt) = (-c * -c).toInt := w_mul (-c) (-c)
    clear hn ha hb hc hd
    generalize (-c) = g at *
    generalize a + b = s at *; generalize a - b = u at *; generalize c * d = p at *; generalize g * g = q at *
    rcases f8 with f8 | ⟨f8, f8'⟩
    all_goals
      go_enter Try.func6, Try.ntmps6
      go_wp2_with (first | (go_at_call 20; (first | (with_reducible refine (W1.out _).mono ?_) | (with_reducible refine (W2.out _).mono ?_)); rintro e w' ⟨rfl, rfl⟩) | (go_at_call 16; (with_reducible refine (ltwo_any _ _ _ _).mono ?_); rintro e w' ⟨rfl, n, rfl⟩) | (go_at_call 17; (with_reducible refine (lone_any _ _ _).mono ?_); rintro e w' ⟨rfl, n, rfl⟩) | (go_at_call 14; refine (head_true _).mono ?_; rintro e w' ⟨rfl, n, rfl⟩))
      go_ret
      exact ⟨rfl, (Grown.refl _)⟩
  · obtain ⟨f1, f2, f3, f4, f5, f6, f7, f8, f9⟩ := small_of a b c d c ha hb hc hd hc (by omega)
    have k5 : wrap64 (c.toInt * c.toInt) = (c * c).toInt := w_mul c c
    clear ha hb hc hd
    generalize a + b = s at *; generalize a - b = u at *; generalize c * d = p at *; generalize c * c = q at *
    rcases f8 with f8 | ⟨f8, f8'⟩
    all_goals
      go_enter Try.func6, Try.ntmps6
      go_wp2_with (first | (go_at_call 20; (first | (with_reducible refine (W1.out _).mono ?_) | (with_reducible refine (W2.out _).mono ?_)); rintro e w' ⟨rfl, rfl⟩) | (go_at_call 16; (with_reducible refine (ltwo_any _ _ _ _).mono ?_); rintro e w' ⟨rfl, n, rfl⟩) | (go_at_call 17; (with_reducible refine (lone_any _ _ _).mono ?_); rintro e w' ⟨rfl, n, rfl⟩) | (go_at_call 14; refine (head_true _).mono ?_; rintro e w' ⟨rfl, n, rfl⟩))
      go_ret
      exact ⟨rfl, (Grown.refl _)⟩

/-! ### THE ROW's STEP: WRITTEN OUT: LEAVE IT -/
set_option maxRecDepth 100000 in
theorem lifted (os : Os) (started : os.Started) (H : Type) (enc : TypeId × Value → H) :
    ReturnsInHanded {} Try.checked os 6 .any (Rows.cellExactSpec.pre6 enc Try.prog Try.f6 Rows.cellExactRow.domain false) (Rows.cellExactSpec.post enc Try.prog Try.f6 false true false false) := by
  refine returnsInHanded_of_change (C := Try.checked) own started (by kernel_rfl) Try.func6
    (ChangeSpec.witness6 (enc := enc) (C := Try.checked) false ⟨#[], #[.int .i64 0, .int .i64 0], []⟩ 8 (by kernel_rfl) (by kernel_rfl) (by kernel_rfl) (by kernel_rfl)) ?_
  intro W base args ds gs before hval0 hW hcnd _
  have hval : ∀ (j : Nat) t v, Try.f6.params[j]? = some t → args[j]? = some v → Value.okWide Try.prog W .any base t v := hval0
  have hW' := hW
  obtain ⟨p, q, hA0, hV, rfl, hfz, hnd⟩ := hW
  have hA : DataW.TrodAll enc Try.prog W 0 (fun _ => true) true Try.f6.params.toList args.toList ds p := hA0
  rw [Try.params6] at hA hval
  obtain ⟨v0, vs0, d0, ds0, p0, q0, hargs, rfl, rfl, h0, r0⟩ := trodAll_cons hA
  obtain ⟨v1, vs1, d1, ds1, p1, q1, rfl, rfl, rfl, h1, r1⟩ := trodAll_cons r0
  obtain ⟨rfl, rfl, rfl⟩ := trodAll_nil r1
  obtain rfl : args = #[v0, v1] := by cases args; simp_all
  obtain ⟨rfl, rfl⟩ := trodVars_none hV
  obtain ⟨a0, rfl, rfl, rfl, w0⟩ := open_int Try.underlying3 (hval 0 3 v0 rfl rfl) h0
  obtain ⟨a1, rfl, rfl, rfl, w1⟩ := open_int Try.underlying3 (hval 1 3 v1 rfl rfl) h1
  clear hA0 hval0
  simp only [List.append_nil] at hW'
  refine (walk a0 a1 w0 w1 W).mono fun e W' ⟨he, hg⟩ => ?_
  subst he
  exact ⟨_, rfl, post_of_same (pa := []) (pv := []) hW' (fun _ _ _ => (trodAll_cons_mk (shut_bool Try.underlying4 _) trodAll_mk0)) (fun sp _ => (trodAll_cons_mk (shut_int Try.underlying3 w0) (trodAll_cons_mk (shut_int Try.underlying3 w1) trodAll_mk0))) (fun _ _ => rfl) rfl
    (hg.frame _) hg.2.1 (ok_one (by kernel_rfl) rfl (okWide_bool_mk Try.underlying4 _))⟩

theorem over : Rows.cellExactRow.holds Try.pinned (OpenSpec.ofChange Rows.cellExactSpec) :=
  OpenClaim.holds_of_wide 6 Try.f6 rfl rfl rfl rfl rfl rfl rfl ⟨rfl, rfl, rfl, rfl, rfl⟩ rfl rfl rfl rfl rfl (by kernel_rfl) Try.func6 (by kernel_rfl)
    (of_decide_eq_true (by kernel_rfl)) (by unfold Func.isWrapper; first | (rw [if_pos (by decide +kernel)]; kernel_rfl) | (rw [if_neg (by decide +kernel)]; exact ⟨rfl, rfl⟩))
    (fun os started H enc _ => lifted os started H enc)

/-- ████ THE STATEMENT ████ -/
theorem proved : Rows.CellExactSaid :=
  over
#print axioms proved
end Go.Proofs.Ytdjenhbglkcapaa.cellExact
