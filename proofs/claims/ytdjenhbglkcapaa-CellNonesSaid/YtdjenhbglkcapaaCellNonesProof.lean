/-
  Proved: called with any input, the Go function retort/retortlaw10.CellNones returns true, and its arguments read afterwards as they read before (the given statement Rows.CellNonesSaid). Conditions: none beside those that the given row states.
  The frame below STEP 1 was written by the kit's proof-skeleton program.
-/
import Derived.Test.YtdjenhbglkcapaaRows
import Derived.WalkKit
import Derived.ProofKit
import Derived.OpenShut
import Derived.Test.YtdjenhbglkcapaaCellNone
import Derived.Outline
namespace Go.Proofs.Ytdjenhbglkcapaa.cellNones
open Go.ChangeShapes Go.WideShapes Go.ChangeAt Go.RowKit
set_option linter.unusedSimpArgs false
set_option linter.unusedVariables false      -- a walk need not use every 'w<i>' (that an integer argument fits its kind)

open CW
theorem grown_drewN {W w' : World} (h : Grown W w') (n : Nat) : Grown W (w'.drewN n) := h
theorem own : ownKnob Try.prog.godebug = none := by kernel_rfl

/-! ### STEP 1: THE WALK: the Go text returns true. 'Grown w w'': the world has at most new blocks (Derived/RowKit3.lean). Part the cases AHEAD of 'go_enter' where a test parts the walk; take each callee by a contract of your own. -/
set_option maxRecDepth 100000 in
set_option maxHeartbeats 2000000 in
theorem walk (a0 : Int) (a1 : Int) (w0 : (Lit.int .i64 a0).wf = true) (w1 : (Lit.int .i64 a1).wf = true) (w : World) :
    Calls Try.prog 7 #[.int .i64 a0, .int .i64 a1] w fun e w' => e = .returned (.bool true) ∧ Grown w w' := by
  obtain ⟨x, rfl⟩ := word_of_wf w0
  obtain ⟨y, rfl⟩ := word_of_wf w1
  clear w0 w1
  go_enter Try.func7, Try.ntmps7
  go_wp2
  go_loopw [6] (fun i wr => ∃ k n : Nat, k ≤ 4 ∧ i = .int .i64 k ∧ wr = (w.alloc (.cells #[.int .i64 36, .int .i64 37, .int .i64 38, .int .i64 39] 34)).drewN n) (fun i _ => 4 - (intOf i).toNat)
  case atStart => exact ⟨0, 0, by omega, rfl, rfl⟩
  case round =>
    obtain ⟨k, n0, hk, rfl, rfl⟩ := hrel
    by_cases hlt : k < 4
    · have h4 : k = 0 ∨ k = 1 ∨ k = 2 ∨ k = 3 := by omega
      have hf : ((two (36 + k) x y).2 != 0) = false ∧ ((nan (two (36 + k) x y).1.toNat = true ∧ ((two (36 + k) x y).1.toInt != 9221120237041090560) = false) ∨ nan (two (36 + k) x y).1.toNat = false ∧ nan x.toNat = false ∧ nan y.toNat = false) := two_facts (36 + k) ⟨by omega, by omega⟩ x y
      clear hlt hk
      rcases h4 with rfl | rfl | rfl | rfl
      all_goals
        obtain ⟨hf1, hf2⟩ := hf
        have e0 : (36 : Int) + ((0 : Nat) : Int) = 36 := rfl
        have e1 : (36 : Int) + ((1 : Nat) : Int) = 37 := rfl
        have e2 : (36 : Int) + ((2 : Nat) : Int) = 38 := rfl
        have e3 : (36 : Int) + ((3 : Nat) : Int) = 39 := rfl
        simp only [e0, e1, e2, e3] at hf1 hf2
        clear e0 e1 e2 e3
        rcases hf2 with ⟨g1, g2⟩ | ⟨g1, g2, g3⟩
      all_goals
        go_wp2_with (first | (go_at_call 18; refine (two_any _ _ _ _).mono ?_; rintro e w' ⟨rfl, n, rfl⟩) | (go_at_call 12; refine (nan_any _ _).mono ?_; rintro e w' ⟨rfl, rfl⟩))
        all_goals
          go_roundw
          case rel => first | exact ⟨1, _, by decide, rfl, rfl⟩ | exact ⟨2, _, by decide, rfl, rfl⟩ | exact ⟨3, _, by decide, rfl, rfl⟩ | exact ⟨4, _, by decide, rfl, rfl⟩
          case measure => simp [intOf]
    · have hk4 : k = 4 := by omega
      subst hk4
      clear hlt hk
      have c1 : ∀ (k : BitVec 64) (w : World), Calls Try.prog 16 #[.int .i64 41, .int .i64 k.toInt, .int .i64 0] w (fun e w' => e = .returned (.int .i64 (ltwo 41 k 0#64).toInt) ∧ Drew w w') := fun k w => ltwo_any 41 k 0#64 w
      have C1 := Lib.hid c1
      clear c1
      have ho : nan x.toNat = true ∨ nan y.toNat = true → ((ltwo 40 x y).toInt != 0) = false ∧ ((ltwo 41 x y).toInt != 0) = false := by
        intro h
        have e1 : ltwo 40 x y = one (Ieee.double.order x.toNat y.toNat == some .eq) := rfl
        have e2 : ltwo 41 x y = one (Ieee.double.order x.toNat y.toNat == some .lt) := rfl
        rw [e1, e2, ord_nan _ _ h]; exact ⟨rfl, rfl⟩
      cases nx : nan x.toNat with
      | true =>
        obtain ⟨g1, g2⟩ := ho (Or.inl nx)
        have g3 : ((lOne 42 x).toInt == 9221120237041090560) = true := by rw [flip_quiet x nx]; decide
        have g4 : ((lOne 43 x).toInt == 9221120237041090560) = true := by rw [root_quiet x nx]; decide
        have g5 : ((onei 45 x).2 == 6) = true := by rw [toI_quiet x nx]; rfl
        clear ho
        go_wp2_with (first | (go_at_call 16; (first | (with_reducible refine (C1.out _ _).mono ?_) | (with_reducible refine (ltwo_any _ _ _ _).mono ?_)); rintro e w' ⟨rfl, n, rfl⟩) | (go_at_call 17; refine (lone_any _ _ _).mono ?_; rintro e w' ⟨rfl, n, rfl⟩) | (go_at_call 21; refine (one_any _ _ _).mono ?_; rintro e w' ⟨rfl, n, rfl⟩) | (go_at_call 12; refine (nan_any _ _).mono ?_; rintro e w' ⟨rfl, rfl⟩) | (go_at_call 14; refine (head_true _).mono ?_; rintro e w' ⟨rfl, n, rfl⟩))
        go_ret
        exact ⟨rfl, grown_drewN ((Grown.refl _).alloc _ _) _⟩
      | false =>
        have g3 : ((lOne 42 (lOne 42 x)).toInt == x.toInt) = true := by rw [flip_flip x nx]; simp
        have g4 : nan (lOne 43 x).toNat = false ∨ nan (lOne 43 x).toNat = true ∧ ((lOne 43 x).toInt == 9221120237041090560) = true ∧ ((ltwo 41 x 0#64).toInt == 1) = true := by
          have h := toldOpt_ok (Ieee.double.sqrt x.toNat)
          have e : lOne 43 x = toldOpt (Ieee.double.sqrt x.toNat) := rfl
          rw [← e] at h
          rcases h with h | h
          · right; rw [root_neg x nx h, h]; exact ⟨nan_quiet, by decide, by decide⟩
          · left; exact h
        cases ny : nan y.toNat with
        | true =>
          obtain ⟨g1, g2⟩ := ho (Or.inr ny)
          clear ho
          rcases g4 with g4 | ⟨g4, g5, g6⟩
          all_goals
            go_wp2_with (first | (go_at_call 16; (first | (with_reducible refine (C1.out _ _).mono ?_) | (with_reducible refine (ltwo_any _ _ _ _).mono ?_)); rintro e w' ⟨rfl, n, rfl⟩) | (go_at_call 17; refine (lone_any _ _ _).mono ?_; rintro e w' ⟨rfl, n, rfl⟩) | (go_at_call 21; refine (one_any _ _ _).mono ?_; rintro e w' ⟨rfl, n, rfl⟩) | (go_at_call 12; refine (nan_any _ _).mono ?_; rintro e w' ⟨rfl, rfl⟩) | (go_at_call 14; refine (head_true _).mono ?_; rintro e w' ⟨rfl, n, rfl⟩))
            go_ret
            exact ⟨rfl, grown_drewN ((Grown.refl _).alloc _ _) _⟩
        | false =>
          clear ho
          rcases g4 with g4 | ⟨g4, g5, g6⟩
          all_goals
            go_wp2_with (first | (go_at_call 16; (first | (with_reducible refine (C1.out _ _).mono ?_) | (with_reducible refine (ltwo_any _ _ _ _).mono ?_)); rintro e w' ⟨rfl, n, rfl⟩) | (go_at_call 17; refine (lone_any _ _ _).mono ?_; rintro e w' ⟨rfl, n, rfl⟩) | (go_at_call 21; refine (one_any _ _ _).mono ?_; rintro e w' ⟨rfl, n, rfl⟩) | (go_at_call 12; refine (nan_any _ _).mono ?_; rintro e w' ⟨rfl, rfl⟩) | (go_at_call 14; refine (head_true _).mono ?_; rintro e w' ⟨rfl, n, rfl⟩))
            go_ret
            exact ⟨rfl, grown_drewN ((Grown.refl _).alloc _ _) _⟩

/-! ### THE ROW's STEP: WRITTEN OUT: LEAVE IT -/
set_option maxRecDepth 100000 in
theorem lifted (os : Os) (started : os.Started) (H : Type) (enc : TypeId × Value → H) :
    ReturnsInHanded {} Try.checked os 7 .any (Rows.cellNonesSpec.pre6 enc Try.prog Try.f7 Rows.cellNonesRow.domain false) (Rows.cellNonesSpec.post enc Try.prog Try.f7 false true false false) := by
  refine returnsInHanded_of_change (C := Try.checked) own started (by kernel_rfl) Try.func7
    (ChangeSpec.witness6 (enc := enc) (C := Try.checked) false ⟨#[], #[.int .i64 0, .int .i64 0], []⟩ 8 (by kernel_rfl) (by kernel_rfl) (by kernel_rfl) (by kernel_rfl)) ?_
  intro W base args ds gs before hval0 hW hcnd _
  have hval : ∀ (j : Nat) t v, Try.f7.params[j]? = some t → args[j]? = some v → Value.okWide Try.prog W .any base t v := hval0
  have hW' := hW
  obtain ⟨p, q, hA0, hV, rfl, hfz, hnd⟩ := hW
  have hA : DataW.TrodAll enc Try.prog W 0 (fun _ => true) true Try.f7.params.toList args.toList ds p := hA0
  rw [Try.params7] at hA hval
  obtain ⟨v0, vs0, d0, ds0, p0, q0, hargs, rfl, rfl, h0, r0⟩ := trodAll_cons hA
  obtain ⟨v1, vs1, d1, ds1, p1, q1, rfl, rfl, rfl, h1, r1⟩ := trodAll_cons r0
  obtain ⟨rfl, rfl, rfl⟩ := trodAll_nil r1
  obtain rfl : args = #[v0, v1] := by cases args; simp_all
  obtain ⟨rfl, rfl⟩ := trodVars_none hV
  obtain ⟨a0, rfl, rfl, rfl, w0⟩ := open_int Try.underlying3 (hval 0 3 v0 rfl rfl) h0
  obtain ⟨a1, rfl, rfl, rfl, w1⟩ := open_int Try.underlying3 (hval 1 3 v1 rfl rfl) h1
  clear hA0 hval0
  simp only [List.append_nil] at hW'
  refine (walk a0 a1 w0 w1 W).mono fun e W' ⟨he, hg⟩ => ?_
  subst he
  exact ⟨_, rfl, post_of_same (pa := []) (pv := []) hW' (fun _ _ _ => (trodAll_cons_mk (shut_bool Try.underlying4 _) trodAll_mk0)) (fun sp _ => (trodAll_cons_mk (shut_int Try.underlying3 w0) (trodAll_cons_mk (shut_int Try.underlying3 w1) trodAll_mk0))) (fun _ _ => rfl) rfl
    (hg.frame _) hg.2.1 (ok_one (by kernel_rfl) rfl (okWide_bool_mk Try.underlying4 _))⟩

theorem over : Rows.cellNonesRow.holds Try.pinned (OpenSpec.ofChange Rows.cellNonesSpec) :=
  OpenClaim.holds_of_wide 7 Try.f7 rfl rfl rfl rfl rfl rfl rfl ⟨rfl, rfl, rfl, rfl, rfl⟩ rfl rfl rfl rfl rfl (by kernel_rfl) Try.func7 (by kernel_rfl)
    (of_decide_eq_true (by kernel_rfl)) (by unfold Func.isWrapper; first | (rw [if_pos (by decide +kernel)]; kernel_rfl) | (rw [if_neg (by decide +kernel)]; exact ⟨rfl, rfl⟩))
    (fun os started H enc _ => lifted os started H enc)

/-- ████ THE STATEMENT ████ -/
theorem proved : Rows.CellNonesSaid :=
  over
#print axioms proved
end Go.Proofs.Ytdjenhbglkcapaa.cellNones
