/-
  Walks of retort/cell.One: the call returns the word and the trap that CellFloat.onei says, for every instruction number and every word. Conditions: none.
-/
import Derived.Test.YtdjenhbglkcapaaCellWalks
import Derived.Test.YtdjenhbglkcapaaCellFloat
namespace Go.Proofs.Ytdjenhbglkcapaa.CW
open Go.RowKit Go.Op
set_option linter.unusedSimpArgs false
set_option linter.unusedVariables false

theorem sqrt_any (b : Nat) (w : World) : Calls Try.prog 34 #[.float .f64 b] w fun e w' => (∃ r, e = .returned (.float .f64 r) ∧ told r = toldOpt (Ieee.double.sqrt b)) ∧ Drew w w' := by
  cases hr : Ieee.double.sqrt b with
  | some r =>
    have h := fun w => run_sqrt_some b r hr w
    clear hr
    go_enter Try.func34, Try.ntmps34
    go_wp2
    go_ret
    exact ⟨⟨r, rfl, rfl⟩, 0, rfl⟩
  | none =>
    have h := fun w => run_sqrt_none b hr w
    clear hr
    go_enter Try.func34, Try.ntmps34
    go_wp2
    go_ret
    exact ⟨⟨_, rfl, told_nanWord _⟩, 1, rfl⟩

def OneSaid (op : Int) : Prop := ∀ (x : BitVec 64) (w : World), Calls Try.prog 21 #[.int .i64 op, .int .i64 x.toInt] w fun e w' => e = .returned (.tuple #[.int .i64 (onei op x).1.toInt, .int .i64 (onei op x).2]) ∧ Drew w w'

theorem one_34 : OneSaid 34 := by
  intro x w
  go_enter Try.func21, Try.ntmps21
  go_wp2_with (first | (go_at_call 11; refine (float_any _ _).mono ?_; rintro e w' ⟨rfl, rfl⟩) | (go_at_call 13; refine (word_any _ _).mono ?_; rintro e w' ⟨rfl, rfl⟩) | (go_at_call 30; refine (isnan_any _ _).mono ?_; rintro e w' ⟨rfl, rfl⟩) | (go_at_call 34; refine (sqrt_any _ _).mono ?_; rintro e w' ⟨⟨r, rfl, hr⟩, n, rfl⟩; have Hr := Lib.hid hr; clear hr))
  go_ret2
  exact ⟨ret_two (w_neg x) rfl, 0, rfl⟩

theorem one_35 : OneSaid 35 := by
  intro x w
  go_enter Try.func21, Try.ntmps21
  go_wp2_with (first | (go_at_call 11; refine (float_any _ _).mono ?_; rintro e w' ⟨rfl, rfl⟩) | (go_at_call 13; refine (word_any _ _).mono ?_; rintro e w' ⟨rfl, rfl⟩) | (go_at_call 30; refine (isnan_any _ _).mono ?_; rintro e w' ⟨rfl, rfl⟩) | (go_at_call 34; refine (sqrt_any _ _).mono ?_; rintro e w' ⟨⟨r, rfl, hr⟩, n, rfl⟩; have Hr := Lib.hid hr; clear hr))
  go_ret2
  exact ⟨ret_two (w_not x) rfl, 0, rfl⟩

theorem one_42 : OneSaid 42 := by
  intro x w
  have h : ∀ w, (unary .neg (.float .f64 x.toNat)).run Try.prog w = .ok (.float .f64 (flip x.toNat)) w := fun w => rfl
  go_enter Try.func21, Try.ntmps21
  go_wp2_with (first | (go_at_call 11; refine (float_any _ _).mono ?_; rintro e w' ⟨rfl, rfl⟩) | (go_at_call 13; refine (word_any _ _).mono ?_; rintro e w' ⟨rfl, rfl⟩) | (go_at_call 30; refine (isnan_any _ _).mono ?_; rintro e w' ⟨rfl, rfl⟩) | (go_at_call 34; refine (sqrt_any _ _).mono ?_; rintro e w' ⟨⟨r, rfl, hr⟩, n, rfl⟩; have Hr := Lib.hid hr; clear hr))
  go_ret2
  exact ⟨ret_two (rfl) rfl, 0, rfl⟩

theorem one_43 : OneSaid 43 := by
  intro x w
  go_enter Try.func21, Try.ntmps21
  go_wp2_with (first | (go_at_call 11; refine (float_any _ _).mono ?_; rintro e w' ⟨rfl, rfl⟩) | (go_at_call 13; refine (word_any _ _).mono ?_; rintro e w' ⟨rfl, rfl⟩) | (go_at_call 30; refine (isnan_any _ _).mono ?_; rintro e w' ⟨rfl, rfl⟩) | (go_at_call 34; refine (sqrt_any _ _).mono ?_; rintro e w' ⟨⟨r, rfl, hr⟩, n, rfl⟩; have Hr := Lib.hid hr; clear hr))
  go_ret2
  exact ⟨ret_two (by rw [Hr.out]; rfl) rfl, n, rfl⟩

theorem one_44 : OneSaid 44 := by
  intro x w
  go_enter Try.func21, Try.ntmps21
  go_wp2_with (first | (go_at_call 11; refine (float_any _ _).mono ?_; rintro e w' ⟨rfl, rfl⟩) | (go_at_call 13; refine (word_any _ _).mono ?_; rintro e w' ⟨rfl, rfl⟩) | (go_at_call 30; refine (isnan_any _ _).mono ?_; rintro e w' ⟨rfl, rfl⟩) | (go_at_call 34; refine (sqrt_any _ _).mono ?_; rintro e w' ⟨⟨r, rfl, hr⟩, n, rfl⟩; have Hr := Lib.hid hr; clear hr))
  go_ret2
  exact ⟨ret_two (rfl) rfl, 0, rfl⟩

theorem one_45 : OneSaid 45 := by
  intro x w
  have ht : onei 45 x = toI x.toNat := rfl
  rw [ht]; clear ht
  unfold toI
  by_cases h0 : nan x.toNat = true
  · rw [if_pos (Or.inl h0)]
    go_enter Try.func21, Try.ntmps21
    go_wp2_with (first | (go_at_call 11; refine (float_any _ _).mono ?_; rintro e w' ⟨rfl, rfl⟩) | (go_at_call 13; refine (word_any _ _).mono ?_; rintro e w' ⟨rfl, rfl⟩) | (go_at_call 30; refine (isnan_any _ _).mono ?_; rintro e w' ⟨rfl, rfl⟩) | (go_at_call 34; refine (sqrt_any _ _).mono ?_; rintro e w' ⟨⟨r, rfl, hr⟩, n, rfl⟩; have Hr := Lib.hid hr; clear hr))
    go_ret2
    exact ⟨ret_two rfl rfl, 0, rfl⟩
  · have h0 : nan x.toNat = false := by simpa using h0
    have e1 := edge_up x.toNat h0
    have e2 := edge_down x.toNat h0
    by_cases h1 : 4890909195324358656 ≤ rank x.toNat
    · rw [if_pos (Or.inr (Or.inl h1))]
      have g1 : (FloatKind.f64.format.order x.toNat 4890909195324358656 == some .gt || FloatKind.f64.format.order x.toNat 4890909195324358656 == some .eq) = true := by
        show (Ieee.double.order x.toNat 4890909195324358656 == some .gt || Ieee.double.order x.toNat 4890909195324358656 == some .eq) = true
        rw [e1]
        rcases Int.lt_or_eq_of_le h1 with h | h
        · rw [cmp_gt h]; rfl
        · rw [← h]; decide
      clear e1 e2 h1
      go_enter Try.func21, Try.ntmps21
      go_wp2_with (first | (go_at_call 11; refine (float_any _ _).mono ?_; rintro e w' ⟨rfl, rfl⟩) | (go_at_call 13; refine (word_any _ _).mono ?_; rintro e w' ⟨rfl, rfl⟩) | (go_at_call 30; refine (isnan_any _ _).mono ?_; rintro e w' ⟨rfl, rfl⟩) | (go_at_call 34; refine (sqrt_any _ _).mono ?_; rintro e w' ⟨⟨r, rfl, hr⟩, n, rfl⟩; have Hr := Lib.hid hr; clear hr))
      go_ret2
      exact ⟨ret_two rfl rfl, 0, rfl⟩
    · have h1 : rank x.toNat < 4890909195324358656 := by omega
      have g1 : (FloatKind.f64.format.order x.toNat 4890909195324358656 == some .gt || FloatKind.f64.format.order x.toNat 4890909195324358656 == some .eq) = false := by
        show (Ieee.double.order x.toNat 4890909195324358656 == some .gt || Ieee.double.order x.toNat 4890909195324358656 == some .eq) = false
        rw [e1, cmp_lt h1]; rfl
      by_cases h2 : rank x.toNat < -4890909195324358656
      · rw [if_pos (Or.inr (Or.inr h2))]
        have g2 : (FloatKind.f64.format.order x.toNat 14114281232179134464 == some .lt) = true := by
          show (Ieee.double.order x.toNat 14114281232179134464 == some .lt) = true
          rw [e2, cmp_lt h2]; rfl
        clear e1 e2 h1 h2
        go_enter Try.func21, Try.ntmps21
        go_wp2_with (first | (go_at_call 11; refine (float_any _ _).mono ?_; rintro e w' ⟨rfl, rfl⟩) | (go_at_call 13; refine (word_any _ _).mono ?_; rintro e w' ⟨rfl, rfl⟩) | (go_at_call 30; refine (isnan_any _ _).mono ?_; rintro e w' ⟨rfl, rfl⟩) | (go_at_call 34; refine (sqrt_any _ _).mono ?_; rintro e w' ⟨⟨r, rfl, hr⟩, n, rfl⟩; have Hr := Lib.hid hr; clear hr))
        go_ret2
        exact ⟨ret_two rfl rfl, 0, rfl⟩
      · have h2 : -4890909195324358656 ≤ rank x.toNat := by omega
        rw [if_neg (by rw [h0]; simp; omega)]
        have g2 : (FloatKind.f64.format.order x.toNat 14114281232179134464 == some .lt) = false := by
          show (Ieee.double.order x.toNat 14114281232179134464 == some .lt) = false
          rw [e2]
          rcases Int.lt_or_eq_of_le h2 with h | h
          · rw [cmp_gt h]; rfl
          · rw [← h]; decide
        have hin := wholeInt_in x.toNat h1 h2
        have hc := fun w => run_convert_float_int (P := Try.prog) w 22 3 .f64 .i64 x.toNat (wholeInt x.toNat) (by rw [Try.underlying22]; rfl) Try.underlying3 (fti x.toNat h0 h1 h2)
        have hfin : wholeInt x.toNat = (BitVec.ofInt 64 (wholeInt x.toNat)).toInt := by
          rw [toInt_ofInt]; unfold wrap64; omega
        generalize wholeInt x.toNat = n at *
        have Hfin := Lib.hid hfin
        clear e1 e2 h1 h2 hfin hin
        go_enter Try.func21, Try.ntmps21
        go_wp2_with (first | (go_at_call 11; refine (float_any _ _).mono ?_; rintro e w' ⟨rfl, rfl⟩) | (go_at_call 13; refine (word_any _ _).mono ?_; rintro e w' ⟨rfl, rfl⟩) | (go_at_call 30; refine (isnan_any _ _).mono ?_; rintro e w' ⟨rfl, rfl⟩) | (go_at_call 34; refine (sqrt_any _ _).mono ?_; rintro e w' ⟨⟨r, rfl, hr⟩, n, rfl⟩; have Hr := Lib.hid hr; clear hr))
        go_ret2
        exact ⟨ret_two Hfin.out rfl, 0, rfl⟩

theorem one_any (op : Int) : OneSaid op := by
  by_cases h34 : op = 34
  · subst h34; exact one_34
  by_cases h35 : op = 35
  · subst h35; exact one_35
  by_cases h42 : op = 42
  · subst h42; exact one_42
  by_cases h43 : op = 43
  · subst h43; exact one_43
  by_cases h44 : op = 44
  · subst h44; exact one_44
  by_cases h45 : op = 45
  · subst h45; exact one_45
  intro x w
  have e34 : (op == 34) = false := beq_eq_false_iff_ne.2 h34
  have e35 : (op == 35) = false := beq_eq_false_iff_ne.2 h35
  have e42 : (op == 42) = false := beq_eq_false_iff_ne.2 h42
  have e43 : (op == 43) = false := beq_eq_false_iff_ne.2 h43
  have e44 : (op == 44) = false := beq_eq_false_iff_ne.2 h44
  have e45 : (op == 45) = false := beq_eq_false_iff_ne.2 h45
  have hf : onei op x = (0#64, 8) := by simp [onei, h34, h35, h42, h43, h44, h45]
  rw [hf]
  clear hf h34 h35 h42 h43 h44 h45
  go_enter Try.func21, Try.ntmps21
  go_wp2_with (go_at_call 11; refine (float_any _ _).mono ?_; rintro e w' ⟨rfl, rfl⟩)
  go_ret2
  exact ⟨ret_two rfl rfl, 0, rfl⟩

end Go.Proofs.Ytdjenhbglkcapaa.CW
