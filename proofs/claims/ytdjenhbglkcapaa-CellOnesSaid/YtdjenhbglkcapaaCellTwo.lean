/-
  Walks of retort/cell.Two: the call returns the word and the trap that CellWords.two says, for every instruction number and every two words. Conditions: none.
-/
import Derived.Test.YtdjenhbglkcapaaCellWalks
namespace Go.Proofs.Ytdjenhbglkcapaa.CW
open Go.RowKit
set_option linter.unusedSimpArgs false
set_option linter.unusedVariables false

def TwoSaid (op : Int) : Prop := ∀ (x y : BitVec 64) (w : World), Calls Try.prog 18 #[.int .i64 op, .int .i64 x.toInt, .int .i64 y.toInt] w fun e w' => e = .returned (.tuple #[.int .i64 (two op x y).1.toInt, .int .i64 (two op x y).2]) ∧ Drew w w'

theorem two_20 : TwoSaid 20 := by
  intro x y w
  go_enter Try.func18, Try.ntmps18
  go_wp2_with (go_at_call 32; refine (truth_any _ _).mono ?_; rintro e w' ⟨rfl, rfl⟩)
  go_ret2
  exact ⟨ret_two (w_add x y) rfl, 0, rfl⟩

theorem two_21 : TwoSaid 21 := by
  intro x y w
  go_enter Try.func18, Try.ntmps18
  go_wp2_with (go_at_call 32; refine (truth_any _ _).mono ?_; rintro e w' ⟨rfl, rfl⟩)
  go_ret2
  exact ⟨ret_two (w_sub x y) rfl, 0, rfl⟩

theorem two_22 : TwoSaid 22 := by
  intro x y w
  go_enter Try.func18, Try.ntmps18
  go_wp2_with (go_at_call 32; refine (truth_any _ _).mono ?_; rintro e w' ⟨rfl, rfl⟩)
  go_ret2
  exact ⟨ret_two (w_mul x y) rfl, 0, rfl⟩

theorem two_25 : TwoSaid 25 := by
  intro x y w
  go_enter Try.func18, Try.ntmps18
  go_wp2_with (go_at_call 32; refine (truth_any _ _).mono ?_; rintro e w' ⟨rfl, rfl⟩)
  go_ret2
  exact ⟨ret_two (w_and x y) rfl, 0, rfl⟩

theorem two_26 : TwoSaid 26 := by
  intro x y w
  go_enter Try.func18, Try.ntmps18
  go_wp2_with (go_at_call 32; refine (truth_any _ _).mono ?_; rintro e w' ⟨rfl, rfl⟩)
  go_ret2
  exact ⟨ret_two (w_or x y) rfl, 0, rfl⟩

theorem two_27 : TwoSaid 27 := by
  intro x y w
  go_enter Try.func18, Try.ntmps18
  go_wp2_with (go_at_call 32; refine (truth_any _ _).mono ?_; rintro e w' ⟨rfl, rfl⟩)
  go_ret2
  exact ⟨ret_two (w_xor x y) rfl, 0, rfl⟩

theorem two_31 : TwoSaid 31 := by
  intro x y w
  go_enter Try.func18, Try.ntmps18
  go_wp2_with (go_at_call 32; refine (truth_any _ _).mono ?_; rintro e w' ⟨rfl, rfl⟩)
  go_ret2
  exact ⟨ret_two (by rw [w_eq]; rfl) rfl, 0, rfl⟩

theorem two_32 : TwoSaid 32 := by
  intro x y w
  go_enter Try.func18, Try.ntmps18
  go_wp2_with (go_at_call 32; refine (truth_any _ _).mono ?_; rintro e w' ⟨rfl, rfl⟩)
  go_ret2
  exact ⟨ret_two (by rw [w_lt]; rfl) rfl, 0, rfl⟩

theorem two_33 : TwoSaid 33 := by
  intro x y w
  go_enter Try.func18, Try.ntmps18
  go_wp2_with (go_at_call 32; refine (truth_any _ _).mono ?_; rintro e w' ⟨rfl, rfl⟩)
  go_ret2
  exact ⟨ret_two (by rw [w_ult]; rfl) rfl, 0, rfl⟩

theorem two_28 : TwoSaid 28 := by
  intro x y w
  have hb := w_low y
  have hk : y.toNat % 64 < 64 := Nat.mod_lt _ (by decide)
  have ht : two 28 x y = (x <<< (y.toNat % 64), 0) := rfl
  rw [ht]; clear ht
  generalize y.toNat % 64 = k at *
  go_enter Try.func18, Try.ntmps18
  go_wp2_with (go_at_call 32; refine (truth_any _ _).mono ?_; rintro e w' ⟨rfl, rfl⟩)
  go_ret2
  exact ⟨ret_two (w_shl x k hk) rfl, 0, rfl⟩

theorem two_29 : TwoSaid 29 := by
  intro x y w
  have hb := w_low y
  have hk : y.toNat % 64 < 64 := Nat.mod_lt _ (by decide)
  have ht : two 29 x y = (x.sshiftRight (y.toNat % 64), 0) := rfl
  rw [ht]; clear ht
  generalize y.toNat % 64 = k at *
  go_enter Try.func18, Try.ntmps18
  go_wp2_with (go_at_call 32; refine (truth_any _ _).mono ?_; rintro e w' ⟨rfl, rfl⟩)
  go_ret2
  exact ⟨ret_two (w_sar x k hk) rfl, 0, rfl⟩

theorem two_30 : TwoSaid 30 := by
  intro x y w
  have hb := w_low y
  have hk : y.toNat % 64 < 64 := Nat.mod_lt _ (by decide)
  have hu := u64_toInt x
  have hx := x.isLt
  have ht : two 30 x y = (x >>> (y.toNat % 64), 0) := rfl
  rw [ht]; clear ht
  have hfin := w_shr x (y.toNat % 64) hk
  generalize y.toNat % 64 = k at *
  generalize x.toNat = n at *
  have hfin := Lib.hid hfin
  go_enter Try.func18, Try.ntmps18
  go_wp2_with (go_at_call 32; refine (truth_any _ _).mono ?_; rintro e w' ⟨rfl, rfl⟩)
  go_ret2
  trace_state
  exact ⟨ret_two hfin.out rfl, 0, rfl⟩

theorem two_23 : TwoSaid 23 := by
  intro x y w
  by_cases h0 : y = 0#64
  · subst h0
    have ht : two 23 x 0#64 = (0#64, 5) := rfl
    rw [ht]; clear ht
    have hz : (0#64).toInt = 0 := rfl
    rw [hz]; clear hz
    go_enter Try.func18, Try.ntmps18
    go_wp2_with (go_at_call 32; refine (truth_any _ _).mono ?_; rintro e w' ⟨rfl, rfl⟩)
    go_ret2
    exact ⟨ret_two rfl rfl, 0, rfl⟩
  · have ht : two 23 x y = (x.sdiv y, 0) := by show (if y = 0#64 then _ else _) = _; rw [if_neg h0]
    have hz : (y.toInt == 0) = false := by
      rw [beq_eq_false_iff_ne]; intro h; exact h0 (BitVec.toInt_inj.1 (by rw [h]; rfl))
    have hne : y.toInt ≠ 0 := by intro h; rw [h] at hz; cases hz
    rw [ht]; clear ht h0
    go_enter Try.func18, Try.ntmps18
    go_wp2_with (go_at_call 32; refine (truth_any _ _).mono ?_; rintro e w' ⟨rfl, rfl⟩)
    go_ret2
    exact ⟨ret_two (w_quo x y) rfl, 0, rfl⟩

theorem two_24 : TwoSaid 24 := by
  intro x y w
  by_cases h0 : y = 0#64
  · subst h0
    have ht : two 24 x 0#64 = (0#64, 5) := rfl
    rw [ht]; clear ht
    have hz : (0#64).toInt = 0 := rfl
    rw [hz]; clear hz
    go_enter Try.func18, Try.ntmps18
    go_wp2_with (go_at_call 32; refine (truth_any _ _).mono ?_; rintro e w' ⟨rfl, rfl⟩)
    go_ret2
    exact ⟨ret_two rfl rfl, 0, rfl⟩
  · have ht : two 24 x y = (x.srem y, 0) := by show (if y = 0#64 then _ else _) = _; rw [if_neg h0]
    have hz : (y.toInt == 0) = false := by
      rw [beq_eq_false_iff_ne]; intro h; exact h0 (BitVec.toInt_inj.1 (by rw [h]; rfl))
    have hne : y.toInt ≠ 0 := by intro h; rw [h] at hz; cases hz
    rw [ht]; clear ht h0
    go_enter Try.func18, Try.ntmps18
    go_wp2_with (go_at_call 32; refine (truth_any _ _).mono ?_; rintro e w' ⟨rfl, rfl⟩)
    go_ret2
    exact ⟨ret_two (w_rem x y) rfl, 0, rfl⟩

theorem two_any (op : Int) : TwoSaid op := by
  by_cases h20 : op = 20
  · subst h20; exact two_20
  by_cases h21 : op = 21
  · subst h21; exact two_21
  by_cases h22 : op = 22
  · subst h22; exact two_22
  by_cases h23 : op = 23
  · subst h23; exact two_23
  by_cases h24 : op = 24
  · subst h24; exact two_24
  by_cases h25 : op = 25
  · subst h25; exact two_25
  by_cases h26 : op = 26
  · subst h26; exact two_26
  by_cases h27 : op = 27
  · subst h27; exact two_27
  by_cases h28 : op = 28
  · subst h28; exact two_28
  by_cases h29 : op = 29
  · subst h29; exact two_29
  by_cases h30 : op = 30
  · subst h30; exact two_30
  by_cases h31 : op = 31
  · subst h31; exact two_31
  by_cases h32 : op = 32
  · subst h32; exact two_32
  by_cases h33 : op = 33
  · subst h33; exact two_33
  intro x y w
  have e20 : (op == 20) = false := beq_eq_false_iff_ne.2 h20
  have e21 : (op == 21) = false := beq_eq_false_iff_ne.2 h21
  have e22 : (op == 22) = false := beq_eq_false_iff_ne.2 h22
  have e23 : (op == 23) = false := beq_eq_false_iff_ne.2 h23
  have e24 : (op == 24) = false := beq_eq_false_iff_ne.2 h24
  have e25 : (op == 25) = false := beq_eq_false_iff_ne.2 h25
  have e26 : (op == 26) = false := beq_eq_false_iff_ne.2 h26
  have e27 : (op == 27) = false := beq_eq_false_iff_ne.2 h27
  have e28 : (op == 28) = false := beq_eq_false_iff_ne.2 h28
  have e29 : (op == 29) = false := beq_eq_false_iff_ne.2 h29
  have e30 : (op == 30) = false := beq_eq_false_iff_ne.2 h30
  have e31 : (op == 31) = false := beq_eq_false_iff_ne.2 h31
  have e32 : (op == 32) = false := beq_eq_false_iff_ne.2 h32
  have e33 : (op == 33) = false := beq_eq_false_iff_ne.2 h33
  have hf : two op x y = floats op x.toNat y.toNat := by simp [two, h20, h21, h22, h23, h24, h25, h26, h27, h28, h29, h30, h31, h32, h33]
  rw [hf]
  clear hf h20 h21 h22 h23 h24 h25 h26 h27 h28 h29 h30 h31 h32 h33
  go_enter Try.func18, Try.ntmps18
  go_wp2_with (first | (go_at_call 11; refine (float_any _ _).mono ?_; rintro e w' ⟨rfl, rfl⟩) | (go_at_call 33; refine (floats_any _ _ _ _).mono ?_; rintro e w' ⟨rfl, n, rfl⟩))
  go_ret2
  exact ⟨ret_two rfl rfl, n, rfl⟩

end Go.Proofs.Ytdjenhbglkcapaa.CW
