/-
  Walks of retortref10.floats and Two (the document's words): the call returns what CellWords.two says, so the same as retort/cell.Two. Conditions: none.
-/
import Derived.Test.YtdjenhbglkcapaaCellRef
namespace Go.Proofs.Ytdjenhbglkcapaa.CW
open Go.RowKit
set_option linter.unusedSimpArgs false
set_option linter.unusedVariables false

/-! ### The document's instructions of two -/

def RFloatsSaid (op : Int) : Prop := ∀ (x y : BitVec 64) (w : World), Calls Try.prog 39 #[.int .i64 op, .int .i64 x.toInt, .int .i64 y.toInt] w fun e w' => e = .returned (.tuple #[.int .i64 (floats op x.toNat y.toNat).1.toInt, .int .i64 (floats op x.toNat y.toNat).2]) ∧ Drew w w'

theorem rfloats_36 : RFloatsSaid 36 := by
  intro x y w
  cases hr : floatBits .add .f64 x.toNat y.toNat with
  | some r =>
    have h := fun t w => run_arith_some .add t x.toNat y.toNat r hr w
    go_enter Try.func39, Try.ntmps39
    go_wp2_with (first | (go_at_call 15; refine (rfloat_any _ _).mono ?_; rintro e w' ⟨rfl, rfl⟩) | (go_at_call 41; refine (rword_any _ _).mono ?_; rintro e w' ⟨rfl, rfl⟩))
    go_ret2
    exact ⟨ret_two (by have hr' : Ieee.double.add x.toNat y.toNat = some r := hr
                       show (told r).toInt = (toldOpt (Ieee.double.add x.toNat y.toNat)).toInt
                       rw [hr']; rfl) rfl, 0, rfl⟩
  | none =>
    have h := fun t w => run_arith_none .add t x.toNat y.toNat (by simp) hr w
    go_enter Try.func39, Try.ntmps39
    go_wp2_with (first | (go_at_call 15; refine (rfloat_any _ _).mono ?_; rintro e w' ⟨rfl, rfl⟩) | (go_at_call 41; refine (rword_any _ _).mono ?_; rintro e w' ⟨rfl, rfl⟩))
    go_ret2
    exact ⟨ret_two (by have hr' : Ieee.double.add x.toNat y.toNat = none := hr
                       show (told (nanWord _)).toInt = (toldOpt (Ieee.double.add x.toNat y.toNat)).toInt
                       rw [hr', told_nanWord]; rfl) rfl, 1, rfl⟩

theorem rfloats_37 : RFloatsSaid 37 := by
  intro x y w
  cases hr : floatBits .sub .f64 x.toNat y.toNat with
  | some r =>
    have h := fun t w => run_arith_some .sub t x.toNat y.toNat r hr w
    go_enter Try.func39, Try.ntmps39
    go_wp2_with (first | (go_at_call 15; refine (rfloat_any _ _).mono ?_; rintro e w' ⟨rfl, rfl⟩) | (go_at_call 41; refine (rword_any _ _).mono ?_; rintro e w' ⟨rfl, rfl⟩))
    go_ret2
    exact ⟨ret_two (by have hr' : Ieee.double.sub x.toNat y.toNat = some r := hr
                       show (told r).toInt = (toldOpt (Ieee.double.sub x.toNat y.toNat)).toInt
                       rw [hr']; rfl) rfl, 0, rfl⟩
  | none =>
    have h := fun t w => run_arith_none .sub t x.toNat y.toNat (by simp) hr w
    go_enter Try.func39, Try.ntmps39
    go_wp2_with (first | (go_at_call 15; refine (rfloat_any _ _).mono ?_; rintro e w' ⟨rfl, rfl⟩) | (go_at_call 41; refine (rword_any _ _).mono ?_; rintro e w' ⟨rfl, rfl⟩))
    go_ret2
    exact ⟨ret_two (by have hr' : Ieee.double.sub x.toNat y.toNat = none := hr
                       show (told (nanWord _)).toInt = (toldOpt (Ieee.double.sub x.toNat y.toNat)).toInt
                       rw [hr', told_nanWord]; rfl) rfl, 1, rfl⟩

theorem rfloats_38 : RFloatsSaid 38 := by
  intro x y w
  cases hr : floatBits .mul .f64 x.toNat y.toNat with
  | some r =>
    have h := fun t w => run_arith_some .mul t x.toNat y.toNat r hr w
    go_enter Try.func39, Try.ntmps39
    go_wp2_with (first | (go_at_call 15; refine (rfloat_any _ _).mono ?_; rintro e w' ⟨rfl, rfl⟩) | (go_at_call 41; refine (rword_any _ _).mono ?_; rintro e w' ⟨rfl, rfl⟩))
    go_ret2
    exact ⟨ret_two (by have hr' : Ieee.double.mul x.toNat y.toNat = some r := hr
                       show (told r).toInt = (toldOpt (Ieee.double.mul x.toNat y.toNat)).toInt
                       rw [hr']; rfl) rfl, 0, rfl⟩
  | none =>
    have h := fun t w => run_arith_none .mul t x.toNat y.toNat (by simp) hr w
    go_enter Try.func39, Try.ntmps39
    go_wp2_with (first | (go_at_call 15; refine (rfloat_any _ _).mono ?_; rintro e w' ⟨rfl, rfl⟩) | (go_at_call 41; refine (rword_any _ _).mono ?_; rintro e w' ⟨rfl, rfl⟩))
    go_ret2
    exact ⟨ret_two (by have hr' : Ieee.double.mul x.toNat y.toNat = none := hr
                       show (told (nanWord _)).toInt = (toldOpt (Ieee.double.mul x.toNat y.toNat)).toInt
                       rw [hr', told_nanWord]; rfl) rfl, 1, rfl⟩

theorem rfloats_39 : RFloatsSaid 39 := by
  intro x y w
  cases hr : floatBits .quo .f64 x.toNat y.toNat with
  | some r =>
    have h := fun t w => run_arith_some .quo t x.toNat y.toNat r hr w
    go_enter Try.func39, Try.ntmps39
    go_wp2_with (first | (go_at_call 15; refine (rfloat_any _ _).mono ?_; rintro e w' ⟨rfl, rfl⟩) | (go_at_call 41; refine (rword_any _ _).mono ?_; rintro e w' ⟨rfl, rfl⟩))
    go_ret2
    exact ⟨ret_two (by have hr' : Ieee.double.div x.toNat y.toNat = some r := hr
                       show (told r).toInt = (toldOpt (Ieee.double.div x.toNat y.toNat)).toInt
                       rw [hr']; rfl) rfl, 0, rfl⟩
  | none =>
    have h := fun t w => run_arith_none .quo t x.toNat y.toNat (by simp) hr w
    go_enter Try.func39, Try.ntmps39
    go_wp2_with (first | (go_at_call 15; refine (rfloat_any _ _).mono ?_; rintro e w' ⟨rfl, rfl⟩) | (go_at_call 41; refine (rword_any _ _).mono ?_; rintro e w' ⟨rfl, rfl⟩))
    go_ret2
    exact ⟨ret_two (by have hr' : Ieee.double.div x.toNat y.toNat = none := hr
                       show (told (nanWord _)).toInt = (toldOpt (Ieee.double.div x.toNat y.toNat)).toInt
                       rw [hr', told_nanWord]; rfl) rfl, 1, rfl⟩

theorem rfloats_40 : RFloatsSaid 40 := by
  intro x y w
  have ht : floats 40 x.toNat y.toNat = (one (Ieee.double.order x.toNat y.toNat == some .eq), 0) := rfl
  rw [ht]; clear ht
  have key : (Ieee.double.order x.toNat y.toNat == some .eq) = if nan x.toNat = true then false else if nan y.toNat = true then false else (rank x.toNat == rank y.toNat) := by
    cases nx : nan x.toNat with
    | true => rw [ord_nan _ _ (Or.inl nx)]; rfl
    | false =>
      cases ny : nan y.toNat with
      | true => rw [ord_nan _ _ (Or.inr ny)]; rfl
      | false =>
        rw [order_rank _ _ nx ny]
        rcases Int.lt_trichotomy (rank x.toNat) (rank y.toNat) with h | h | h
        · rw [cmp_lt h]; simp; omega
        · rw [h]; simp
        · rw [cmp_gt h]; simp; omega
  rw [key]; clear key
  have N1 := Lib.hid (nan_any x)
  have N2 := Lib.hid (nan_any y)
  have K1 := Lib.hid (rrank_any x)
  have K2 := Lib.hid (rrank_any y)
  have F1 := Lib.hid (rfloat_any x)
  have F2 := Lib.hid (rfloat_any y)
  generalize rank x.toNat = r1 at *
  generalize rank y.toNat = r2 at *
  cases nx : nan x.toNat with
  | true =>
    rw [nx] at N1
    go_enter Try.func39, Try.ntmps39
    go_wp2_with (first | (go_at_call 15; refine (rfloat_any _ _).mono ?_; rintro e w' ⟨rfl, rfl⟩) | (go_at_call 12; (with_reducible refine (N1.out _).mono ?_); rintro e w' ⟨rfl, rfl⟩) | (go_at_call 37; refine (rone_any _ _).mono ?_; rintro e w' ⟨rfl, rfl⟩))
    go_ret2
    exact ⟨ret_two rfl rfl, 0, rfl⟩
  | false =>
    rw [nx] at N1
    cases ny : nan y.toNat with
    | true =>
      rw [ny] at N2
      go_enter Try.func39, Try.ntmps39
      go_wp2_with (first | (go_at_call 15; refine (rfloat_any _ _).mono ?_; rintro e w' ⟨rfl, rfl⟩) | (go_at_call 12; (first | (with_reducible refine (N1.out _).mono ?_) | (with_reducible refine (N2.out _).mono ?_)); rintro e w' ⟨rfl, rfl⟩) | (go_at_call 37; refine (rone_any _ _).mono ?_; rintro e w' ⟨rfl, rfl⟩))
      go_ret2
      exact ⟨ret_two rfl rfl, 0, rfl⟩
    | false =>
      rw [ny] at N2
      go_enter Try.func39, Try.ntmps39
      go_wp2_with (first | (go_at_call 15; refine (rfloat_any _ _).mono ?_; rintro e w' ⟨rfl, rfl⟩) | (go_at_call 12; (first | (with_reducible refine (N1.out _).mono ?_) | (with_reducible refine (N2.out _).mono ?_)); rintro e w' ⟨rfl, rfl⟩) | (go_at_call 45; (first | (with_reducible refine (K1.out _).mono ?_) | (with_reducible refine (K2.out _).mono ?_)); rintro e w' ⟨rfl, rfl⟩) | (go_at_call 37; refine (rone_any _ _).mono ?_; rintro e w' ⟨rfl, rfl⟩))
      go_ret2
      exact ⟨ret_two rfl rfl, 0, rfl⟩

theorem rfloats_41 : RFloatsSaid 41 := by
  intro x y w
  have ht : floats 41 x.toNat y.toNat = (one (Ieee.double.order x.toNat y.toNat == some .lt), 0) := rfl
  rw [ht]; clear ht
  have key : (Ieee.double.order x.toNat y.toNat == some .lt) = if nan x.toNat = true then false else if nan y.toNat = true then false else decide (rank x.toNat < rank y.toNat) := by
    cases nx : nan x.toNat with
    | true => rw [ord_nan _ _ (Or.inl nx)]; rfl
    | false =>
      cases ny : nan y.toNat with
      | true => rw [ord_nan _ _ (Or.inr ny)]; rfl
      | false =>
        rw [order_rank _ _ nx ny]
        rcases Int.lt_trichotomy (rank x.toNat) (rank y.toNat) with h | h | h
        · rw [cmp_lt h]; simp; omega
        · rw [h]; simp
        · rw [cmp_gt h]; simp; omega
  rw [key]; clear key
  have N1 := Lib.hid (nan_any x)
  have N2 := Lib.hid (nan_any y)
  have K1 := Lib.hid (rrank_any x)
  have K2 := Lib.hid (rrank_any y)
  have F1 := Lib.hid (rfloat_any x)
  have F2 := Lib.hid (rfloat_any y)
  generalize rank x.toNat = r1 at *
  generalize rank y.toNat = r2 at *
  cases nx : nan x.toNat with
  | true =>
    rw [nx] at N1
    go_enter Try.func39, Try.ntmps39
    go_wp2_with (first | (go_at_call 15; refine (rfloat_any _ _).mono ?_; rintro e w' ⟨rfl, rfl⟩) | (go_at_call 12; (with_reducible refine (N1.out _).mono ?_); rintro e w' ⟨rfl, rfl⟩) | (go_at_call 37; refine (rone_any _ _).mono ?_; rintro e w' ⟨rfl, rfl⟩))
    go_ret2
    exact ⟨ret_two rfl rfl, 0, rfl⟩
  | false =>
    rw [nx] at N1
    cases ny : nan y.toNat with
    | true =>
      rw [ny] at N2
      go_enter Try.func39, Try.ntmps39
      go_wp2_with (first | (go_at_call 15; refine (rfloat_any _ _).mono ?_; rintro e w' ⟨rfl, rfl⟩) | (go_at_call 12; (first | (with_reducible refine (N1.out _).mono ?_) | (with_reducible refine (N2.out _).mono ?_)); rintro e w' ⟨rfl, rfl⟩) | (go_at_call 37; refine (rone_any _ _).mono ?_; rintro e w' ⟨rfl, rfl⟩))
      go_ret2
      exact ⟨ret_two rfl rfl, 0, rfl⟩
    | false =>
      rw [ny] at N2
      go_enter Try.func39, Try.ntmps39
      go_wp2_with (first | (go_at_call 15; refine (rfloat_any _ _).mono ?_; rintro e w' ⟨rfl, rfl⟩) | (go_at_call 12; (first | (with_reducible refine (N1.out _).mono ?_) | (with_reducible refine (N2.out _).mono ?_)); rintro e w' ⟨rfl, rfl⟩) | (go_at_call 45; (first | (with_reducible refine (K1.out _).mono ?_) | (with_reducible refine (K2.out _).mono ?_)); rintro e w' ⟨rfl, rfl⟩) | (go_at_call 37; refine (rone_any _ _).mono ?_; rintro e w' ⟨rfl, rfl⟩))
      go_ret2
      exact ⟨ret_two rfl rfl, 0, rfl⟩

theorem rfloats_any (op : Int) : RFloatsSaid op := by
  by_cases h36 : op = 36
  · subst h36; exact rfloats_36
  by_cases h37 : op = 37
  · subst h37; exact rfloats_37
  by_cases h38 : op = 38
  · subst h38; exact rfloats_38
  by_cases h39 : op = 39
  · subst h39; exact rfloats_39
  by_cases h40 : op = 40
  · subst h40; exact rfloats_40
  by_cases h41 : op = 41
  · subst h41; exact rfloats_41
  intro x y w
  have e36 : (op == 36) = false := beq_eq_false_iff_ne.2 h36
  have e37 : (op == 37) = false := beq_eq_false_iff_ne.2 h37
  have e38 : (op == 38) = false := beq_eq_false_iff_ne.2 h38
  have e39 : (op == 39) = false := beq_eq_false_iff_ne.2 h39
  have e40 : (op == 40) = false := beq_eq_false_iff_ne.2 h40
  have e41 : (op == 41) = false := beq_eq_false_iff_ne.2 h41
  have hf : floats op x.toNat y.toNat = (0#64, 8) := by simp [floats, h36, h37, h38, h39, h40, h41]
  rw [hf]
  clear hf h36 h37 h38 h39 h40 h41
  go_enter Try.func39, Try.ntmps39
  go_wp2_with (go_at_call 15; refine (rfloat_any _ _).mono ?_; rintro e w' ⟨rfl, rfl⟩)
  go_ret2
  exact ⟨ret_two rfl rfl, 0, rfl⟩

def RTwoSaid (op : Int) : Prop := ∀ (x y : BitVec 64) (w : World), Calls Try.prog 22 #[.int .i64 op, .int .i64 x.toInt, .int .i64 y.toInt] w fun e w' => e = .returned (.tuple #[.int .i64 (two op x y).1.toInt, .int .i64 (two op x y).2]) ∧ Drew w w'

theorem rtwo_20 : RTwoSaid 20 := by
  intro x y w
  go_enter Try.func22, Try.ntmps22
  go_wp2_with (first | (go_at_call 37; refine (rone_any _ _).mono ?_; rintro e w' ⟨rfl, rfl⟩) | (go_at_call 38; refine (below_any _ _ _).mono ?_; rintro e w' ⟨rfl, rfl⟩) | (go_at_call 35; refine (divided_any _ (by decide) _ _ _).mono ?_; rintro e w' ⟨rfl, rfl⟩))
  go_ret2
  exact ⟨ret_two (w_add x y) rfl, 0, rfl⟩

theorem rtwo_21 : RTwoSaid 21 := by
  intro x y w
  go_enter Try.func22, Try.ntmps22
  go_wp2_with (first | (go_at_call 37; refine (rone_any _ _).mono ?_; rintro e w' ⟨rfl, rfl⟩) | (go_at_call 38; refine (below_any _ _ _).mono ?_; rintro e w' ⟨rfl, rfl⟩) | (go_at_call 35; refine (divided_any _ (by decide) _ _ _).mono ?_; rintro e w' ⟨rfl, rfl⟩))
  go_ret2
  exact ⟨ret_two (w_sub x y) rfl, 0, rfl⟩

theorem rtwo_22 : RTwoSaid 22 := by
  intro x y w
  go_enter Try.func22, Try.ntmps22
  go_wp2_with (first | (go_at_call 37; refine (rone_any _ _).mono ?_; rintro e w' ⟨rfl, rfl⟩) | (go_at_call 38; refine (below_any _ _ _).mono ?_; rintro e w' ⟨rfl, rfl⟩) | (go_at_call 35; refine (divided_any _ (by decide) _ _ _).mono ?_; rintro e w' ⟨rfl, rfl⟩))
  go_ret2
  exact ⟨ret_two (w_mul x y) rfl, 0, rfl⟩

theorem rtwo_23 : RTwoSaid 23 := by
  intro x y w
  go_enter Try.func22, Try.ntmps22
  go_wp2_with (first | (go_at_call 37; refine (rone_any _ _).mono ?_; rintro e w' ⟨rfl, rfl⟩) | (go_at_call 38; refine (below_any _ _ _).mono ?_; rintro e w' ⟨rfl, rfl⟩) | (go_at_call 35; refine (divided_any _ (by decide) _ _ _).mono ?_; rintro e w' ⟨rfl, rfl⟩))
  go_ret2
  exact ⟨ret_two (rfl) rfl, 0, rfl⟩

theorem rtwo_24 : RTwoSaid 24 := by
  intro x y w
  go_enter Try.func22, Try.ntmps22
  go_wp2_with (first | (go_at_call 37; refine (rone_any _ _).mono ?_; rintro e w' ⟨rfl, rfl⟩) | (go_at_call 38; refine (below_any _ _ _).mono ?_; rintro e w' ⟨rfl, rfl⟩) | (go_at_call 35; refine (divided_any _ (by decide) _ _ _).mono ?_; rintro e w' ⟨rfl, rfl⟩))
  go_ret2
  exact ⟨ret_two (rfl) rfl, 0, rfl⟩

theorem rtwo_25 : RTwoSaid 25 := by
  intro x y w
  go_enter Try.func22, Try.ntmps22
  go_wp2_with (first | (go_at_call 37; refine (rone_any _ _).mono ?_; rintro e w' ⟨rfl, rfl⟩) | (go_at_call 38; refine (below_any _ _ _).mono ?_; rintro e w' ⟨rfl, rfl⟩) | (go_at_call 35; refine (divided_any _ (by decide) _ _ _).mono ?_; rintro e w' ⟨rfl, rfl⟩))
  go_ret2
  exact ⟨ret_two (w_and x y) rfl, 0, rfl⟩

theorem rtwo_26 : RTwoSaid 26 := by
  intro x y w
  go_enter Try.func22, Try.ntmps22
  go_wp2_with (first | (go_at_call 37; refine (rone_any _ _).mono ?_; rintro e w' ⟨rfl, rfl⟩) | (go_at_call 38; refine (below_any _ _ _).mono ?_; rintro e w' ⟨rfl, rfl⟩) | (go_at_call 35; refine (divided_any _ (by decide) _ _ _).mono ?_; rintro e w' ⟨rfl, rfl⟩))
  go_ret2
  exact ⟨ret_two (w_or x y) rfl, 0, rfl⟩

theorem rtwo_31 : RTwoSaid 31 := by
  intro x y w
  go_enter Try.func22, Try.ntmps22
  go_wp2_with (first | (go_at_call 37; refine (rone_any _ _).mono ?_; rintro e w' ⟨rfl, rfl⟩) | (go_at_call 38; refine (below_any _ _ _).mono ?_; rintro e w' ⟨rfl, rfl⟩) | (go_at_call 35; refine (divided_any _ (by decide) _ _ _).mono ?_; rintro e w' ⟨rfl, rfl⟩))
  go_ret2
  exact ⟨ret_two (by rw [w_eq]; rfl) rfl, 0, rfl⟩

theorem rtwo_32 : RTwoSaid 32 := by
  intro x y w
  go_enter Try.func22, Try.ntmps22
  go_wp2_with (first | (go_at_call 37; refine (rone_any _ _).mono ?_; rintro e w' ⟨rfl, rfl⟩) | (go_at_call 38; refine (below_any _ _ _).mono ?_; rintro e w' ⟨rfl, rfl⟩) | (go_at_call 35; refine (divided_any _ (by decide) _ _ _).mono ?_; rintro e w' ⟨rfl, rfl⟩))
  go_ret2
  exact ⟨ret_two (by rw [w_lt]; rfl) rfl, 0, rfl⟩

theorem rtwo_33 : RTwoSaid 33 := by
  intro x y w
  go_enter Try.func22, Try.ntmps22
  go_wp2_with (first | (go_at_call 37; refine (rone_any _ _).mono ?_; rintro e w' ⟨rfl, rfl⟩) | (go_at_call 38; refine (below_any _ _ _).mono ?_; rintro e w' ⟨rfl, rfl⟩) | (go_at_call 35; refine (divided_any _ (by decide) _ _ _).mono ?_; rintro e w' ⟨rfl, rfl⟩))
  go_ret2
  exact ⟨ret_two (rfl) rfl, 0, rfl⟩

theorem xor_is (x y : BitVec 64) : (x &&& ~~~y) ||| (y &&& ~~~x) = x ^^^ y := by
  ext i hi
  simp only [BitVec.getElem_or, BitVec.getElem_and, BitVec.getElem_not, BitVec.getElem_xor]
  cases x[i] <;> cases y[i] <;> rfl

theorem rtwo_27 : RTwoSaid 27 := by
  intro x y w
  have k1 : bits .andNot .i64 x.toInt y.toInt = (x &&& ~~~y).toInt := w_andNot x y
  have k2 : bits .andNot .i64 y.toInt x.toInt = (y &&& ~~~x).toInt := w_andNot y x
  have k3 : bits .or .i64 (x &&& ~~~y).toInt (y &&& ~~~x).toInt = (two 27 x y).1.toInt := by
    rw [w_or, xor_is]; rfl
  have k4 : (two 27 x y).2 = 0 := rfl
  rw [k4]; clear k4
  generalize (two 27 x y).1 = r at *
  generalize (x &&& ~~~y) = p at *
  generalize (y &&& ~~~x) = q at *
  go_enter Try.func22, Try.ntmps22
  go_wp2_with (first | (go_at_call 37; refine (rone_any _ _).mono ?_; rintro e w' ⟨rfl, rfl⟩) | (go_at_call 38; refine (below_any _ _ _).mono ?_; rintro e w' ⟨rfl, rfl⟩) | (go_at_call 35; refine (divided_any _ (by decide) _ _ _).mono ?_; rintro e w' ⟨rfl, rfl⟩))
  go_ret2
  exact ⟨ret_two rfl rfl, 0, rfl⟩

theorem rtwo_28 : RTwoSaid 28 := by
  intro x y w
  have hb := w_low y
  have M := Lib.hid (moved_any 28 (by decide) x y)
  have k4 : (two 28 x y).2 = 0 := rfl
  rw [k4]; clear k4
  generalize (two 28 x y).1 = r at *
  generalize y.toNat % 64 = k at *
  go_enter Try.func22, Try.ntmps22
  go_wp2_with (go_at_call 36; refine (M.out _).mono ?_; rintro e w' ⟨rfl, rfl⟩)
  go_ret2
  exact ⟨ret_two rfl rfl, 0, rfl⟩

theorem rtwo_29 : RTwoSaid 29 := by
  intro x y w
  have hb := w_low y
  have M := Lib.hid (moved_any 29 (by decide) x y)
  have k4 : (two 29 x y).2 = 0 := rfl
  rw [k4]; clear k4
  generalize (two 29 x y).1 = r at *
  generalize y.toNat % 64 = k at *
  go_enter Try.func22, Try.ntmps22
  go_wp2_with (go_at_call 36; refine (M.out _).mono ?_; rintro e w' ⟨rfl, rfl⟩)
  go_ret2
  exact ⟨ret_two rfl rfl, 0, rfl⟩

theorem rtwo_30 : RTwoSaid 30 := by
  intro x y w
  have hb := w_low y
  have M := Lib.hid (moved_any 30 (by decide) x y)
  have k4 : (two 30 x y).2 = 0 := rfl
  rw [k4]; clear k4
  generalize (two 30 x y).1 = r at *
  generalize y.toNat % 64 = k at *
  go_enter Try.func22, Try.ntmps22
  go_wp2_with (go_at_call 36; refine (M.out _).mono ?_; rintro e w' ⟨rfl, rfl⟩)
  go_ret2
  exact ⟨ret_two rfl rfl, 0, rfl⟩

theorem rtwo_any (op : Int) : RTwoSaid op := by
  by_cases h20 : op = 20
  · subst h20; exact rtwo_20
  by_cases h21 : op = 21
  · subst h21; exact rtwo_21
  by_cases h22 : op = 22
  · subst h22; exact rtwo_22
  by_cases h23 : op = 23
  · subst h23; exact rtwo_23
  by_cases h24 : op = 24
  · subst h24; exact rtwo_24
  by_cases h25 : op = 25
  · subst h25; exact rtwo_25
  by_cases h26 : op = 26
  · subst h26; exact rtwo_26
  by_cases h27 : op = 27
  · subst h27; exact rtwo_27
  by_cases h28 : op = 28
  · subst h28; exact rtwo_28
  by_cases h29 : op = 29
  · subst h29; exact rtwo_29
  by_cases h30 : op = 30
  · subst h30; exact rtwo_30
  by_cases h31 : op = 31
  · subst h31; exact rtwo_31
  by_cases h32 : op = 32
  · subst h32; exact rtwo_32
  by_cases h33 : op = 33
  · subst h33; exact rtwo_33
  intro x y w
  have e20 : (op == 20) = false := beq_eq_false_iff_ne.2 h20
  have e21 : (op == 21) = false := beq_eq_false_iff_ne.2 h21
  have e22 : (op == 22) = false := beq_eq_false_iff_ne.2 h22
  have e23 : (op == 23) = false := beq_eq_false_iff_ne.2 h23
  have e24 : (op == 24) = false := beq_eq_false_iff_ne.2 h24
  have e25 : (op == 25) = false := beq_eq_false_iff_ne.2 h25
  have e26 : (op == 26) = false := beq_eq_false_iff_ne.2 h26
  have e27 : (op == 27) = false := beq_eq_false_iff_ne.2 h27
  have e28 : (op == 28) = false := beq_eq_false_iff_ne.2 h28
  have e29 : (op == 29) = false := beq_eq_false_iff_ne.2 h29
  have e30 : (op == 30) = false := beq_eq_false_iff_ne.2 h30
  have e31 : (op == 31) = false := beq_eq_false_iff_ne.2 h31
  have e32 : (op == 32) = false := beq_eq_false_iff_ne.2 h32
  have e33 : (op == 33) = false := beq_eq_false_iff_ne.2 h33
  have hf : two op x y = floats op x.toNat y.toNat := by simp [two, h20, h21, h22, h23, h24, h25, h26, h27, h28, h29, h30, h31, h32, h33]
  rw [hf]
  clear hf h20 h21 h22 h23 h24 h25 h26 h27 h28 h29 h30 h31 h32 h33
  go_enter Try.func22, Try.ntmps22
  go_wp2_with (go_at_call 39; refine (rfloats_any _ _ _ _).mono ?_; rintro e w' ⟨rfl, n, rfl⟩)
  go_ret2
  exact ⟨ret_two rfl rfl, n, rfl⟩

end Go.Proofs.Ytdjenhbglkcapaa.CW
