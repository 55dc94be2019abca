/-
  Plain laws of words moved up and down. No program is in sight here. Conditions: as each theorem states.
-/
import Derived.Test.YtdjenhbglkcapaaCellPlain
namespace Go.Proofs.Ytdjenhbglkcapaa.CW
open Go.RowKit
set_option linter.unusedSimpArgs false
set_option linter.unusedVariables false

theorem low_toNat (x : BitVec 64) (m : Nat) (hm : m < 64) : (x &&& ((1#64 <<< m) - 1#64)).toNat = x.toNat % 2 ^ m := by
  have hp : 2 ^ m ≤ 2 ^ 63 := Nat.pow_le_pow_right (by decide) (by omega)
  have hq : 0 < 2 ^ m := Nat.two_pow_pos m
  have e1 : (1#64 <<< m).toNat = 2 ^ m := by
    rw [BitVec.toNat_shiftLeft, Nat.shiftLeft_eq, show (1#64).toNat = 1 from rfl, Nat.one_mul]; exact Nat.mod_eq_of_lt (by omega)
  have e2 : ((1#64 <<< m) - 1#64).toNat = 2 ^ m - 1 := by
    rw [BitVec.toNat_sub, e1, show (1#64).toNat = 1 from rfl]; omega
  rw [BitVec.toNat_and, e2]; exact Nat.and_two_pow_sub_one_eq_mod x.toNat m

theorem up_mul (x : BitVec 64) (m : Nat) : x <<< m = x * (1#64 <<< m) := by
  rw [BitVec.shiftLeft_eq_mul_twoPow, BitVec.twoPow_eq]

theorem flat_up (x : BitVec 64) (m : Nat) (hm : m < 64) : (x >>> m) <<< m = x - (x &&& ((1#64 <<< m) - 1#64)) := by
  apply BitVec.eq_of_toNat_eq
  rw [BitVec.toNat_sub, low_toNat x m hm, BitVec.toNat_shiftLeft, BitVec.toNat_ushiftRight, Nat.shiftLeft_eq, Nat.shiftRight_eq_div_pow]
  have h := Nat.div_add_mod x.toNat (2 ^ m)
  rw [Nat.mul_comm] at h
  have hl : x.toNat % 2 ^ m < 2 ^ m := Nat.mod_lt _ (Nat.two_pow_pos m)
  have hx := x.isLt
  have hle : 2 ^ m ≤ 2 ^ 64 := Nat.pow_le_pow_right (by decide) (by omega)
  generalize x.toNat % 2 ^ m = r at *
  generalize x.toNat / 2 ^ m * 2 ^ m = q at *
  omega

theorem sar_up (x : BitVec 64) (m : Nat) (hm : m < 64) : (x.sshiftRight m) <<< m = (x >>> m) <<< m := by
  ext i hi
  simp only [BitVec.getElem_shiftLeft, BitVec.getElem_sshiftRight, BitVec.getElem_ushiftRight]
  by_cases h : i < m
  · simp [h]
  · have : m + (i - m) < 64 := by omega
    simp [h, this]

theorem sar_neg (x : BitVec 64) (m : Nat) (hm : m < 64) : decide ((x.sshiftRight m).toInt < 0) = decide (x.toInt < 0) := by
  rw [← w_sar x m hm, Bool.eq_iff_iff]; simp only [decide_eq_true_eq]
  have hp : (0 : Int) < 2 ^ m := Int.pow_pos (by decide)
  constructor
  · intro h; apply Int.not_le.1; intro h0; exact Int.not_le.2 h (Int.ediv_nonneg h0 (by omega))
  · intro h; exact Int.ediv_neg_of_neg_of_pos h hp

theorem flat_nonneg (x : BitVec 64) (m : Nat) (hm : m < 64) (h0 : m ≠ 0) : 0 ≤ (x >>> m).toInt := by
  have h : (x >>> m).toNat < 2 ^ 63 := by
    rw [BitVec.toNat_ushiftRight, Nat.shiftRight_eq_div_pow]
    have h2 : 2 ^ 1 ≤ 2 ^ m := Nat.pow_le_pow_right (by decide) (by omega)
    refine (Nat.div_lt_iff_lt_mul (Nat.two_pow_pos m)).2 ?_
    have := x.isLt
    omega
  rw [BitVec.toInt_eq_toNat_cond, if_pos (by omega)]; omega

end Go.Proofs.Ytdjenhbglkcapaa.CW
