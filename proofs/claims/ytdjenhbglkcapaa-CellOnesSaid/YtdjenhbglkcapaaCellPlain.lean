/-
  Plain laws of whole words: sums and differences, quotients and rests, bits, orders, shifts. No program is in sight here. Conditions: as each theorem states.
-/
import Derived.Test.YtdjenhbglkcapaaCellLaw
namespace Go.Proofs.Ytdjenhbglkcapaa.CW
open Go.RowKit
set_option linter.unusedSimpArgs false
set_option linter.unusedVariables false

theorem lt_add (x y : BitVec 64) : ltwo 20 x y = x + y := rfl
theorem lt_sub (x y : BitVec 64) : ltwo 21 x y = x - y := rfl
theorem lt_mul (x y : BitVec 64) : ltwo 22 x y = x * y := rfl
theorem lt_and (x y : BitVec 64) : ltwo 25 x y = x &&& y := rfl
theorem lt_or (x y : BitVec 64) : ltwo 26 x y = x ||| y := rfl
theorem lt_xor (x y : BitVec 64) : ltwo 27 x y = x ^^^ y := rfl
theorem lt_shl (x y : BitVec 64) : ltwo 28 x y = x <<< (y.toNat % 64) := rfl
theorem lt_shr (x y : BitVec 64) : ltwo 29 x y = x.sshiftRight (y.toNat % 64) := rfl
theorem lt_ushr (x y : BitVec 64) : ltwo 30 x y = x >>> (y.toNat % 64) := rfl
theorem lt_eq (x y : BitVec 64) : ltwo 31 x y = one (x == y) := rfl
theorem lt_lt (x y : BitVec 64) : ltwo 32 x y = one (x.slt y) := rfl
theorem lt_ult (x y : BitVec 64) : ltwo 33 x y = one (x.ult y) := rfl
theorem lo_neg (x : BitVec 64) : lOne 34 x = -x := rfl
theorem lo_not (x : BitVec 64) : lOne 35 x = ~~~x := rfl

theorem nat_and_or (a b : Nat) : (a &&& b) + (a ||| b) = a + b := by
  induction a using Nat.strongRecOn generalizing b with
  | ind a ih =>
    by_cases h : a = 0
    · subst h; simp
    · have e1 := ih (a / 2) (by omega) (b / 2)
      have ha := Nat.and_div_two (a := a) (b := b)
      have ho := Nat.or_div_two (a := a) (b := b)
      have ma := @Nat.and_mod_two_pow a b 1
      have mo := @Nat.or_mod_two_pow a b 1
      simp only [Nat.pow_one] at ma mo
      rw [← ha, ← ho] at e1
      have key : (a % 2 &&& b % 2) + (a % 2 ||| b % 2) = a % 2 + b % 2 := by
        have h1 : a % 2 = 0 ∨ a % 2 = 1 := by omega
        have h2 : b % 2 = 0 ∨ b % 2 = 1 := by omega
        rcases h1 with h1 | h1 <;> rcases h2 with h2 | h2 <;> rw [h1, h2] <;> rfl
      rw [← ma, ← mo] at key
      omega

theorem and_or (x y : BitVec 64) : (x &&& y) + (x ||| y) = x + y := by
  apply BitVec.eq_of_toNat_eq
  rw [BitVec.toNat_add, BitVec.toNat_add, BitVec.toNat_and, BitVec.toNat_or, nat_and_or]

theorem nat_or_xor (a b : Nat) : (a ^^^ b) + (a &&& b) = (a ||| b) := by
  induction a using Nat.strongRecOn generalizing b with
  | ind a ih =>
    by_cases h : a = 0
    · subst h; simp
    · have e1 := ih (a / 2) (by omega) (b / 2)
      have ha := Nat.and_div_two (a := a) (b := b)
      have ho := Nat.or_div_two (a := a) (b := b)
      have hx := Nat.xor_div_two (a := a) (b := b)
      have ma := @Nat.and_mod_two_pow a b 1
      have mo := @Nat.or_mod_two_pow a b 1
      have mx := @Nat.xor_mod_two_pow a b 1
      simp only [Nat.pow_one] at ma mo mx
      rw [← ha, ← ho, ← hx] at e1
      have key : (a % 2 ^^^ b % 2) + (a % 2 &&& b % 2) = (a % 2 ||| b % 2) := by
        have h1 : a % 2 = 0 ∨ a % 2 = 1 := by omega
        have h2 : b % 2 = 0 ∨ b % 2 = 1 := by omega
        rcases h1 with h1 | h1 <;> rcases h2 with h2 | h2 <;> rw [h1, h2] <;> rfl
      rw [← ma, ← mo, ← mx] at key
      omega

theorem or_and_xor (x y : BitVec 64) : (x ||| y) - (x &&& y) = x ^^^ y := by
  have h : (x ^^^ y) + (x &&& y) = (x ||| y) := by
    apply BitVec.eq_of_toNat_eq
    rw [BitVec.toNat_add, BitVec.toNat_and, BitVec.toNat_or, BitVec.toNat_xor, nat_or_xor]
    exact Nat.mod_eq_of_lt (by rw [← BitVec.toNat_or]; exact (x ||| y).isLt)
  rw [← h, BitVec.add_sub_cancel]

theorem div_mod (x y : BitVec 64) : x.sdiv y * y + x.srem y = x := by
  apply BitVec.eq_of_toInt_eq
  rw [← w_add, ← w_mul, ← w_quo, ← w_rem]
  have h : ∀ a b c : Int, wrap64 (wrap64 (wrap64 a * b) + c) = wrap64 (a * b + c) := by
    intro a b c; simp only [wrap64_bmod]
    rw [Int.bmod_add_bmod]
    rw [← Int.bmod_add_bmod (x := a.bmod _ * b), Int.bmod_mul_bmod, Int.bmod_add_bmod]
  rw [h, Int.tdiv_mul_add_tmod, wrap64_toInt]

/-- Of two numbers' rests: nearer to 0 than the right one, of the left one's sign. -/
theorem rem_sign (a b : Int) (hb : b ≠ 0) : (a.tmod b ≠ 0 → (a.tmod b < 0 ↔ a < 0)) ∧ (a.tmod b).natAbs < b.natAbs := by
  have h1 : (a.tmod b).natAbs < b.natAbs := by
    rw [Int.natAbs_tmod]; exact Nat.mod_lt _ (by omega)
  refine ⟨fun h0 => ?_, h1⟩
  rcases Int.lt_or_le a 0 with h | h
  · have h2 : a.tmod b ≤ 0 := by
      have := Int.tmod_nonneg (a := -a) b (by omega)
      rw [Int.neg_tmod] at this; omega
    omega
  · have := Int.tmod_nonneg (a := a) b h
    omega

def down (n : Int) : Int := if 0 < n then 0 - n else n

theorem one_toInt (b : Bool) : (one b).toInt = if b then 1 else 0 := by cases b <;> rfl

end Go.Proofs.Ytdjenhbglkcapaa.CW
