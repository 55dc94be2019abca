/-
  Plain words of chapter 10: what the instructions of words compute, on bit vectors of 64 bits and on the words of Ieee.double. No program is in sight here. Proved beside the definitions: small facts on them. Conditions: none.
-/
import Derived.Laws.FloatBits
import Derived.RowKit
import Derived.Laws.BitsAll
namespace Go.Proofs.Ytdjenhbglkcapaa.CW
open Go.RowKit (wrap64)
set_option linter.unusedSimpArgs false
set_option linter.unusedVariables false

/-- The word of all floats that are no number. -/
def quiet : BitVec 64 := 9221120237041090560#64

/-- Is the float of this word no number? -/
def nan (b : Nat) : Bool := decide (9218868437227405312 < b % 9223372036854775808)

/-- The word that a float is told as. -/
def told (b : Nat) : BitVec 64 := if nan b then quiet else BitVec.ofNat 64 b

/-- An operation's answer as a word. -/
def toldOpt : Option Nat → BitVec 64
  | some r => told r
  | none => quiet

def one (b : Bool) : BitVec 64 := if b then 1#64 else 0#64

/-- The instructions of two floats: the word and the trap. -/
def floats (op : Int) (x y : Nat) : BitVec 64 × Int :=
  if op = 36 then (toldOpt (Ieee.double.add x y), 0)
  else if op = 37 then (toldOpt (Ieee.double.sub x y), 0)
  else if op = 38 then (toldOpt (Ieee.double.mul x y), 0)
  else if op = 39 then (toldOpt (Ieee.double.div x y), 0)
  else if op = 40 then (one (Ieee.double.order x y == some .eq), 0)
  else if op = 41 then (one (Ieee.double.order x y == some .lt), 0)
  else (0#64, 8)

/-- The instructions of two words: the word and the trap. -/
def two (op : Int) (x y : BitVec 64) : BitVec 64 × Int :=
  if op = 20 then (x + y, 0)
  else if op = 21 then (x - y, 0)
  else if op = 22 then (x * y, 0)
  else if op = 23 then (if y = 0#64 then (0#64, 5) else (x.sdiv y, 0))
  else if op = 24 then (if y = 0#64 then (0#64, 5) else (x.srem y, 0))
  else if op = 25 then (x &&& y, 0)
  else if op = 26 then (x ||| y, 0)
  else if op = 27 then (x ^^^ y, 0)
  else if op = 28 then (x <<< (y.toNat % 64), 0)
  else if op = 29 then (x.sshiftRight (y.toNat % 64), 0)
  else if op = 30 then (x >>> (y.toNat % 64), 0)
  else if op = 31 then (one (x == y), 0)
  else if op = 32 then (one (x.slt y), 0)
  else if op = 33 then (one (x.ult y), 0)
  else floats op x.toNat y.toNat

/-- A float with its sign turned. -/
def flip (b : Nat) : Nat := b ^^^ 9223372036854775808

theorem wrap64_bmod (n : Int) : wrap64 n = n.bmod 18446744073709551616 := by
  unfold wrap64 Int.bmod; dsimp only; split <;> omega

theorem wrap64_toInt (x : BitVec 64) : wrap64 x.toInt = x.toInt := by
  rw [wrap64_bmod]; exact BitVec.toInt_bmod_cancel x

theorem toInt_ofInt (n : Int) : (BitVec.ofInt 64 n).toInt = wrap64 n := by
  rw [wrap64_bmod, BitVec.toInt_ofInt]

theorem toInt_ofNat (n : Nat) : (BitVec.ofNat 64 n).toInt = wrap64 n := by
  rw [wrap64_bmod, BitVec.toInt_ofNat']

/-- A number that fits is a word's. -/
theorem word_of (n : Int) (h1 : -9223372036854775808 ≤ n) (h2 : n ≤ 9223372036854775807) : ∃ x : BitVec 64, n = x.toInt :=
  ⟨BitVec.ofInt 64 n, by rw [toInt_ofInt]; unfold wrap64; omega⟩

theorem word_of_wf {n : Int} (h : (Lit.int .i64 n).wf = true) : ∃ x : BitVec 64, n = x.toInt := by
  have e1 : IntKind.i64.min = -9223372036854775808 := by decide
  have e2 : IntKind.i64.max = 9223372036854775807 := by decide
  simp only [Lit.wf, e1, e2, Bool.and_eq_true, decide_eq_true_eq] at h
  exact word_of n h.1 h.2

theorem toInt_lo (x : BitVec 64) : -9223372036854775808 ≤ x.toInt := by have := BitVec.le_toInt x; simpa using this
theorem toInt_hi (x : BitVec 64) : x.toInt ≤ 9223372036854775807 := by have := @BitVec.toInt_le 64 x; simp at this; omega

theorem w_add (x y : BitVec 64) : wrap64 (x.toInt + y.toInt) = (x + y).toInt := by rw [wrap64_bmod, BitVec.toInt_add]
theorem w_sub (x y : BitVec 64) : wrap64 (x.toInt - y.toInt) = (x - y).toInt := by rw [wrap64_bmod, BitVec.toInt_sub]
theorem w_mul (x y : BitVec 64) : wrap64 (x.toInt * y.toInt) = (x * y).toInt := by rw [wrap64_bmod, BitVec.toInt_mul]
theorem w_quo (x y : BitVec 64) : wrap64 (x.toInt.tdiv y.toInt) = (x.sdiv y).toInt := by rw [wrap64_bmod, BitVec.toInt_sdiv]
theorem w_rem (x y : BitVec 64) : x.toInt.tmod y.toInt = (x.srem y).toInt := by rw [BitVec.toInt_srem]

theorem wrap_i64 (n : Int) : IntKind.i64.wrap n = wrap64 n := by
  unfold IntKind.wrap wrap64; simp only [IntKind.bits, IntKind.signed]; simp; split <;> omega

theorem w_bits (op : BinOp) (f : BitVec 64 → BitVec 64 → BitVec 64)
    (h : (op = .and ∧ f = (· &&& ·)) ∨ (op = .or ∧ f = (· ||| ·)) ∨ (op = .xor ∧ f = (· ^^^ ·)) ∨ (op = .andNot ∧ f = (· &&& ~~~ ·)))
    (x y : BitVec 64) : bits op .i64 x.toInt y.toInt = (f x y).toInt := by
  rcases h with ⟨rfl, rfl⟩ | ⟨rfl, rfl⟩ | ⟨rfl, rfl⟩ | ⟨rfl, rfl⟩
  all_goals
    simp only [bits]
    rw [wrap_i64, ← toInt_ofNat]
    simp only [IntKind.bits, BitVec.ofInt_toInt, BitVec.ofNat_toNat, BitVec.setWidth_eq]
    rfl

theorem w_and (x y : BitVec 64) : bits .and .i64 x.toInt y.toInt = (x &&& y).toInt := w_bits .and _ (by simp) x y
theorem w_or (x y : BitVec 64) : bits .or .i64 x.toInt y.toInt = (x ||| y).toInt := w_bits .or _ (by simp) x y
theorem w_xor (x y : BitVec 64) : bits .xor .i64 x.toInt y.toInt = (x ^^^ y).toInt := w_bits .xor _ (by simp) x y
theorem w_neg (x : BitVec 64) : wrap64 (-x.toInt) = (-x).toInt := by rw [BitVec.toInt_neg, wrap64_bmod]
theorem w_not (x : BitVec 64) : bits .xor .i64 (-1) x.toInt = (~~~x).toInt := by
  have h := w_xor (BitVec.allOnes 64) x
  rw [show (BitVec.allOnes 64).toInt = -1 from by decide, BitVec.allOnes_xor] at h; exact h
theorem w_andNot (x y : BitVec 64) : bits .andNot .i64 x.toInt y.toInt = (x &&& ~~~y).toInt := w_bits .andNot (· &&& ~~~ ·) (by simp) x y

theorem w_eq (x y : BitVec 64) : (x.toInt == y.toInt) = (x == y) := by
  rw [Bool.eq_iff_iff]; simp [BitVec.toInt_inj]
theorem w_lt (x y : BitVec 64) : decide (x.toInt < y.toInt) = x.slt y := rfl
theorem u64_toInt (x : BitVec 64) : IntKind.u64.wrap x.toInt = (x.toNat : Int) := by
  rw [IntKind.wrap_u64, BitVec.toInt_eq_toNat_cond]; have := x.isLt; split <;> omega
theorem w_ult (x y : BitVec 64) : decide (IntKind.u64.wrap x.toInt < IntKind.u64.wrap y.toInt) = x.ult y := by
  rw [u64_toInt, u64_toInt]; unfold BitVec.ult; simp

theorem w_low (y : BitVec 64) : bits .and .i64 y.toInt 63 = ((y.toNat % 64 : Nat) : Int) := by
  have h : bits .and .i64 y.toInt (63#64).toInt = (y &&& 63#64).toInt := w_and y 63#64
  have e : (63#64).toInt = 63 := by decide
  rw [e] at h; rw [h]
  have hn : (y &&& 63#64).toNat = y.toNat % 64 := by
    rw [BitVec.toNat_and]; exact Nat.and_two_pow_sub_one_eq_mod y.toNat 6
  rw [BitVec.toInt_eq_toNat_cond, hn, if_pos (by omega)]

theorem w_shl (x : BitVec 64) (k : Nat) (hk : k < 64) : wrap64 (x.toInt * 2 ^ k) = (x <<< k).toInt := by
  rw [wrap64_bmod, BitVec.toInt_shiftLeft]
  rw [Nat.shiftLeft_eq, BitVec.toInt_eq_toNat_bmod]
  push_cast
  rw [Int.bmod_mul_bmod]
theorem w_sar (x : BitVec 64) (k : Nat) (hk : k < 64) : x.toInt / 2 ^ k = (x.sshiftRight k).toInt := by
  rw [BitVec.toInt_sshiftRight, Int.shiftRight_eq_div_pow]; rfl
theorem w_shr (x : BitVec 64) (k : Nat) (hk : k < 64) : wrap64 ((x.toNat : Int) / 2 ^ k) = (x >>> k).toInt := by
  rw [BitVec.toInt_eq_toNat_bmod, BitVec.toNat_ushiftRight, Nat.shiftRight_eq_div_pow, wrap64_bmod]
  push_cast; rfl

theorem w_mask (x : BitVec 64) (k : Nat) (hk : k < 63) (m : Int) (hm : m = 2 ^ k - 1) : bits .and .i64 x.toInt m = x.toInt % 2 ^ k := by
  have h : bits .and .i64 x.toInt (BitVec.ofNat 64 (2 ^ k - 1)).toInt = (x &&& BitVec.ofNat 64 (2 ^ k - 1)).toInt := w_and x _
  have hp : 2 ^ k ≤ 2 ^ 62 := Nat.pow_le_pow_right (by decide) (by omega)
  have hq : 0 < 2 ^ k := Nat.two_pow_pos k
  have en : (BitVec.ofNat 64 (2 ^ k - 1)).toNat = 2 ^ k - 1 := by
    rw [BitVec.toNat_ofNat]; exact Nat.mod_eq_of_lt (by omega)
  have e : (BitVec.ofNat 64 (2 ^ k - 1)).toInt = m := by
    rw [BitVec.toInt_eq_toNat_cond, en, if_pos (by omega), hm]; rw [Int.natCast_sub (by omega)]; simp
  rw [e] at h; rw [h]
  have hn : (x &&& BitVec.ofNat 64 (2 ^ k - 1)).toNat = x.toNat % 2 ^ k := by
    rw [BitVec.toNat_and, en]; exact Nat.and_two_pow_sub_one_eq_mod x.toNat k
  have hl : x.toNat % 2 ^ k < 2 ^ k := Nat.mod_lt _ hq
  rw [BitVec.toInt_eq_toNat_cond, hn, if_pos (by omega)]
  have hd : ((2 : Int) ^ k) ∣ 2 ^ 64 := ⟨2 ^ (64 - k), by rw [← Int.pow_add]; congr 1; omega⟩
  have hc : ((x.toNat % 2 ^ k : Nat) : Int) = (x.toNat : Int) % 2 ^ k := by push_cast; rfl
  rw [BitVec.toInt_eq_toNat_cond, hc]
  split
  · rfl
  · rw [show ((2 ^ 64 : Nat) : Int) = (2 : Int) ^ 64 from by decide]
    rw [Int.sub_emod, Int.emod_eq_zero_of_dvd hd, Int.sub_zero, Int.emod_emod]

theorem w_power (x : BitVec 64) : bits .and .i64 (x.toInt / 4503599627370496) 2047 = ((x.toNat / 4503599627370496 % 2048 : Nat) : Int) := by
  have h := w_mask (x.sshiftRight 52) 11 (by decide) 2047 (by decide)
  have hx := x.isLt
  rw [← w_sar x 52 (by decide)] at h
  rw [show (4503599627370496 : Int) = 2 ^ 52 from by decide, h, show (2 : Int) ^ 52 = 4503599627370496 from by decide, show (2 : Int) ^ 11 = 2048 from by decide]
  rw [BitVec.toInt_eq_toNat_cond]; split <;> omega
theorem w_frac (x : BitVec 64) : bits .and .i64 x.toInt 4503599627370495 = ((x.toNat % 4503599627370496 : Nat) : Int) := by
  have h := w_mask x 52 (by decide) 4503599627370495 (by decide)
  have hx := x.isLt
  rw [h, show (2 : Int) ^ 52 = 4503599627370496 from by decide]
  rw [BitVec.toInt_eq_toNat_cond]; split <;> omega

end Go.Proofs.Ytdjenhbglkcapaa.CW
