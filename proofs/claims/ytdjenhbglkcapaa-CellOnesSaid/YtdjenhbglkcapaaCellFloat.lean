/-
  Plain facts on the words of Ieee.double: how two words that are numbers stand to each other (by their ranks), and what their whole parts are. No program is in sight here. Conditions: as each theorem states.
-/
import Derived.Test.YtdjenhbglkcapaaCellWords
import Derived.Laws.FloatArith
namespace Go.Proofs.Ytdjenhbglkcapaa.CW
open Ieee
set_option linter.unusedSimpArgs false
set_option linter.unusedVariables false


theorem d_sign : double.signWeight = 9223372036854775808 := by decide
theorem d_binade : double.binade = 4503599627370496 := by decide
theorem d_inf : double.infRung = 9218868437227405312 := by decide
theorem d_least : double.leastPlace = -1074 := by decide
theorem d_frac : double.fractionBits = 52 := rfl

/-- The magnitude of a rung, in units of the least place. -/
def val (r : Nat) : Nat := if r < 4503599627370496 then r else (4503599627370496 + r % 4503599627370496) * 2 ^ (r / 4503599627370496 - 1)

theorem val_lt {r s : Nat} (h : r < s) : val r < val s := by
  unfold val
  by_cases h1 : s < 4503599627370496
  · rw [if_pos (by omega), if_pos h1]; exact h
  · rw [if_neg h1]
    have hp : 0 < 2 ^ (s / 4503599627370496 - 1) := Nat.two_pow_pos _
    by_cases h2 : r < 4503599627370496
    · rw [if_pos h2]
      calc r < 4503599627370496 + s % 4503599627370496 := by omega
        _ = (4503599627370496 + s % 4503599627370496) * 1 := by omega
        _ ≤ _ := Nat.mul_le_mul_left _ hp
    · rw [if_neg h2]
      by_cases h3 : r / 4503599627370496 = s / 4503599627370496
      · rw [h3]; refine Nat.mul_lt_mul_of_pos_right ?_ hp
        omega
      · have h4 : r / 4503599627370496 + 1 ≤ s / 4503599627370496 := by omega
        have h5 : 1 ≤ r / 4503599627370496 := by omega
        calc (4503599627370496 + r % 4503599627370496) * 2 ^ (r / 4503599627370496 - 1) < (4503599627370496 * 2) * 2 ^ (r / 4503599627370496 - 1) := by
              refine Nat.mul_lt_mul_of_pos_right ?_ (Nat.two_pow_pos _)
              have : r % 4503599627370496 < 4503599627370496 := Nat.mod_lt _ (by decide)
              omega
          _ = 4503599627370496 * 2 ^ (r / 4503599627370496) := by rw [Nat.mul_assoc, ← Nat.pow_succ']; congr 2; omega
          _ ≤ 4503599627370496 * 2 ^ (s / 4503599627370496 - 1) := Nat.mul_le_mul_left _ (Nat.pow_le_pow_right (by decide) (by omega))
          _ ≤ _ := Nat.mul_le_mul_right _ (by omega)

theorem val_cmp (r s : Nat) : compare (val r) (val s) = compare r s := by
  rcases Nat.lt_trichotomy r s with h | h | h
  · rw [Nat.compare_eq_lt.2 h, Nat.compare_eq_lt.2 (val_lt h)]
  · subst h; simp
  · rw [Nat.compare_eq_gt.2 h, Nat.compare_eq_gt.2 (val_lt h)]

def mg (r : Nat) : Nat := if r < 4503599627370496 then r else 4503599627370496 + r % 4503599627370496
def pl (r : Nat) : Nat := if r < 4503599627370496 then 0 else r / 4503599627370496 - 1

theorem val_mg (r : Nat) : val r = mg r * 2 ^ pl r := by
  unfold val mg pl; split <;> simp

/-- The sign of a word. -/
def ng (b : Nat) : Bool := b / 9223372036854775808 % 2 == 1

theorem read_num (b : Nat) (h : b % 9223372036854775808 < 9218868437227405312) : double.read b = .number (ng b) (mg (b % 9223372036854775808)) (-1074 + (pl (b % 9223372036854775808) : Int)) := by
  unfold Format.read mg pl ng
  rw [d_sign, d_binade, d_inf, d_least]
  dsimp only
  split
  · rename_i h1; rfl
  · rename_i h1; rfl

theorem read_inf (b : Nat) (h : b % 9223372036854775808 = 9218868437227405312) : double.read b = .infinity (ng b) := by
  unfold Format.read ng
  rw [d_sign, d_binade, d_inf, d_least]
  dsimp only
  rw [if_neg (by omega), if_neg (by omega), if_pos h]

theorem read_nan (b : Nat) (h : 9218868437227405312 < b % 9223372036854775808) : double.read b = .nan (ng b) (b % 9223372036854775808 - 9218868437227405312) := by
  unfold Format.read ng
  rw [d_sign, d_binade, d_inf, d_least]
  dsimp only
  rw [if_neg (by omega), if_neg (by omega), if_neg (by omega)]

/-- The place of a word among all that are numbers. -/
def rank (b : Nat) : Int := if ng b then -((b % 9223372036854775808 : Nat) : Int) else ((b % 9223372036854775808 : Nat) : Int)

theorem signed_is (s : Bool) (m k : Nat) : signed s m k = if s then -((m * 2 ^ k : Nat) : Int) else ((m * 2 ^ k : Nat) : Int) := by
  unfold signed; rw [Nat.shiftLeft_eq]

theorem cmp_signed (s t : Bool) (a b r q : Nat) (h : compare a b = compare r q) (ha : a = 0 ↔ r = 0) (hb : b = 0 ↔ q = 0) :
    compare (if s then -(a : Int) else (a : Int)) (if t then -(b : Int) else (b : Int)) = compare (if s then -(r : Int) else (r : Int)) (if t then -(q : Int) else (q : Int)) := by
  have h1 : a < b ↔ r < q := by rw [← Nat.compare_eq_lt, h, Nat.compare_eq_lt]
  have h2 : b < a ↔ q < r := by rw [← Nat.compare_eq_gt, h, Nat.compare_eq_gt]
  have key : ∀ x y u v : Int, (x < y ↔ u < v) → (y < x ↔ v < u) → compare x y = compare u v := by
    intro x y u v e1 e2
    simp only [compare, compareOfLessAndEq]
    by_cases c1 : x < y
    · rw [if_pos c1, if_pos (e1.1 c1)]
    · rw [if_neg c1, if_neg (fun c => c1 (e1.2 c))]
      by_cases c2 : x = y
      · rw [if_pos c2, if_pos (by omega)]
      · rw [if_neg c2, if_neg (by omega)]
  apply key
  · cases s <;> cases t <;> simp <;> omega
  · cases s <;> cases t <;> simp <;> omega

theorem cmp_scale (a b k : Nat) : compare (a * 2 ^ k) (b * 2 ^ k) = compare a b := by
  have hp : 0 < 2 ^ k := Nat.two_pow_pos _
  rcases Nat.lt_trichotomy a b with h | h | h
  · rw [Nat.compare_eq_lt.2 h, Nat.compare_eq_lt.2 (Nat.mul_lt_mul_of_pos_right h hp)]
  · subst h; simp
  · rw [Nat.compare_eq_gt.2 h, Nat.compare_eq_gt.2 (Nat.mul_lt_mul_of_pos_right h hp)]

theorem mg_pos (r : Nat) (k : Nat) : mg r * 2 ^ k = 0 ↔ r = 0 := by
  have hp : 0 < 2 ^ k := Nat.two_pow_pos _
  unfold mg; split
  · constructor
    · intro h; rcases Nat.mul_eq_zero.1 h with h | h <;> omega
    · intro h; subst h; simp
  · constructor
    · intro h; rcases Nat.mul_eq_zero.1 h with h | h <;> omega
    · intro h; omega

theorem cmp_lt {a b : Int} (h : a < b) : compare a b = .lt := by simp only [compare, compareOfLessAndEq]; rw [if_pos h]
theorem cmp_gt {a b : Int} (h : b < a) : compare a b = .gt := by simp only [compare, compareOfLessAndEq]; rw [if_neg (by omega), if_neg (by omega)]

theorem order_rank (x y : Nat) (hx : nan x = false) (hy : nan y = false) : double.order x y = some (compare (rank x) (rank y)) := by
  have hx' : x % 9223372036854775808 ≤ 9218868437227405312 := by unfold nan at hx; simpa using hx
  have hy' : y % 9223372036854775808 ≤ 9218868437227405312 := by unfold nan at hy; simpa using hy
  unfold Format.order rank
  rcases Nat.lt_or_eq_of_le hx' with h1 | h1 <;> rcases Nat.lt_or_eq_of_le hy' with h2 | h2
  · rw [read_num x h1, read_num y h2]
    simp only [Datum.order, signed_is]
    congr 1
    refine cmp_signed _ _ _ _ _ _ ?_ (mg_pos _ _) (mg_pos _ _)
    rw [← val_cmp (x % 9223372036854775808) (y % 9223372036854775808), val_mg, val_mg]
    generalize pl (x % 9223372036854775808) = i; generalize pl (y % 9223372036854775808) = j
    rcases Nat.le_total i j with hij | hij
    · rw [show ((-1074 + (i : Int)) - min (-1074 + (i : Int)) (-1074 + (j : Int))).toNat = 0 from by omega,
        show ((-1074 + (j : Int)) - min (-1074 + (i : Int)) (-1074 + (j : Int))).toNat = j - i from by omega, ← cmp_scale _ _ i]
      congr 1
      · simp
      · rw [Nat.mul_assoc, ← Nat.pow_add, Nat.sub_add_cancel hij]
    · rw [show ((-1074 + (i : Int)) - min (-1074 + (i : Int)) (-1074 + (j : Int))).toNat = i - j from by omega,
        show ((-1074 + (j : Int)) - min (-1074 + (i : Int)) (-1074 + (j : Int))).toNat = 0 from by omega, ← cmp_scale _ _ j]
      congr 1
      · rw [Nat.mul_assoc, ← Nat.pow_add, Nat.sub_add_cancel hij]
      · simp
  · rw [read_num x h1, read_inf y h2, h2]
    simp only [Datum.order]
    congr 1
    cases ng y
    · exact (cmp_lt (by cases ng x <;> simp <;> omega)).symm
    · exact (cmp_gt (by cases ng x <;> simp <;> omega)).symm
  · rw [read_inf x h1, read_num y h2, h1]
    simp only [Datum.order]
    congr 1
    cases ng x
    · exact (cmp_gt (by cases ng y <;> simp <;> omega)).symm
    · exact (cmp_lt (by cases ng y <;> simp <;> omega)).symm
  · rw [read_inf x h1, read_inf y h2, h1, h2]
    simp only [Datum.order]
    congr 1
    cases ng y <;> cases ng x <;> decide

/-! ### The whole part of a float -/

theorem cut_zero (s : Bool) (n d : Nat) : Toward.zero.cut s n d = n / 2 ^ d := by
  unfold Toward.cut
  simp only [Nat.shiftLeft_eq, Nat.one_mul, Bool.toNat_false, Nat.add_zero]
  rcases Nat.le_total d (n.log2 + 2) with h | h
  · rw [Nat.min_eq_left h]
  · rw [Nat.min_eq_right h]
    have h1 : n < 2 ^ (n.log2 + 1) := Nat.lt_log2_self
    have h2 : 2 ^ (n.log2 + 1) ≤ 2 ^ (n.log2 + 2) := Nat.pow_le_pow_right (by decide) (by omega)
    have h3 : 2 ^ (n.log2 + 2) ≤ 2 ^ d := Nat.pow_le_pow_right (by decide) h
    rw [Nat.div_eq_of_lt (by omega), Nat.div_eq_of_lt (by omega)]

/-- The whole part of the magnitude of a rung. -/
def whole (r : Nat) : Nat := if 1074 ≤ pl r then mg r * 2 ^ (pl r - 1074) else mg r / 2 ^ (1074 - pl r)

def wholeInt (b : Nat) : Int := if ng b then -(whole (b % 9223372036854775808) : Int) else (whole (b % 9223372036854775808) : Int)

theorem toInt_num (b : Nat) (h : b % 9223372036854775808 < 9218868437227405312) : (double.read b).toInt .zero = some (wholeInt b) := by
  rw [read_num b h]
  simp only [Datum.toInt, Datum.integral, cut_zero, signed_is, Nat.pow_zero, Nat.mul_one]
  congr 1
  have : (mg (b % 9223372036854775808) <<< (-1074 + (pl (b % 9223372036854775808) : Int)).toNat) / 2 ^ (-(-1074 + (pl (b % 9223372036854775808) : Int))).toNat = whole (b % 9223372036854775808) := by
    unfold whole
    generalize pl (b % 9223372036854775808) = k
    rw [Nat.shiftLeft_eq]
    split
    · rw [show (-1074 + (k : Int)).toNat = k - 1074 from by omega, show (-(-1074 + (k : Int))).toNat = 0 from by omega]; simp
    · rw [show (-1074 + (k : Int)).toNat = 0 from by omega, show (-(-1074 + (k : Int))).toNat = 1074 - k from by omega]; simp
  rw [this]; rfl

theorem mg_lt (r : Nat) : mg r < 9007199254740992 := by
  unfold mg; have : r % 4503599627370496 < 4503599627370496 := Nat.mod_lt _ (by decide)
  split <;> omega

theorem whole_lt (r : Nat) (h : r < 4890909195324358656) : whole r < 9223372036854775808 := by
  have h1 := mg_lt r
  have h2 : pl r ≤ 1084 := by unfold pl; split <;> omega
  unfold whole
  split
  · calc mg r * 2 ^ (pl r - 1074) < 9007199254740992 * 2 ^ (pl r - 1074) := Nat.mul_lt_mul_of_pos_right h1 (Nat.two_pow_pos _)
      _ ≤ 9007199254740992 * 2 ^ 10 := Nat.mul_le_mul_left _ (Nat.pow_le_pow_right (by decide) (by omega))
      _ = 9223372036854775808 := by decide
  · exact Nat.lt_of_le_of_lt (Nat.div_le_self _ _) (by omega)

theorem whole_edge : whole 4890909195324358656 = 9223372036854775808 := by decide

/-- A float's whole number as a word, and the trap. -/
def toI (b : Nat) : BitVec 64 × Int :=
  if nan b = true ∨ 4890909195324358656 ≤ rank b ∨ rank b < -4890909195324358656 then (0#64, 6) else (BitVec.ofInt 64 (wholeInt b), 0)

theorem wholeInt_in (b : Nat) (h1 : rank b < 4890909195324358656) (h2 : -4890909195324358656 ≤ rank b) :
    -9223372036854775808 ≤ wholeInt b ∧ wholeInt b ≤ 9223372036854775807 := by
  unfold rank at h1 h2; unfold wholeInt
  by_cases hs : ng b = true
  · rw [if_pos hs] at h1 h2; rw [if_pos hs]
    rcases Nat.lt_or_eq_of_le (show b % 9223372036854775808 ≤ 4890909195324358656 by omega) with h | h
    · have := whole_lt _ h; omega
    · rw [h, whole_edge]; omega
  · rw [if_neg hs] at h1 h2; rw [if_neg hs]
    have := whole_lt (b % 9223372036854775808) (by omega); omega

theorem fti (b : Nat) (h0 : nan b = false) (h1 : rank b < 4890909195324358656) (h2 : -4890909195324358656 ≤ rank b) :
    floatToIntVal .f64 b .i64 = some (wholeInt b) := by
  have hr : b % 9223372036854775808 < 9218868437227405312 := by
    unfold nan at h0; simp at h0
    unfold rank at h1 h2; split at h1 <;> split at h2 <;> omega
  unfold floatToIntVal
  rw [show FloatKind.decode .f64 b = double.read b from rfl, toInt_num b hr]
  have := wholeInt_in b h1 h2
  dsimp only
  rw [if_pos]
  rw [show IntKind.i64.min = -9223372036854775808 from by decide, show IntKind.i64.max = 9223372036854775807 from by decide]
  exact this

theorem edge_up (b : Nat) (h0 : nan b = false) : double.order b 4890909195324358656 = some (compare (rank b) 4890909195324358656) := by
  rw [order_rank b _ h0 (by decide)]; rfl
theorem edge_down (b : Nat) (h0 : nan b = false) : double.order b 14114281232179134464 = some (compare (rank b) (-4890909195324358656)) := by
  rw [order_rank b _ h0 (by decide)]; rfl

/-- The instructions of one word: the word and the trap. -/
def onei (op : Int) (x : BitVec 64) : BitVec 64 × Int :=
  if op = 34 then (-x, 0)
  else if op = 35 then (~~~x, 0)
  else if op = 42 then (told (flip x.toNat), 0)
  else if op = 43 then (toldOpt (double.sqrt x.toNat), 0)
  else if op = 44 then (told (FloatKind.f64.nearest x.toInt), 0)
  else if op = 45 then toI x.toNat
  else (0#64, 8)

end Go.Proofs.Ytdjenhbglkcapaa.CW
