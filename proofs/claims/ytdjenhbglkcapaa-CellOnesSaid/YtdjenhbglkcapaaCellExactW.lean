/-
  Plain laws of the instructions on floats of whole numbers, as words: what CellExact asks. No program is in sight here. Conditions: as each theorem states.
-/
import Derived.Test.YtdjenhbglkcapaaCellExact
namespace Go.Proofs.Ytdjenhbglkcapaa.CW
open Go.RowKit Ieee
set_option linter.unusedSimpArgs false
set_option linter.unusedVariables false

theorem lo_told (x : BitVec 64) : lOne 44 x = told (ft x.toInt) := by
  have eo : onei 44 x = (told (ft x.toInt), 0) := by
    unfold onei; rw [if_neg (by decide), if_neg (by decide), if_neg (by decide), if_neg (by decide), if_pos rfl]; rfl
  unfold lOne; rw [eo, if_pos rfl]

theorem lo_ft (x : BitVec 64) (h : x.toInt.natAbs < 9007199254740992) : (lOne 44 x).toNat = ft x.toInt := by
  rw [lo_told, ft_is]; exact told_int _ _ h

theorem toI_ft (z : BitVec 64) (s : Bool) (m : Nat) (h : m < 9007199254740992) (hz : z = told (double.nearest s m 0)) : lOne 45 z = BitVec.ofInt 64 (if s then -(m : Int) else (m : Int)) := by
  have e : onei 45 z = toI z.toNat := rfl
  unfold lOne
  rw [e, hz, told_int s m h, toI_int s m h]
  exact if_pos rfl

theorem toI_word (z x : BitVec 64) (h : x.toInt.natAbs < 9007199254740992) (hz : z = told (ft x.toInt)) : lOne 45 z = x := by
  rw [ft_is] at hz
  rw [toI_ft z _ _ h hz]
  apply BitVec.eq_of_toInt_eq
  rw [toInt_ofInt]
  have : (if decide (x.toInt < 0) = true then -((x.toInt.natAbs : Nat) : Int) else ((x.toInt.natAbs : Nat) : Int)) = x.toInt := by
    by_cases c : x.toInt < 0
    · rw [if_pos (by simpa using c)]; omega
    · rw [if_neg (by simpa using c)]; omega
  rw [this, wrap64_toInt]

theorem add_toInt (a b : BitVec 64) (ha : a.toInt.natAbs < 4503599627370496) (hb : b.toInt.natAbs < 4503599627370496) : (a + b).toInt = a.toInt + b.toInt := by
  rw [← w_add]; unfold wrap64; omega
theorem sub_toInt (a b : BitVec 64) (ha : a.toInt.natAbs < 4503599627370496) (hb : b.toInt.natAbs < 4503599627370496) : (a - b).toInt = a.toInt - b.toInt := by
  rw [← w_sub]; unfold wrap64; omega
theorem mul_abs (a b : Int) (ha : a.natAbs < 67108864) (hb : b.natAbs < 67108864) : (a * b).natAbs < 4503599627370496 := by
  rw [Int.natAbs_mul]
  exact Nat.mul_lt_mul'' ha hb
theorem mul_toInt (a b : BitVec 64) (ha : a.toInt.natAbs < 67108864) (hb : b.toInt.natAbs < 67108864) : (a * b).toInt = a.toInt * b.toInt := by
  have := mul_abs _ _ ha hb
  rw [← w_mul]; unfold wrap64; generalize a.toInt * b.toInt = p at *; omega

theorem x_add (a b : BitVec 64) (ha : a.toInt.natAbs < 4503599627370496) (hb : b.toInt.natAbs < 4503599627370496) : ltwo 36 (lOne 44 a) (lOne 44 b) = lOne 44 (a + b) := by
  have e : ltwo 36 (lOne 44 a) (lOne 44 b) = toldOpt (double.add (lOne 44 a).toNat (lOne 44 b).toNat) := rfl
  rw [e, lo_ft a (by omega), lo_ft b (by omega), add_ints _ _ (by omega) (by omega), lo_told, add_toInt a b ha hb]; rfl

theorem x_sub (a b : BitVec 64) (ha : a.toInt.natAbs < 4503599627370496) (hb : b.toInt.natAbs < 4503599627370496) : ltwo 37 (lOne 44 a) (lOne 44 b) = lOne 44 (a - b) := by
  have e : ltwo 37 (lOne 44 a) (lOne 44 b) = toldOpt (double.sub (lOne 44 a).toNat (lOne 44 b).toNat) := rfl
  rw [e, lo_ft a (by omega), lo_ft b (by omega), sub_ints _ _ (by omega) (by omega), lo_told, sub_toInt a b ha hb]; rfl

theorem x_lt (a b : BitVec 64) (ha : a.toInt.natAbs < 4503599627370496) (hb : b.toInt.natAbs < 4503599627370496) : ltwo 41 (lOne 44 a) (lOne 44 b) = ltwo 32 a b := by
  have e : ltwo 41 (lOne 44 a) (lOne 44 b) = one (double.order (lOne 44 a).toNat (lOne 44 b).toNat == some .lt) := rfl
  rw [e, lo_ft a (by omega), lo_ft b (by omega), order_ints _ _ (by omega) (by omega), lt_lt]
  unfold BitVec.slt
  rcases Int.lt_trichotomy a.toInt b.toInt with h | h | h
  · rw [cmp_lt h, decide_eq_true h]; rfl
  · rw [h]; simp
  · rw [cmp_gt h, decide_eq_false (by omega)]; rfl

theorem x_eq (a b : BitVec 64) (ha : a.toInt.natAbs < 4503599627370496) (hb : b.toInt.natAbs < 4503599627370496) : ltwo 40 (lOne 44 a) (lOne 44 b) = ltwo 31 a b := by
  have e : ltwo 40 (lOne 44 a) (lOne 44 b) = one (double.order (lOne 44 a).toNat (lOne 44 b).toNat == some .eq) := rfl
  rw [e, lo_ft a (by omega), lo_ft b (by omega), order_ints _ _ (by omega) (by omega), lt_eq, ← w_eq]
  rcases Int.lt_trichotomy a.toInt b.toInt with h | h | h
  · rw [cmp_lt h, beq_eq_false_iff_ne.2 (show a.toInt ≠ b.toInt by omega)]; rfl
  · rw [h]; simp
  · rw [cmp_gt h, beq_eq_false_iff_ne.2 (show a.toInt ≠ b.toInt by omega)]; rfl

theorem x_mul (c d : BitVec 64) (hc : c.toInt.natAbs < 67108864) (hd : d.toInt.natAbs < 67108864) :
    ltwo 38 (lOne 44 c) (lOne 44 d) = told (double.nearest (decide (c.toInt < 0) ^^ decide (d.toInt < 0)) (c.toInt.natAbs * d.toInt.natAbs) 0) := by
  have e : ltwo 38 (lOne 44 c) (lOne 44 d) = toldOpt (double.mul (lOne 44 c).toNat (lOne 44 d).toNat) := rfl
  rw [e, lo_ft c (by omega), lo_ft d (by omega), mul_ints _ _ (by omega) (by omega)]; rfl

theorem mul_small (c d : BitVec 64) (hc : c.toInt.natAbs < 67108864) (hd : d.toInt.natAbs < 67108864) : c.toInt.natAbs * d.toInt.natAbs < 4503599627370496 :=
  Nat.mul_lt_mul'' hc hd

theorem x_mul_back (c d : BitVec 64) (hc : c.toInt.natAbs < 67108864) (hd : d.toInt.natAbs < 67108864) :
    lOne 45 (ltwo 38 (lOne 44 c) (lOne 44 d)) = c * d := by
  have hm := mul_small c d hc hd
  rw [toI_ft _ _ _ (by omega) (x_mul c d hc hd)]
  apply BitVec.eq_of_toInt_eq
  rw [toInt_ofInt, mul_toInt c d hc hd]
  have : (if (decide (c.toInt < 0) ^^ decide (d.toInt < 0)) = true then -((c.toInt.natAbs * d.toInt.natAbs : Nat) : Int) else ((c.toInt.natAbs * d.toInt.natAbs : Nat) : Int)) = c.toInt * d.toInt := by
    rw [Int.natCast_mul]
    by_cases h1 : c.toInt < 0 <;> by_cases h2 : d.toInt < 0
    all_goals simp only [h1, h2, decide_true, decide_false, Bool.xor_true, Bool.xor_false, Bool.true_xor, Bool.false_xor, Bool.not_true, Bool.not_false, Bool.false_eq_true, if_true, if_false]
    · rw [Int.ofNat_natAbs_of_nonpos (by omega), Int.ofNat_natAbs_of_nonpos (by omega), Int.neg_mul_neg]
    · rw [Int.ofNat_natAbs_of_nonpos (by omega), Int.natAbs_of_nonneg (by omega), Int.neg_mul, Int.neg_neg]
    · rw [Int.natAbs_of_nonneg (by omega), Int.ofNat_natAbs_of_nonpos (by omega), Int.mul_neg, Int.neg_neg]
    · rw [Int.natAbs_of_nonneg (by omega), Int.natAbs_of_nonneg (by omega)]
  rw [this]
  have := mul_abs _ _ hc hd
  unfold wrap64; generalize c.toInt * d.toInt = p at *; omega

theorem x_div_back (c d : BitVec 64) (hc : c.toInt.natAbs < 67108864) (hd : d.toInt.natAbs < 67108864) (h0 : d.toInt ≠ 0) :
    lOne 45 (ltwo 39 (ltwo 38 (lOne 44 c) (lOne 44 d)) (lOne 44 d)) = c := by
  have hm := mul_small c d hc hd
  have e : ∀ p : BitVec 64, ltwo 39 p (lOne 44 d) = toldOpt (double.div p.toNat (lOne 44 d).toNat) := fun _ => rfl
  have e2 : ltwo 39 (ltwo 38 (lOne 44 c) (lOne 44 d)) (lOne 44 d) = told (ft c.toInt) := by
    rw [e, x_mul c d hc hd, told_int _ _ (by omega), lo_ft d (by omega), ft_is d.toInt, div_ints _ _ _ _ (by omega) (by omega) (by omega), ft_is]
    show told _ = told _
    congr 2
    cases decide (c.toInt < 0) <;> cases decide (d.toInt < 0) <;> rfl
  exact toI_word _ _ (by omega) e2

theorem x_root (c : BitVec 64) (hc : c.toInt.natAbs < 67108864) (h0 : 0 ≤ c.toInt) : lOne 43 (lOne 44 (c * c)) = lOne 44 c := by
  have hm := mul_abs _ _ hc hc
  have hmt := mul_toInt c c hc hc
  have e : lOne 43 (lOne 44 (c * c)) = toldOpt (double.sqrt (lOne 44 (c * c)).toNat) := rfl
  have hp : 0 ≤ c.toInt * c.toInt := Int.mul_nonneg h0 h0
  rw [e, lo_ft (c * c) (by rw [hmt]; omega), hmt, ft_is, decide_eq_false (by omega), Int.natAbs_mul, sqrt_ints _ (by rw [← Int.natAbs_mul]; omega), lo_told, ft_is, decide_eq_false (by omega)]
  rfl

/-- A word cut to 52 bits, its sign kept. -/
def within (x : BitVec 64) : BitVec 64 := BitVec.ofInt 64 (x.toInt.tmod 4503599627370496)
def within26 (x : BitVec 64) : BitVec 64 := BitVec.ofInt 64 (x.toInt.tmod 67108864)

theorem tmod_abs (n : Int) (m : Nat) (hm : 0 < m) : (n.tmod m).natAbs < m := by
  rw [Int.natAbs_tmod]; exact Nat.mod_lt _ (by simpa using hm)

theorem within_toInt (x : BitVec 64) : x.toInt.tmod 4503599627370496 = (within x).toInt := by
  have h := tmod_abs x.toInt 4503599627370496 (by decide)
  have h2 : (x.toInt.tmod 4503599627370496).natAbs < 4503599627370496 := h
  unfold within; rw [toInt_ofInt]; unfold wrap64
  generalize x.toInt.tmod 4503599627370496 = p at *; omega
theorem within26_toInt (x : BitVec 64) : x.toInt.tmod 67108864 = (within26 x).toInt := by
  have h := tmod_abs x.toInt 67108864 (by decide)
  have h2 : (x.toInt.tmod 67108864).natAbs < 67108864 := h
  unfold within26; rw [toInt_ofInt]; unfold wrap64
  generalize x.toInt.tmod 67108864 = p at *; omega
theorem within_small (x : BitVec 64) : (within x).toInt.natAbs < 4503599627370496 := by
  rw [← within_toInt]; exact tmod_abs x.toInt 4503599627370496 (by decide)
theorem within26_small (x : BitVec 64) : (within26 x).toInt.natAbs < 67108864 := by
  rw [← within26_toInt]; exact tmod_abs x.toInt 67108864 (by decide)

theorem neg_toInt (c : BitVec 64) (hc : c.toInt.natAbs < 67108864) : (-c).toInt = -c.toInt := by
  rw [← w_neg]; unfold wrap64; omega

end Go.Proofs.Ytdjenhbglkcapaa.CW
