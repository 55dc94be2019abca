/-
  Plain laws of floats of whole numbers: sums, differences, products, quotients that come out even, roots of squares, orders are exact. No program is in sight here. Conditions: as each theorem states.
-/
import Derived.Test.YtdjenhbglkcapaaCellNone
namespace Go.Proofs.Ytdjenhbglkcapaa.CW
open Go.RowKit Ieee
set_option linter.unusedSimpArgs false
set_option linter.unusedVariables false

/-! ### Rounding -/

def rnd (n d : Nat) : Nat := n / 2 ^ d + (decide (2 ^ d < 2 * (n % 2 ^ d)) || (2 ^ d == 2 * (n % 2 ^ d) && n / 2 ^ d % 2 == 1)).toNat

theorem cut_even (s : Bool) (n d : Nat) : Toward.even.cut s n d = rnd n d := by
  unfold Toward.cut rnd
  simp only [Nat.shiftLeft_eq, Nat.one_mul]
  rcases Nat.le_total d (n.log2 + 2) with h | h
  · rw [Nat.min_eq_left h]
  · rw [Nat.min_eq_right h]
    have h1 : n < 2 ^ (n.log2 + 1) := Nat.lt_log2_self
    have h2 : 2 ^ (n.log2 + 2) = 2 * 2 ^ (n.log2 + 1) := by rw [Nat.pow_succ' (n := n.log2 + 1)]
    have h3 : 2 ^ (n.log2 + 2) ≤ 2 ^ d := Nat.pow_le_pow_right (by decide) h
    have e1 : n / 2 ^ (n.log2 + 2) = 0 := Nat.div_eq_of_lt (by omega)
    have e2 : n / 2 ^ d = 0 := Nat.div_eq_of_lt (by omega)
    have e3 : n % 2 ^ (n.log2 + 2) = n := Nat.mod_eq_of_lt (by omega)
    have e4 : n % 2 ^ d = n := Nat.mod_eq_of_lt (by omega)
    rw [e1, e2, e3, e4, decide_eq_false (by omega), decide_eq_false (by omega)]
    simp

theorem rnd_zero (n : Nat) : rnd n 0 = n := by
  unfold rnd; simp [Nat.mod_one]

theorem rnd_scale (n d j : Nat) : rnd (n * 2 ^ j) (d + j) = rnd n d := by
  have hp : 0 < 2 ^ j := Nat.two_pow_pos j
  have e1 : n * 2 ^ j / 2 ^ (d + j) = n / 2 ^ d := by
    rw [Nat.pow_add, Nat.mul_div_mul_right _ _ hp]
  have e2 : n * 2 ^ j % 2 ^ (d + j) = n % 2 ^ d * 2 ^ j := by
    rw [Nat.pow_add, Nat.mul_mod_mul_right]
  have e3 : 2 * (n % 2 ^ d * 2 ^ j) = 2 * (n % 2 ^ d) * 2 ^ j := by rw [Nat.mul_assoc]
  have e4 : decide (2 ^ d * 2 ^ j < 2 * (n % 2 ^ d) * 2 ^ j) = decide (2 ^ d < 2 * (n % 2 ^ d)) := by
    rw [Bool.eq_iff_iff]; simp only [decide_eq_true_eq]; exact Nat.mul_lt_mul_right hp
  have e5 : (2 ^ d * 2 ^ j == 2 * (n % 2 ^ d) * 2 ^ j) = (2 ^ d == 2 * (n % 2 ^ d)) := by
    rw [Bool.eq_iff_iff]; simp only [beq_iff_eq]
    constructor
    · intro h; exact Nat.eq_of_mul_eq_mul_right hp h
    · intro h; exact congrArg (· * 2 ^ j) h
  unfold rnd
  rw [e1, e2, e3, Nat.pow_add, e4, e5]

theorem log2_scale (m k : Nat) (hm : m ≠ 0) : (m * 2 ^ k).log2 = m.log2 + k := by
  induction k with
  | zero => simp
  | succ k ih =>
    rw [Nat.pow_succ, ← Nat.mul_assoc, Nat.mul_comm _ 2, Nat.log2_two_mul (by have := Nat.two_pow_pos k; exact Nat.mul_ne_zero hm (by omega)), ih]; rfl

/-- The digits that a number keeps at a last place. -/
theorem kept_scale (m k : Nat) (p l : Int) :
    rnd ((m * 2 ^ k) <<< (p - l).toNat) (l - p).toNat = rnd (m <<< (p + k - l).toNat) (l - (p + k)).toNat := by
  simp only [Nat.shiftLeft_eq]
  rcases Int.le_total l p with h | h
  · rw [show (l - p).toNat = 0 from by omega, show (l - (p + k)).toNat = 0 from by omega, rnd_zero, rnd_zero,
      show (p + k - l).toNat = k + (p - l).toNat from by omega, Nat.pow_add, Nat.mul_assoc]
  · rw [show (p - l).toNat = 0 from by omega, Nat.pow_zero, Nat.mul_one]
    rcases Int.le_total l (p + k) with g | g
    · obtain ⟨d, hd⟩ : ∃ d : Nat, (l - p).toNat = d := ⟨_, rfl⟩
      obtain ⟨e, he⟩ : ∃ e : Nat, (p + k - l).toNat = e := ⟨_, rfl⟩
      have hk : k = e + d := by omega
      rw [show (l - (p + k)).toNat = 0 from by omega, hd, he, rnd_zero, hk, Nat.pow_add, ← Nat.mul_assoc]
      have := rnd_scale (m * 2 ^ e) 0 d
      rw [Nat.zero_add, rnd_zero] at this; exact this
    · rw [show (p + k - l).toNat = 0 from by omega, Nat.pow_zero, Nat.mul_one,
        show (l - p).toNat = (l - (p + k)).toNat + k from by omega, rnd_scale]

theorem nearest_scale (s : Bool) (m k : Nat) (p : Int) : double.nearest s (m * 2 ^ k) p = double.nearest s m (p + k) := by
  have hp : 0 < 2 ^ k := Nat.two_pow_pos k
  by_cases hm : m = 0
  · subst hm; unfold Format.nearest; simp
  · have hm2 : m * 2 ^ k ≠ 0 := Nat.mul_ne_zero hm (by omega)
    unfold Format.nearest
    dsimp only
    rw [if_neg hm, if_neg hm2, log2_scale m k hm]
    have e : p + ((m.log2 + k : Nat) : Int) - (double.fractionBits : Int) = p + k + (m.log2 : Int) - (double.fractionBits : Int) := by omega
    rw [e]
    simp only [cut_even]
    rw [kept_scale]

theorem nearest_down (s : Bool) (m k : Nat) : double.nearest s (m * 2 ^ k) (-(k : Int)) = double.nearest s m 0 := by
  rw [nearest_scale]; congr 1; omega

/-! ### Whole numbers below 2^53 -/

theorem word_mod (s : Bool) (r : Nat) (h : r < 9223372036854775808) : double.word s r % 9223372036854775808 = r := by
  unfold Format.word; rw [d_sign]; split <;> omega
theorem word_ng (s : Bool) (r : Nat) (h : r < 9223372036854775808) : ng (double.word s r) = s := by
  unfold Format.word ng; rw [d_sign]; cases s
  · simp; omega
  · simp; omega

def rungOf (m : Nat) : Nat := (m.log2 + 1022) * 4503599627370496 + m * 2 ^ (52 - m.log2)

theorem top_bounds (m : Nat) (h0 : m ≠ 0) (h : m < 9007199254740992) :
    m.log2 ≤ 52 ∧ 4503599627370496 ≤ m * 2 ^ (52 - m.log2) ∧ m * 2 ^ (52 - m.log2) < 9007199254740992 := by
  have h1 : 2 ^ m.log2 ≤ m := Nat.log2_self_le h0
  have h2 : m < 2 ^ (m.log2 + 1) := Nat.lt_log2_self
  have ht : m.log2 ≤ 52 := by
    apply Nat.le_of_not_lt; intro hc
    have : 2 ^ 53 ≤ 2 ^ m.log2 := Nat.pow_le_pow_right (by decide) hc
    omega
  have hp : 0 < 2 ^ (52 - m.log2) := Nat.two_pow_pos _
  refine ⟨ht, ?_, ?_⟩
  · calc 4503599627370496 = 2 ^ m.log2 * 2 ^ (52 - m.log2) := by rw [← Nat.pow_add, show m.log2 + (52 - m.log2) = 52 from by omega]
      _ ≤ _ := Nat.mul_le_mul_right _ h1
  · calc m * 2 ^ (52 - m.log2) < 2 ^ (m.log2 + 1) * 2 ^ (52 - m.log2) := Nat.mul_lt_mul_of_pos_right h2 hp
      _ = 9007199254740992 := by rw [← Nat.pow_add, show m.log2 + 1 + (52 - m.log2) = 53 from by omega]

theorem nearest_int (s : Bool) (m : Nat) (h0 : m ≠ 0) (h : m < 9007199254740992) : double.nearest s m 0 = double.word s (rungOf m) := by
  obtain ⟨ht, hlo, hhi⟩ := top_bounds m h0 h
  unfold Format.nearest
  dsimp only
  rw [if_neg h0, d_frac, d_least, d_binade, d_inf]
  have e1 : max (0 + (m.log2 : Int) - ((52 : Nat) : Int)) (-1074) = (m.log2 : Int) - 52 := by omega
  rw [e1, cut_even, show ((m.log2 : Int) - 52 - 0).toNat = 0 from by omega, rnd_zero, Nat.shiftLeft_eq,
    show ((0 : Int) - ((m.log2 : Int) - 52)).toNat = 52 - m.log2 from by omega, show ((m.log2 : Int) - 52 - -1074).toNat = m.log2 + 1022 from by omega]
  congr 1
  show min (rungOf m) _ = rungOf m
  refine Nat.min_eq_left ?_
  unfold rungOf
  generalize m * 2 ^ (52 - m.log2) = q at *
  omega

theorem rung_parts (m : Nat) (h0 : m ≠ 0) (h : m < 9007199254740992) :
    rungOf m < 4890909195324358656 ∧ mg (rungOf m) = m * 2 ^ (52 - m.log2) ∧ pl (rungOf m) = m.log2 + 1022 := by
  obtain ⟨ht, hlo, hhi⟩ := top_bounds m h0 h
  unfold rungOf mg pl
  generalize m * 2 ^ (52 - m.log2) = q at *
  generalize m.log2 = t at *
  refine ⟨by omega, ?_, ?_⟩
  · rw [if_neg (by omega)]; omega
  · rw [if_neg (by omega)]; omega

theorem nearest_zero (s : Bool) (p : Int) : double.nearest s 0 p = double.word s 0 := by
  unfold Format.nearest; rw [if_pos rfl]

/-- A whole number's float, read again. -/
theorem read_int (s : Bool) (m : Nat) (h : m < 9007199254740992) : ∃ k : Nat, double.read (double.nearest s m 0) = .number s (m * 2 ^ k) (-(k : Int)) ∧ (m ≠ 0 → (m * 2 ^ k).log2 = 52 ∧ k ≤ 52) := by
  by_cases h0 : m = 0
  · subst h0
    obtain ⟨k, hk⟩ : ∃ k : Nat, k = 1074 := ⟨_, rfl⟩
    refine ⟨k, ?_, fun h => absurd rfl h⟩
    rw [nearest_zero, read_num _ (by rw [word_mod _ _ (by omega)]; omega), word_mod _ _ (by omega), word_ng _ _ (by omega)]
    rw [Nat.zero_mul, hk]; rfl
  · obtain ⟨h1, h2, h3⟩ := rung_parts m h0 h
    obtain ⟨ht, hlo, hhi⟩ := top_bounds m h0 h
    refine ⟨52 - m.log2, ?_, fun _ => ⟨by rw [log2_scale m _ h0]; omega, by omega⟩⟩
    rw [nearest_int s m h0 h, read_num _ (by rw [word_mod _ _ (by omega)]; omega), word_mod _ _ (by omega), word_ng _ _ (by omega), h2, h3,
      show (-1074 + ((m.log2 + 1022 : Nat) : Int)) = -((52 - m.log2 : Nat) : Int) from by omega]

theorem whole_zero : whole 0 = 0 := by
  unfold whole; rw [if_neg (by decide), show mg 0 = 0 from rfl, Nat.zero_div]

theorem nearest_fine (s : Bool) (m : Nat) (h : m < 9007199254740992) :
    double.nearest s m 0 % 9223372036854775808 < 4890909195324358656 ∧ ng (double.nearest s m 0) = s ∧ whole (double.nearest s m 0 % 9223372036854775808) = m ∧ double.nearest s m 0 < 18446744073709551616 := by
  by_cases h0 : m = 0
  · subst h0
    rw [nearest_zero, word_mod _ _ (by omega), word_ng _ _ (by omega)]
    refine ⟨by omega, rfl, whole_zero, ?_⟩
    unfold Format.word; rw [d_sign]; split <;> omega
  · obtain ⟨h1, h2, h3⟩ := rung_parts m h0 h
    obtain ⟨ht, hlo, hhi⟩ := top_bounds m h0 h
    rw [nearest_int s m h0 h, word_mod _ _ (by omega), word_ng _ _ (by omega)]
    refine ⟨h1, rfl, ?_, ?_⟩
    · unfold whole; rw [h2, h3]
      have hp : 0 < 2 ^ (52 - m.log2) := Nat.two_pow_pos _
      split
      · rw [show 52 - m.log2 = 0 from by omega, show m.log2 + 1022 - 1074 = 0 from by omega]; simp
      · rw [show 1074 - (m.log2 + 1022) = 52 - m.log2 from by omega, Nat.mul_div_cancel _ hp]
    · unfold Format.word; rw [d_sign]; split <;> omega

theorem nan_fine (s : Bool) (m : Nat) (h : m < 9007199254740992) : nan (double.nearest s m 0) = false := by
  have := (nearest_fine s m h).1
  unfold nan; simp only [decide_eq_false_iff_not]; omega

/-- The float of a whole number. -/
def ft (n : Int) : Nat := FloatKind.f64.nearest n
theorem ft_is (n : Int) : ft n = double.nearest (decide (n < 0)) n.natAbs 0 := rfl

theorem toI_int (s : Bool) (m : Nat) (h : m < 9007199254740992) : toI (double.nearest s m 0) = (BitVec.ofInt 64 (if s then -(m : Int) else (m : Int)), 0) := by
  obtain ⟨h1, h2, h3, _⟩ := nearest_fine s m h
  unfold toI
  rw [if_neg]
  · unfold wholeInt; rw [h2, h3]
  · rw [nan_fine s m h]; unfold rank; rw [h2]
    cases s <;> simp <;> omega

theorem told_int (s : Bool) (m : Nat) (h : m < 9007199254740992) : (told (double.nearest s m 0)).toNat = double.nearest s m 0 := by
  unfold told; rw [nan_fine s m h, if_neg (by decide), BitVec.toNat_ofNat]
  have := (nearest_fine s m h).2.2.2
  omega

theorem read_ft (n : Int) (h : n.natAbs < 9007199254740992) : ∃ k : Nat, double.read (ft n) = .number (decide (n < 0)) (n.natAbs * 2 ^ k) (-(k : Int)) ∧ (n ≠ 0 → (n.natAbs * 2 ^ k).log2 = 52 ∧ k ≤ 52) := by
  obtain ⟨k, h1, h2⟩ := read_int (decide (n < 0)) n.natAbs h
  exact ⟨k, h1, fun h => h2 (by omega)⟩

theorem signed_nat (n : Int) (k j : Nat) : signed (decide (n < 0)) (n.natAbs * 2 ^ k) j = n * ((2 ^ (k + j) : Nat) : Int) := by
  rw [signed_is, Nat.mul_assoc, ← Nat.pow_add]
  generalize 2 ^ (k + j) = q
  by_cases h : n < 0
  · rw [if_pos (by simpa using h)]
    rw [Int.natCast_mul, Int.ofNat_natAbs_of_nonpos (by omega), Int.neg_mul, Int.neg_neg]
  · rw [if_neg (by simpa using h)]
    rw [Int.natCast_mul, Int.natAbs_of_nonneg (by omega)]

theorem sum_ints (a b : Int) (s t : Bool) (hs : s = decide (a < 0)) (ht : t = decide (b < 0) ∨ b = 0) (i j : Nat) (hab : a + b = 0 → (s && t) = false) :
    (Datum.sum (.number s (a.natAbs * 2 ^ i) (-(i : Int))) (.number t (b.natAbs * 2 ^ j) (-(j : Int)))).map double.write = some (ft (a + b)) := by
  have hsg : ∀ j k : Nat, signed t (b.natAbs * 2 ^ j) k = b * ((2 ^ (j + k) : Nat) : Int) := by
    intro j k
    rcases ht with rfl | rfl
    · exact signed_nat b j k
    · rw [signed_is]; cases t <;> simp
  simp only [Datum.sum, Option.map_some]
  congr 1
  subst hs
  rw [signed_nat, hsg]
  have key : ∀ K : Nat, double.write (.number (if a * ((2 ^ K : Nat) : Int) + b * ((2 ^ K : Nat) : Int) = 0 then decide (a < 0) && t else decide (a * ((2 ^ K : Nat) : Int) + b * ((2 ^ K : Nat) : Int) < 0)) (a * ((2 ^ K : Nat) : Int) + b * ((2 ^ K : Nat) : Int)).natAbs (-(K : Int))) = ft (a + b) := by
    intro K
    have hp : 0 < 2 ^ K := Nat.two_pow_pos K
    rw [← Int.add_mul, Int.natAbs_mul, Int.natAbs_natCast]
    show double.nearest _ ((a + b).natAbs * 2 ^ K) (-(K : Int)) = _
    rw [nearest_down, ft_is]
    congr 1
    by_cases h0 : a + b = 0
    · rw [h0, if_pos (by simp), hab h0]; rfl
    · rw [if_neg (by intro hc; rcases Int.mul_eq_zero.1 hc with h | h <;> omega)]
      rw [Bool.eq_iff_iff]; simp only [decide_eq_true_eq]
      constructor
      · intro h; apply Int.not_le.1; intro h1; have := Int.mul_nonneg h1 (show (0 : Int) ≤ ((2 ^ K : Nat) : Int) by omega); omega
      · intro h; exact Int.mul_neg_of_neg_of_pos h (by omega)
  rcases Nat.le_total i j with hij | hij
  · rw [show i + (-(i : Int) - min (-(i : Int)) (-(j : Int))).toNat = j from by omega, show j + (-(j : Int) - min (-(i : Int)) (-(j : Int))).toNat = j from by omega,
      show min (-(i : Int)) (-(j : Int)) = -(j : Int) from by omega]
    exact key j
  · rw [show i + (-(i : Int) - min (-(i : Int)) (-(j : Int))).toNat = i from by omega, show j + (-(j : Int) - min (-(i : Int)) (-(j : Int))).toNat = i from by omega,
      show min (-(i : Int)) (-(j : Int)) = -(i : Int) from by omega]
    exact key i

theorem add_ints (a b : Int) (ha : a.natAbs < 9007199254740992) (hb : b.natAbs < 9007199254740992) : double.add (ft a) (ft b) = some (ft (a + b)) := by
  obtain ⟨i, h1, _⟩ := read_ft a ha
  obtain ⟨j, h2, _⟩ := read_ft b hb
  unfold Format.add; rw [h1, h2]
  refine sum_ints a b _ _ rfl (Or.inl rfl) i j (fun h => ?_)
  by_cases h1 : a < 0
  · have : ¬ b < 0 := by omega
    simp [this]
  · simp [h1]

theorem sub_ints (a b : Int) (ha : a.natAbs < 9007199254740992) (hb : b.natAbs < 9007199254740992) : double.sub (ft a) (ft b) = some (ft (a - b)) := by
  obtain ⟨i, h1, _⟩ := read_ft a ha
  obtain ⟨j, h2, _⟩ := read_ft b hb
  unfold Format.sub; rw [h1, h2]
  have e : (Datum.number (decide (b < 0)) (b.natAbs * 2 ^ j) (-(j : Int))).opposite = .number (!decide (b < 0)) ((-b).natAbs * 2 ^ j) (-(j : Int)) := by
    rw [Int.natAbs_neg]; rfl
  rw [e, show a - b = a + -b from by omega]
  refine sum_ints a (-b) _ _ rfl ?_ i j (fun h => ?_)
  · by_cases h : b = 0
    · right; omega
    · left; rw [Bool.eq_iff_iff]; simp; omega
  · by_cases h1 : a < 0
    · have : b < 0 := by omega
      simp [this]
    · simp [h1]

theorem order_ints (a b : Int) (ha : a.natAbs < 9007199254740992) (hb : b.natAbs < 9007199254740992) : double.order (ft a) (ft b) = some (compare a b) := by
  obtain ⟨i, h1, _⟩ := read_ft a ha
  obtain ⟨j, h2, _⟩ := read_ft b hb
  unfold Format.order; rw [h1, h2]
  simp only [Datum.order]
  congr 1
  rw [signed_nat, signed_nat]
  have key : ∀ K : Nat, compare (a * ((2 ^ K : Nat) : Int)) (b * ((2 ^ K : Nat) : Int)) = compare a b := by
    intro K
    have hp : 0 < ((2 ^ K : Nat) : Int) := by have := Nat.two_pow_pos K; omega
    rcases Int.lt_trichotomy a b with h | h | h
    · rw [cmp_lt h, cmp_lt (Int.mul_lt_mul_of_pos_right h hp)]
    · subst h; simp
    · rw [cmp_gt h, cmp_gt (Int.mul_lt_mul_of_pos_right h hp)]
  rcases Nat.le_total i j with hij | hij
  · rw [show i + (-(i : Int) - min (-(i : Int)) (-(j : Int))).toNat = j from by omega, show j + (-(j : Int) - min (-(i : Int)) (-(j : Int))).toNat = j from by omega]
    exact key j
  · rw [show i + (-(i : Int) - min (-(i : Int)) (-(j : Int))).toNat = i from by omega, show j + (-(j : Int) - min (-(i : Int)) (-(j : Int))).toNat = i from by omega]
    exact key i

theorem mul_ints (c d : Int) (hc : c.natAbs < 9007199254740992) (hd : d.natAbs < 9007199254740992) :
    double.mul (ft c) (ft d) = some (double.nearest (decide (c < 0) ^^ decide (d < 0)) (c.natAbs * d.natAbs) 0) := by
  obtain ⟨i, h1, _⟩ := read_ft c hc
  obtain ⟨j, h2, _⟩ := read_ft d hd
  unfold Format.mul; rw [h1, h2]
  simp only [Datum.product, Option.map_some]
  congr 1
  rw [← nearest_down _ (c.natAbs * d.natAbs) (i + j)]
  show double.nearest _ _ _ = _
  congr 1
  · rw [Nat.pow_add, Nat.mul_mul_mul_comm]
  · omega

theorem div_ints (s : Bool) (c d : Nat) (t : Bool) (hcd : c * d < 9007199254740992) (hd : d < 9007199254740992) (hd0 : d ≠ 0) :
    double.div (double.nearest s (c * d) 0) (double.nearest t d 0) = some (double.nearest (s ^^ t) c 0) := by
  obtain ⟨k, h1, h1'⟩ := read_int s (c * d) hcd
  obtain ⟨j, h2, h2'⟩ := read_int t d hd
  obtain ⟨h2', hj⟩ := h2' hd0
  unfold Format.div; rw [h1, h2]
  have hj0 : 0 < 2 ^ j := Nat.two_pow_pos j
  have hn : d * 2 ^ j ≠ 0 := Nat.mul_ne_zero hd0 (by omega)
  simp only [Datum.quotient]
  rw [if_neg hn]
  simp only [Option.map_some]
  congr 1
  by_cases hc : c = 0
  · subst hc
    simp only [Nat.zero_mul, Nat.zero_shiftLeft, Nat.zero_div, Nat.zero_mod, Nat.mul_zero]
    show double.nearest _ 0 _ = double.nearest _ 0 _
    rw [nearest_zero, nearest_zero]
  · have hcd0 : c * d ≠ 0 := Nat.mul_ne_zero hc hd0
    obtain ⟨h1', hk⟩ := h1' hcd0
    rw [h1', h2', show double.fractionBits + 2 + 52 - 52 = 54 from rfl, Nat.shiftLeft_eq]
    have e : c * d * 2 ^ k * 2 ^ 54 = c * 2 ^ (k + 54 - j) * (d * 2 ^ j) := by
      rw [Nat.mul_assoc (c * d), ← Nat.pow_add, show k + 54 = k + 54 - j + j from by omega, Nat.pow_add, show k + 54 - j + j - j = k + 54 - j from by omega]
      rw [Nat.mul_mul_mul_comm]
    rw [e, Nat.mul_div_cancel _ (by omega), Nat.mul_mod_left]
    show double.nearest _ (2 * (c * 2 ^ (k + 54 - j)) + 0) _ = _
    rw [← nearest_down _ c (k + 55 - j)]
    congr 1
    · rw [Nat.add_zero, show k + 55 - j = k + 54 - j + 1 from by omega, Nat.pow_succ]; rw [← Nat.mul_assoc c, Nat.mul_comm 2]
    · omega

theorem rootFrom_ok (n : Nat) : ∀ (t r : Nat), r * r ≤ n → n < (r + 2 ^ t) * (r + 2 ^ t) →
    Datum.rootFrom n t r * Datum.rootFrom n t r ≤ n ∧ n < (Datum.rootFrom n t r + 1) * (Datum.rootFrom n t r + 1) := by
  intro t
  induction t with
  | zero => intro r h1 h2; rw [Nat.pow_zero] at h2; exact ⟨h1, h2⟩
  | succ t ih =>
    intro r h1 h2
    unfold Datum.rootFrom
    simp only [Nat.shiftLeft_eq, Nat.one_mul]
    split
    · rename_i h; exact ih _ h (by rw [Nat.pow_succ] at h2; rw [show r + 2 ^ t + 2 ^ t = r + 2 ^ t * 2 from by omega]; exact h2)
    · rename_i h; exact ih _ h1 (by omega)

theorem root_square (q : Nat) : Datum.rootFrom (q * q) ((q * q).log2 / 2 + 1) 0 = q := by
  have h1 : q * q < 2 ^ ((q * q).log2 + 1) := Nat.lt_log2_self
  have h2 : 2 ^ ((q * q).log2 + 1) ≤ 2 ^ (((q * q).log2 / 2 + 1) + ((q * q).log2 / 2 + 1)) := Nat.pow_le_pow_right (by decide) (by omega)
  rw [Nat.pow_add 2 ((q * q).log2 / 2 + 1)] at h2
  obtain ⟨h3, h4⟩ := rootFrom_ok (q * q) ((q * q).log2 / 2 + 1) 0 (by simp) (by rw [Nat.zero_add]; exact Nat.lt_of_lt_of_le h1 h2)
  generalize Datum.rootFrom (q * q) ((q * q).log2 / 2 + 1) 0 = R at *
  have h5 : R ≤ q := Nat.le_of_not_lt (fun h => by have := Nat.mul_lt_mul'' h h; omega)
  have h6 : q ≤ R := Nat.le_of_not_lt (fun h => by have := Nat.mul_le_mul (show R + 1 ≤ q from h) (show R + 1 ≤ q from h); omega)
  omega

theorem sqrt_ints (c : Nat) (h : c * c < 9007199254740992) : double.sqrt (double.nearest false (c * c) 0) = some (double.nearest false c 0) := by
  obtain ⟨k, h1, h1'⟩ := read_int false (c * c) h
  unfold Format.sqrt; rw [h1]
  unfold Datum.root
  dsimp only
  by_cases hc : c = 0
  · subst hc
    rw [if_pos (by simp)]
    simp only [Option.map_some]
    congr 1
    show double.nearest _ (0 * 0 * 2 ^ k) _ = _
    rw [show 0 * 0 * 2 ^ k = 0 from by simp, nearest_zero, nearest_zero]
  · have hcc : c * c ≠ 0 := Nat.mul_ne_zero hc hc
    obtain ⟨hl, hk⟩ := h1' hcc
    have hp : 0 < 2 ^ k := Nat.two_pow_pos k
    rw [if_neg (Nat.mul_ne_zero hcc (by omega)), if_neg (by decide), hl]
    rw [show 2 * (double.fractionBits + 2) - 52 = 56 from rfl]
    obtain ⟨e, he⟩ : ∃ e : Nat, k + (56 + ((-(k : Int) - ((56 : Nat) : Int)) % 2).toNat) = e + e := ⟨(k + (56 + ((-(k : Int) - ((56 : Nat) : Int)) % 2).toNat)) / 2, by omega⟩
    have hsq : (c * c * 2 ^ k) <<< (56 + ((-(k : Int) - ((56 : Nat) : Int)) % 2).toNat) = (c * 2 ^ e) * (c * 2 ^ e) := by
      rw [Nat.shiftLeft_eq, Nat.mul_assoc, ← Nat.pow_add, he, Nat.pow_add, Nat.mul_mul_mul_comm]
    have hplace : (-(k : Int) - ((56 + ((-(k : Int) - ((56 : Nat) : Int)) % 2).toNat : Nat) : Int)) / 2 - 1 = -((e + 1 : Nat) : Int) := by omega
    rw [hsq, root_square, hplace]
    simp only [Option.map_some]
    congr 1
    rw [show (c * 2 ^ e * (c * 2 ^ e) != c * 2 ^ e * (c * 2 ^ e)) = false from by simp]
    rw [← nearest_down _ c (e + 1)]
    show double.nearest _ (2 * (c * 2 ^ e) + 0) _ = _
    congr 1
    rw [Nat.add_zero, Nat.pow_succ, ← Nat.mul_assoc c, Nat.mul_comm 2]

end Go.Proofs.Ytdjenhbglkcapaa.CW
