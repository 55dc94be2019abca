/-
  Walk of retortref10.toInt (the document's words): a float's number, cut towards 0, as CellFloat.toI says. Conditions: none.
-/
import Derived.Test.YtdjenhbglkcapaaCellRef
namespace Go.Proofs.Ytdjenhbglkcapaa.CW
open Go.RowKit
set_option linter.unusedSimpArgs false
set_option linter.unusedVariables false

/-- The parts of a word's rung: the field of powers and the 52 bits below. -/
theorem toI_parts (x : BitVec 64) (p m : Nat) (hp : p = x.toNat / 4503599627370496 % 2048) (hm : m = x.toNat % 4503599627370496) :
    x.toNat % 9223372036854775808 = p * 4503599627370496 + m ∧ p < 2048 ∧ m < 4503599627370496 ∧ ng x.toNat = decide (x.toInt < 0) := by
  have hx := x.isLt
  refine ⟨by omega, by omega, by omega, ?_⟩
  unfold ng; rw [Bool.eq_iff_iff, BitVec.toInt_eq_toNat_cond]; simp only [beq_iff_eq, decide_eq_true_eq]; split <;> omega

theorem pl_is (p m : Nat) (hm : m < 4503599627370496) (h1 : 1 ≤ p) : pl (p * 4503599627370496 + m) = p - 1 := by
  unfold pl; rw [if_neg (by omega)]; omega
theorem mg_is (p m : Nat) (hm : m < 4503599627370496) (h1 : 1 ≤ p) : mg (p * 4503599627370496 + m) = m + 4503599627370496 := by
  unfold mg; rw [if_neg (by omega)]; omega

theorem toI_low (x : BitVec 64) (p m : Nat) (hr : x.toNat % 9223372036854775808 = p * 4503599627370496 + m) (hm : m < 4503599627370496) (hp : p < 1023) :
    toI x.toNat = (0#64, 0) := by
  unfold toI
  have hw : whole (x.toNat % 9223372036854775808) = 0 := by
    unfold whole pl mg
    rw [hr]
    by_cases h0 : p * 4503599627370496 + m < 4503599627370496
    · rw [if_pos h0, if_pos h0, if_neg (by omega)]
      refine Nat.div_eq_of_lt ?_
      exact Nat.lt_of_lt_of_le h0 (Nat.pow_le_pow_right (n := 2) (by decide) (show 52 ≤ 1074 - 0 by omega))
    · rw [if_neg h0, if_neg h0]
      have e : (p * 4503599627370496 + m) / 4503599627370496 = p := by omega
      rw [e, if_neg (by omega)]
      refine Nat.div_eq_of_lt ?_
      have h1 : 4503599627370496 + (p * 4503599627370496 + m) % 4503599627370496 < 9007199254740992 := by omega
      exact Nat.lt_of_lt_of_le h1 (Nat.pow_le_pow_right (n := 2) (by decide) (show 53 ≤ 1074 - (p - 1) by omega))
  rw [if_neg]
  · unfold wholeInt; rw [hw]; simp
  · unfold nan rank; rw [hr]
    simp only [decide_eq_true_eq]
    split <;> omega

theorem toI_high (x : BitVec 64) (p m : Nat) (hr : x.toNat % 9223372036854775808 = p * 4503599627370496 + m) (hm : m < 4503599627370496) (hp : 1086 ≤ p) (hp2 : p < 2048)
    (hs : ng x.toNat = decide (x.toInt < 0)) :
    (x.toInt = -4332462841530417152 → toI x.toNat = (9223372036854775808#64, 0)) ∧ (x.toInt ≠ -4332462841530417152 → toI x.toNat = (0#64, 6)) := by
  have hx := x.isLt
  constructor
  · intro h
    have h2 : x.toNat = 14114281232179134464 := by rw [BitVec.toInt_eq_toNat_cond] at h; split at h <;> omega
    rw [h2]; decide
  · intro h
    have h2 : x.toNat ≠ 14114281232179134464 := by
      intro c; apply h; rw [BitVec.toInt_eq_toNat_cond, c]; decide
    unfold toI
    rw [if_pos]
    rw [BitVec.toInt_eq_toNat_cond] at hs
    unfold rank
    rw [hs, hr]
    by_cases hn : 2 * x.toNat < 2 ^ 64
    · rw [if_pos hn, decide_eq_false (by omega)]
      right; left; rw [if_neg (by decide)]; omega
    · rw [if_neg hn, decide_eq_true (by omega)]
      right; right; rw [if_pos rfl]; omega

theorem toI_mid (x : BitVec 64) (p m : Nat) (hr : x.toNat % 9223372036854775808 = p * 4503599627370496 + m) (hm : m < 4503599627370496) (h1 : 1023 ≤ p) (h2 : p < 1086) (hs : ng x.toNat = decide (x.toInt < 0)) :
    toI x.toNat = (BitVec.ofInt 64 (if x.toInt < 0 then -((if 1075 ≤ p then (m + 4503599627370496) * 2 ^ (p - 1075) else (m + 4503599627370496) / 2 ^ (1075 - p) : Nat) : Int)
      else ((if 1075 ≤ p then (m + 4503599627370496) * 2 ^ (p - 1075) else (m + 4503599627370496) / 2 ^ (1075 - p) : Nat) : Int)), 0) := by
  unfold toI
  have hw : whole (x.toNat % 9223372036854775808) = if 1075 ≤ p then (m + 4503599627370496) * 2 ^ (p - 1075) else (m + 4503599627370496) / 2 ^ (1075 - p) := by
    unfold whole
    rw [hr, pl_is p m hm (by omega), mg_is p m hm (by omega)]
    by_cases h : 1075 ≤ p
    · rw [if_pos h, if_pos (by omega), show p - 1 - 1074 = p - 1075 from by omega]
    · rw [if_neg h, if_neg (by omega), show 1074 - (p - 1) = 1075 - p from by omega]
  rw [if_neg]
  · unfold wholeInt; rw [hw, hs]; simp only [decide_eq_true_eq]
  · unfold nan rank; rw [hr]
    simp only [decide_eq_true_eq]
    split <;> omega

theorem mid_lt (p m : Nat) (hm : m < 4503599627370496) (h1 : 1023 ≤ p) (h2 : p < 1086) :
    (if 1075 ≤ p then (m + 4503599627370496) * 2 ^ (p - 1075) else (m + 4503599627370496) / 2 ^ (1075 - p)) < 9223372036854775808 := by
  split
  · calc (m + 4503599627370496) * 2 ^ (p - 1075) ≤ (m + 4503599627370496) * 2 ^ 10 := Nat.mul_le_mul_left _ (Nat.pow_le_pow_right (by decide) (by omega))
      _ < 9223372036854775808 := by omega
  · exact Nat.lt_of_le_of_lt (Nat.div_le_self _ _) (by omega)

theorem cast_up (m k : Nat) : (((m + 4503599627370496) * 2 ^ k : Nat) : Int) = ((m : Int) + 4503599627370496) * 2 ^ k := by
  rw [Int.natCast_mul, Int.natCast_add, Int.natCast_pow]; rfl
theorem cast_down (m k : Nat) : (((m + 4503599627370496) / 2 ^ k : Nat) : Int) = ((m : Int) + 4503599627370496) / 2 ^ k := by
  rw [Int.natCast_ediv, Int.natCast_add, Int.natCast_pow]; rfl

theorem wrap64_in (n : Int) (h : -9223372036854775808 ≤ n ∧ n ≤ 9223372036854775807) : wrap64 n = n := by unfold wrap64; omega

set_option maxRecDepth 100000 in
set_option maxHeartbeats 2000000 in
theorem rtoint_any (x : BitVec 64) (w : World) : Calls Try.prog 43 #[.int .i64 x.toInt] w fun e w' => e = .returned (.tuple #[.int .i64 (toI x.toNat).1.toInt, .int .i64 (toI x.toNat).2]) ∧ w = w' := by
  obtain ⟨p, hp⟩ : ∃ p : Nat, p = x.toNat / 4503599627370496 % 2048 := ⟨_, rfl⟩
  obtain ⟨m, hm⟩ : ∃ m : Nat, m = x.toNat % 4503599627370496 := ⟨_, rfl⟩
  obtain ⟨hr, hp2, hm2, hs⟩ := toI_parts x p m hp hm
  have P := Lib.hid (power_any x)
  rw [← hp, ← hm] at P
  clear hp hm
  by_cases h1 : p < 1023
  · rw [toI_low x p m hr hm2 h1]
    clear hr hs hm2 hp2
    go_enter Try.func43, Try.ntmps43
    go_wp2_with (go_at_call 29; refine (P.out _).mono ?_; rintro e w' ⟨rfl, rfl⟩)
    go_ret2
    exact ⟨ret_two rfl rfl, rfl⟩
  by_cases h2 : 1086 ≤ p
  · obtain ⟨g1, g2⟩ := toI_high x p m hr hm2 h2 hp2 hs
    by_cases hx : x.toInt = -4332462841530417152
    · rw [g1 hx]
      have g : (x.toInt == -4332462841530417152) = true := beq_iff_eq.2 hx
      clear hr hs hm2 hp2 g1 g2 hx
      go_enter Try.func43, Try.ntmps43
      go_wp2_with (go_at_call 29; refine (P.out _).mono ?_; rintro e w' ⟨rfl, rfl⟩)
      go_ret2
      exact ⟨ret_two (by decide) rfl, rfl⟩
    · rw [g2 hx]
      have g : (x.toInt == -4332462841530417152) = false := beq_eq_false_iff_ne.2 hx
      clear hr hs hm2 hp2 g1 g2 hx
      go_enter Try.func43, Try.ntmps43
      go_wp2_with (go_at_call 29; refine (P.out _).mono ?_; rintro e w' ⟨rfl, rfl⟩)
      go_ret2
      exact ⟨ret_two rfl rfl, rfl⟩
  have h1' : 1023 ≤ p := by omega
  have h2' : p < 1086 := by omega
  have hl : ((if 1075 ≤ p then (m + 4503599627370496) * 2 ^ (p - 1075) else (m + 4503599627370496) / 2 ^ (1075 - p) : Nat) : Int) < 9223372036854775808 ∧ 0 ≤ ((if 1075 ≤ p then (m + 4503599627370496) * 2 ^ (p - 1075) else (m + 4503599627370496) / 2 ^ (1075 - p) : Nat) : Int) := by
    have := mid_lt p m hm2 h1' h2'
    omega
  rw [toI_mid x p m hr hm2 h1' h2' hs, toInt_ofInt]
  clear hr hs
  by_cases h3 : 1075 ≤ p <;> by_cases h4 : x.toInt < 0
  all_goals
    simp only [h3, h4, if_true, if_false] at hl ⊢
    go_enter Try.func43, Try.ntmps43
    go_wp2_with (go_at_call 29; refine (P.out _).mono ?_; rintro e w' ⟨rfl, rfl⟩)
    go_ret2
    refine ⟨ret_two ?_ rfl, rfl⟩
    clear P
    try rw [show p - 1023 - 52 = p - 1075 from by omega]
    (first
      | rw [cast_up] at hl ⊢
      | rw [cast_down] at hl ⊢) <;> first
      | (generalize ((m : Int) + 4503599627370496) * 2 ^ (p - 1075) = z at *; unfold wrap64; omega)
      | (generalize ((m : Int) + 4503599627370496) / 2 ^ (1075 - p) = z at *; unfold wrap64; omega)

end Go.Proofs.Ytdjenhbglkcapaa.CW
