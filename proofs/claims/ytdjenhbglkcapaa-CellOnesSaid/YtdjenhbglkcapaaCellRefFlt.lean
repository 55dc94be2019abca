/-
  Walk of retortref10.toFloat (the document's words): the word of the float nearest to a number, as Ieee.double has it. Conditions: none.
-/
import Derived.Test.YtdjenhbglkcapaaCellRefInt
import Derived.Outline
namespace Go.Proofs.Ytdjenhbglkcapaa.CW
open Go.RowKit Ieee
set_option linter.unusedSimpArgs false
set_option linter.unusedVariables false

def sgn (s : Bool) : Nat := if s then 1 else 0

theorem word_sgn (s : Bool) (q : Nat) : sgn s * 9223372036854775808 + q = double.word s q := by
  unfold Format.word; rw [d_sign]
  cases s
  · have hz : sgn false = 0 := rfl
    rw [hz, if_neg (by decide), Nat.zero_mul, Nat.zero_add]
  · have hz : sgn true = 1 := rfl
    rw [hz, if_pos rfl, Nat.one_mul]

theorem or_parts (s : Bool) (P F : Nat) (hP : P < 2048) (hF : F < 4503599627370496) :
    ((sgn s * 9223372036854775808 ||| P * 4503599627370496) ||| F) = double.word s (P * 4503599627370496 + F) := by
  have h1 := Nat.two_pow_add_eq_or_of_lt (i := 63) (b := P * 4503599627370496) (by omega) (sgn s)
  have e63 : (2 : Nat) ^ 63 = 9223372036854775808 := by decide
  have e52 : (2 : Nat) ^ 52 = 4503599627370496 := by decide
  rw [e63, Nat.mul_comm 9223372036854775808] at h1
  rw [← h1]
  have h2 := Nat.two_pow_add_eq_or_of_lt (i := 52) (b := F) (by omega) (sgn s * 2048 + P)
  rw [e52, show 4503599627370496 * (sgn s * 2048 + P) = sgn s * 9223372036854775808 + P * 4503599627370496 from by omega] at h2
  rw [← h2, Nat.add_assoc]
  exact word_sgn s _

/-- Sign, field of powers and low bits make a word. -/
theorem word_bits (s : Bool) (P F : Nat) (hP : P < 2048) (hF : F < 4503599627370496) (S0 : Int) (hS : S0 = if s then -9223372036854775808 else 0) :
    bits .or .i64 (bits .or .i64 S0 ((P : Int) * 4503599627370496)) (F : Int) = (BitVec.ofNat 64 (double.word s (P * 4503599627370496 + F))).toInt := by
  have e1 : S0 = (BitVec.ofNat 64 (sgn s * 9223372036854775808)).toInt := by rw [hS]; cases s <;> decide
  have e2 : ((P : Int) * 4503599627370496) = (BitVec.ofNat 64 (P * 4503599627370496)).toInt := by
    rw [toInt_ofNat]; unfold wrap64; omega
  have e3 : (F : Int) = (BitVec.ofNat 64 F).toInt := by rw [toInt_ofNat]; unfold wrap64; omega
  rw [e1, e2, e3, w_or, w_or]
  congr 1
  apply BitVec.eq_of_toNat_eq
  have hl : sgn s ≤ 1 := by cases s <;> decide
  rw [BitVec.toNat_or, BitVec.toNat_or, BitVec.toNat_ofNat, BitVec.toNat_ofNat, BitVec.toNat_ofNat, BitVec.toNat_ofNat,
    Nat.mod_eq_of_lt (show sgn s * 9223372036854775808 < 2 ^ 64 by omega), Nat.mod_eq_of_lt (show P * 4503599627370496 < 2 ^ 64 by omega), Nat.mod_eq_of_lt (show F < 2 ^ 64 by omega), or_parts s P F hP hF]
  unfold Format.word; rw [d_sign]; split <;> omega

theorem low_bits (v : Nat) : bits .and .i64 (wrap64 (v : Int)) 4503599627370495 = ((v % 4503599627370496 : Nat) : Int) := by
  rw [← toInt_ofNat, w_frac, BitVec.toNat_ofNat]; congr 1; omega

/-- The nearest float of a number of more than 53 bits. -/
theorem nearest_big (s : Bool) (m : Nat) (h : 52 < m.log2) (hl : m.log2 ≤ 63) :
    double.nearest s m 0 = double.word s ((m.log2 + 1022) * 4503599627370496 + rnd m (m.log2 - 52)) ∧ 4503599627370496 ≤ m / 2 ^ (m.log2 - 52) ∧ m / 2 ^ (m.log2 - 52) < 9007199254740992 := by
  have h0 : m ≠ 0 := by intro h; subst h; simp at h
  have h1 : 2 ^ m.log2 ≤ m := Nat.log2_self_le h0
  have h2 : m < 2 ^ (m.log2 + 1) := Nat.lt_log2_self
  have hp : 0 < 2 ^ (m.log2 - 52) := Nat.two_pow_pos _
  have q1 : 4503599627370496 ≤ m / 2 ^ (m.log2 - 52) := by
    rw [Nat.le_div_iff_mul_le hp]
    calc 4503599627370496 * 2 ^ (m.log2 - 52) = 2 ^ m.log2 := by rw [show (4503599627370496 : Nat) = 2 ^ 52 from by decide, ← Nat.pow_add]; congr 1; omega
      _ ≤ m := h1
  have q2 : m / 2 ^ (m.log2 - 52) < 9007199254740992 := by
    rw [Nat.div_lt_iff_lt_mul hp]
    calc m < 2 ^ (m.log2 + 1) := h2
      _ = 9007199254740992 * 2 ^ (m.log2 - 52) := by rw [show (9007199254740992 : Nat) = 2 ^ 53 from by decide, ← Nat.pow_add]; congr 1; omega
  have q3 : rnd m (m.log2 - 52) ≤ 9007199254740992 := by
    unfold rnd
    have : ∀ b : Bool, b.toNat ≤ 1 := by intro b; cases b <;> decide
    have := this (decide (2 ^ (m.log2 - 52) < 2 * (m % 2 ^ (m.log2 - 52))) || (2 ^ (m.log2 - 52) == 2 * (m % 2 ^ (m.log2 - 52)) && m / 2 ^ (m.log2 - 52) % 2 == 1))
    omega
  refine ⟨?_, q1, q2⟩
  unfold Format.nearest
  dsimp only
  rw [if_neg h0, d_frac, d_least, d_binade, d_inf]
  rw [show max (0 + (m.log2 : Int) - ((52 : Nat) : Int)) (-1074) = (m.log2 : Int) - 52 from by omega, cut_even,
    show ((m.log2 : Int) - 52 - 0).toNat = m.log2 - 52 from by omega, show ((0 : Int) - ((m.log2 : Int) - 52)).toNat = 0 from by omega,
    show ((m.log2 : Int) - 52 - -1074).toNat = m.log2 + 1022 from by omega, Nat.shiftLeft_zero]
  congr 1
  exact Nat.min_eq_left (by omega)

/-- A word below infinity is told as it is. -/
theorem told_word (s : Bool) (r : Nat) (h : r < 9218868437227405312) : told (double.word s r) = BitVec.ofNat 64 (double.word s r) := by
  unfold told
  rw [if_neg]
  unfold nan; rw [word_mod s r (by omega)]; simp; omega

/-- The answer for a number of at most 53 bits. -/
theorem fin_small (s : Bool) (m k : Nat) (h0 : m ≠ 0) (hk : k = m.log2) (h52 : k ≤ 52) (S0 : Int) (hS : S0 = if s then -9223372036854775808 else 0) (v : Int) (hv : v = ((m * 2 ^ (52 - k) : Nat) : Int)) :
    bits .or .i64 (bits .or .i64 S0 ((1023 + (k : Int)) * 4503599627370496)) (bits .and .i64 (wrap64 v) 4503599627370495) = (told (double.nearest s m 0)).toInt := by
  have hm : m < 9007199254740992 := by
    have h2 : m < 2 ^ (m.log2 + 1) := Nat.lt_log2_self
    have : 2 ^ (m.log2 + 1) ≤ 2 ^ 53 := Nat.pow_le_pow_right (by decide) (by omega)
    omega
  obtain ⟨h1, h2, h3⟩ := top_bounds m h0 hm
  rw [nearest_int s m h0 hm, told_word s _ (by have := (rung_parts m h0 hm).1; omega), hv, low_bits]
  have e : (1023 + (k : Int)) * 4503599627370496 = (((1023 + k : Nat) : Int)) * 4503599627370496 := by omega
  rw [e, word_bits s (1023 + k) _ (by omega) (Nat.mod_lt _ (by decide)) S0 hS]
  have er : (1023 + k) * 4503599627370496 + m * 2 ^ (52 - k) % 4503599627370496 = rungOf m := by
    unfold rungOf; rw [← hk] at h2 h3 ⊢
    generalize m * 2 ^ (52 - k) = q at *
    omega
  rw [er]

/-- The answer for a greater number: the digits kept, and a carry. -/
theorem fin_big (s : Bool) (m k : Nat) (hk : k = m.log2) (h52 : 52 < k) (h63 : k ≤ 63) (S0 : Int) (hS : S0 = if s then -9223372036854775808 else 0) :
    (rnd m (k - 52) < 9007199254740992 → bits .or .i64 (bits .or .i64 S0 ((1023 + (k : Int)) * 4503599627370496)) (bits .and .i64 (wrap64 (rnd m (k - 52) : Nat)) 4503599627370495) = (told (double.nearest s m 0)).toInt) ∧
    (rnd m (k - 52) = 9007199254740992 → bits .or .i64 (bits .or .i64 S0 ((1023 + (k : Int) + 1) * 4503599627370496)) (bits .and .i64 4503599627370496 4503599627370495) = (told (double.nearest s m 0)).toInt) := by
  subst hk
  obtain ⟨h1, h2, h3⟩ := nearest_big s m h52 h63
  have hr : m / 2 ^ (m.log2 - 52) ≤ rnd m (m.log2 - 52) := by unfold rnd; omega
  have hc : rnd m (m.log2 - 52) ≤ 9007199254740992 := by
    unfold rnd
    have : ∀ b : Bool, b.toNat ≤ 1 := by intro b; cases b <;> decide
    have := this (decide (2 ^ (m.log2 - 52) < 2 * (m % 2 ^ (m.log2 - 52))) || (2 ^ (m.log2 - 52) == 2 * (m % 2 ^ (m.log2 - 52)) && m / 2 ^ (m.log2 - 52) % 2 == 1))
    omega
  rw [h1, told_word s _ (by omega)]
  generalize rnd m (m.log2 - 52) = q at *
  generalize m.log2 = t at *
  constructor
  · intro h
    have e : (1023 + (t : Int)) * 4503599627370496 = (((1023 + t : Nat) : Int)) * 4503599627370496 := by omega
    rw [low_bits, e, word_bits s (1023 + t) _ (by omega) (Nat.mod_lt _ (by decide)) S0 hS,
      show (1023 + t) * 4503599627370496 + q % 4503599627370496 = (t + 1022) * 4503599627370496 + q from by omega]
  · intro h
    have e : (1023 + (t : Int) + 1) * 4503599627370496 = (((1024 + t : Nat) : Int)) * 4503599627370496 := by omega
    have e0 : bits .and .i64 4503599627370496 4503599627370495 = ((0 : Nat) : Int) := by decide
    rw [e0, e, word_bits s (1024 + t) 0 (by omega) (by omega) S0 hS,
      show (1024 + t) * 4503599627370496 + 0 = (t + 1022) * 4503599627370496 + q from by omega]

theorem shr_zero (m k : Nat) : (((m : Int) / 2 ^ k) == 0) = decide (m < 2 ^ k) := by
  have hp : 0 < 2 ^ k := Nat.two_pow_pos k
  have e : (m : Int) / 2 ^ k = ((m / 2 ^ k : Nat) : Int) := by rw [Int.natCast_ediv, Int.natCast_pow]; rfl
  rw [e, Bool.eq_iff_iff]; simp only [beq_iff_eq, decide_eq_true_eq]
  constructor
  · intro h; exact (Nat.div_eq_zero_iff.1 (by omega : m / 2 ^ k = 0)).resolve_left (by omega)
  · intro h; rw [Nat.div_eq_of_lt h]; rfl

theorem pow_lt64 (k : Nat) (h : k ≤ 63) : 2 ^ k ≤ 9223372036854775808 := by
  have : 2 ^ k ≤ 2 ^ 63 := Nat.pow_le_pow_right (by decide) h
  omega

/-- The numbers that the walk meets, each as a plain number. -/
structure Nums (m k M R H : Nat) : Prop where
  e1 : (m : Int) / 2 ^ (k - 52) = (M : Int)
  e2 : IntKind.u64.wrap ((M : Int) * 2 ^ (k - 52)) = ((m - R : Nat) : Int)
  e3 : IntKind.u64.wrap ((m : Int) - ((m - R : Nat) : Int)) = (R : Int)
  e4 : IntKind.u64.wrap (2 ^ (k - 52 - 1)) = (H : Int)
  e5 : bits .and .u64 (M : Int) 1 = ((M % 2 : Nat) : Int)
  hM : 4503599627370496 ≤ M ∧ M < 9007199254740992
  hk : rnd m (k - 52) = M + (decide (H < R) || (H == R && M % 2 == 1)).toNat

theorem nums_of (m k : Nat) (hk : k = m.log2) (h52 : 52 < k) (h63 : k ≤ 63) (hm : m ≤ 9223372036854775808) : Nums m k (m / 2 ^ (k - 52)) (m % 2 ^ (k - 52)) (2 ^ (k - 52 - 1)) := by
  have hq := nearest_big true m (by omega) (by omega)
  rw [← hk] at hq
  have hp : 0 < 2 ^ (k - 52) := Nat.two_pow_pos _
  have hdm := Nat.div_add_mod m (2 ^ (k - 52))
  have hd : (2 : Nat) ^ (k - 52) = 2 * 2 ^ (k - 52 - 1) := by rw [← Nat.pow_succ']; congr 1; omega
  have hlt := Nat.mod_lt m hp
  have hle := pow_lt64 (k - 52 - 1) (by omega)
  have c1 : (2 : Int) ^ (k - 52) = ((2 ^ (k - 52) : Nat) : Int) := by rw [Int.natCast_pow]; rfl
  have c2 : (2 : Int) ^ (k - 52 - 1) = ((2 ^ (k - 52 - 1) : Nat) : Int) := by rw [Int.natCast_pow]; rfl
  have hmr : m / 2 ^ (k - 52) * 2 ^ (k - 52) = m - m % 2 ^ (k - 52) := by rw [Nat.mul_comm]; omega
  refine ⟨?_, ?_, ?_, ?_, ?_, hq.2, ?_⟩
  · rw [c1]; rfl
  · rw [c1, ← Int.natCast_mul, hmr, IntKind.wrap_u64]; omega
  · rw [IntKind.wrap_u64]; omega
  · rw [c2, IntKind.wrap_u64]; omega
  · have h := bits_and_u64_nat (m / 2 ^ (k - 52)) 1 (by have := hq.2.2; omega) (by omega)
    rw [show ((1 : Nat) : Int) = 1 from rfl] at h
    rw [h, Nat.and_one_is_mod]
  · unfold rnd
    congr 2
    rw [hd]
    have a1 : decide (2 * 2 ^ (k - 52 - 1) < 2 * (m % (2 * 2 ^ (k - 52 - 1)))) = decide (2 ^ (k - 52 - 1) < m % (2 * 2 ^ (k - 52 - 1))) := by
      rw [Bool.eq_iff_iff]; simp only [decide_eq_true_eq]; omega
    have a2 : (2 * 2 ^ (k - 52 - 1) == 2 * (m % (2 * 2 ^ (k - 52 - 1)))) = (2 ^ (k - 52 - 1) == m % (2 * 2 ^ (k - 52 - 1))) := by
      rw [Bool.eq_iff_iff]; simp only [beq_iff_eq]; omega
    rw [a1, a2]

set_option maxRecDepth 100000 in
set_option maxHeartbeats 4000000 in
theorem rtofloat_neg (x : BitVec 64) (w : World) (m k : Nat) (g0 : (x.toInt == 0) = false) (hs : decide (x.toInt < 0) = true) (m0 : m ≠ 0) (mle : m ≤ 9223372036854775808) (hlog : k ≤ 63) (hk : k = m.log2)
    (H : Hid (∀ j, k < j → (((m : Int) / 2 ^ j) == 0) = true)) (heq : (((m : Int) / 2 ^ k) == 0) = false)
    (hv : IntKind.u64.wrap (-(x.toNat : Int)) = (m : Int)) (hu : IntKind.u64.wrap x.toInt = (x.toNat : Int)) :
    Calls Try.prog 42 #[.int .i64 x.toInt] w fun e w' => e = .returned (.int .i64 (told (Ieee.double.nearest true m 0)).toInt) ∧ w = w' := by
  have HK := Lib.hid hk
  clear hk
  generalize x.toNat = n at *
  go_enter Try.func42, Try.ntmps42
  go_wp2
  go_loop [5] (fun v => ∃ j : Nat, k ≤ j ∧ j ≤ 63 ∧ v = .int .i64 j) (fun v => (intOf v).toNat)
  case atStart => exact ⟨63, by omega, by omega, rfl⟩
  case round =>
    obtain ⟨j, hk1, hk2, rfl⟩ := hrel
    by_cases hlt : k < j
    · have g := H.out j hlt
      clear mle
      go_wp2
      go_round
      case rel => exact ⟨j - 1, by omega, by omega, by go_num⟩
      case measure => simp [intOf]; omega
    · have : j = k := by omega
      subst this
      clear H hlt hk1
      by_cases h52 : j ≤ 52
      · have hvv : IntKind.u64.wrap ((m : Int) * 2 ^ (52 - j)) = ((m * 2 ^ (52 - j) : Nat) : Int) := by
          have hm : m < 9007199254740992 := by
            have h2 : m < 2 ^ (m.log2 + 1) := Nat.lt_log2_self
            have : 2 ^ (m.log2 + 1) ≤ 2 ^ 53 := Nat.pow_le_pow_right (by decide) (by have := HK.out; omega)
            omega
          have h3 := (top_bounds m m0 hm).2.2
          rw [← HK.out] at h3
          rw [show (2 : Int) ^ (52 - j) = ((2 ^ (52 - j) : Nat) : Int) from by rw [Int.natCast_pow]; rfl, ← Int.natCast_mul, IntKind.wrap_u64]; omega
        have FIN := Lib.hid (fin_small true m j m0 HK.out h52 (-9223372036854775808) (by decide) _ hvv)
        clear hvv
        go_wp2
        go_ret
        exact ⟨ret_int FIN.out, rfl⟩
      · have h52' : 52 < j := by omega
        have FIN := Lib.hid (fin_big true m j HK.out h52' hlog (-9223372036854775808) (by decide))
        obtain ⟨e1, e2, e3, e4, e5, hM, hrn⟩ := nums_of m j HK.out h52' hlog mle
        obtain ⟨hM1, hM2⟩ := hM
        generalize m / 2 ^ (j - 52) = M at *
        generalize m % 2 ^ (j - 52) = R at *
        generalize 2 ^ (j - 52 - 1) = T at *
        generalize m - R = mr at *
        have tests : (T < R ∨ (R = T ∧ bits .and .u64 (M : Int) 1 = 1)) ∧ rnd m (j - 52) = M + 1 ∨
            ((R = T ∧ bits .and .u64 (M : Int) 1 = 0) ∨ R < T) ∧ rnd m (j - 52) = M := by
          rw [hrn, e5]
          rcases Nat.lt_trichotomy T R with c1 | c1 | c1
          · left; exact ⟨Or.inl c1, by simp [c1]⟩
          · subst c1
            by_cases c3 : M % 2 = 1
            · left; exact ⟨Or.inr ⟨rfl, by rw [c3]; rfl⟩, by simp [c3]⟩
            · right
              have c4 : M % 2 = 0 := by omega
              exact ⟨Or.inl ⟨rfl, by rw [c4]; rfl⟩, by simp [c4]⟩
          · right
            have c2 : ¬ T < R := by omega
            have c3 : (T == R) = false := by rw [beq_eq_false_iff_ne]; omega
            exact ⟨Or.inr c1, by simp [c2, c3]⟩
        clear e5
        have Q : ∃ q : Nat, q = M + 1 ∧ IntKind.u64.wrap ((M : Int) + 1) = (q : Int) := ⟨M + 1, rfl, by rw [IntKind.wrap_u64]; omega⟩
        obtain ⟨q, hq1, hq2⟩ := Q
        have gM : ((M : Int) / 9007199254740992 == 1) = false := by rw [beq_eq_false_iff_ne]; omega
        rcases tests with ⟨ht, hr⟩ | ⟨ht, hr⟩
        · rw [hr, ← hq1] at FIN
          have hc : ((q : Int) / 9007199254740992 == 1) = true ∧ (q : Int) / 2 = 4503599627370496 ∧ q = 9007199254740992 ∨ ((q : Int) / 9007199254740992 == 1) = false ∧ q < 9007199254740992 := by
            by_cases c : q = 9007199254740992
            · left; subst c; exact ⟨by decide, by decide, rfl⟩
            · right; exact ⟨by rw [beq_eq_false_iff_ne]; omega, by omega⟩
          clear hM1 hM2 hrn hr mle gM hq1
          rcases hc with ⟨c1, c2, c3⟩ | ⟨c1, c3⟩
          · have C3 := Lib.hid c3
            clear c3
            rcases ht with ht | ⟨rfl, ht⟩
            all_goals
              go_wp2
              go_ret
              exact ⟨ret_int (FIN.out.2 C3.out), rfl⟩
          · have C3 := Lib.hid c3
            clear c3
            rcases ht with ht | ⟨rfl, ht⟩
            all_goals
              go_wp2
              go_ret
              exact ⟨ret_int (FIN.out.1 C3.out), rfl⟩
        · rw [hr] at FIN
          have C3 := Lib.hid hM2
          clear hM1 hM2 hrn hr mle hq1 hq2
          rcases ht with ⟨rfl, ht⟩ | ht
          all_goals
            go_wp2
            go_ret
            exact ⟨ret_int (FIN.out.1 C3.out), rfl⟩

set_option maxRecDepth 100000 in
set_option maxHeartbeats 4000000 in
theorem rtofloat_pos (x : BitVec 64) (w : World) (m k : Nat) (g0 : (x.toInt == 0) = false) (hs : decide (x.toInt < 0) = false) (m0 : m ≠ 0) (mle : m ≤ 9223372036854775808) (hlog : k ≤ 63) (hk : k = m.log2)
    (H : Hid (∀ j, k < j → (((m : Int) / 2 ^ j) == 0) = true)) (heq : (((m : Int) / 2 ^ k) == 0) = false)
    (hu : IntKind.u64.wrap x.toInt = (m : Int)) :
    Calls Try.prog 42 #[.int .i64 x.toInt] w fun e w' => e = .returned (.int .i64 (told (Ieee.double.nearest false m 0)).toInt) ∧ w = w' := by
  have HK := Lib.hid hk
  clear hk
  skip
  go_enter Try.func42, Try.ntmps42
  go_wp2
  go_loop [5] (fun v => ∃ j : Nat, k ≤ j ∧ j ≤ 63 ∧ v = .int .i64 j) (fun v => (intOf v).toNat)
  case atStart => exact ⟨63, by omega, by omega, rfl⟩
  case round =>
    obtain ⟨j, hk1, hk2, rfl⟩ := hrel
    by_cases hlt : k < j
    · have g := H.out j hlt
      clear mle
      go_wp2
      go_round
      case rel => exact ⟨j - 1, by omega, by omega, by go_num⟩
      case measure => simp [intOf]; omega
    · have : j = k := by omega
      subst this
      clear H hlt hk1
      by_cases h52 : j ≤ 52
      · have hvv : IntKind.u64.wrap ((m : Int) * 2 ^ (52 - j)) = ((m * 2 ^ (52 - j) : Nat) : Int) := by
          have hm : m < 9007199254740992 := by
            have h2 : m < 2 ^ (m.log2 + 1) := Nat.lt_log2_self
            have : 2 ^ (m.log2 + 1) ≤ 2 ^ 53 := Nat.pow_le_pow_right (by decide) (by have := HK.out; omega)
            omega
          have h3 := (top_bounds m m0 hm).2.2
          rw [← HK.out] at h3
          rw [show (2 : Int) ^ (52 - j) = ((2 ^ (52 - j) : Nat) : Int) from by rw [Int.natCast_pow]; rfl, ← Int.natCast_mul, IntKind.wrap_u64]; omega
        have FIN := Lib.hid (fin_small false m j m0 HK.out h52 0 (by decide) _ hvv)
        clear hvv
        go_wp2
        go_ret
        exact ⟨ret_int FIN.out, rfl⟩
      · have h52' : 52 < j := by omega
        have FIN := Lib.hid (fin_big false m j HK.out h52' hlog 0 (by decide))
        obtain ⟨e1, e2, e3, e4, e5, hM, hrn⟩ := nums_of m j HK.out h52' hlog mle
        obtain ⟨hM1, hM2⟩ := hM
        generalize m / 2 ^ (j - 52) = M at *
        generalize m % 2 ^ (j - 52) = R at *
        generalize 2 ^ (j - 52 - 1) = T at *
        generalize m - R = mr at *
        have tests : (T < R ∨ (R = T ∧ bits .and .u64 (M : Int) 1 = 1)) ∧ rnd m (j - 52) = M + 1 ∨
            ((R = T ∧ bits .and .u64 (M : Int) 1 = 0) ∨ R < T) ∧ rnd m (j - 52) = M := by
          rw [hrn, e5]
          rcases Nat.lt_trichotomy T R with c1 | c1 | c1
          · left; exact ⟨Or.inl c1, by simp [c1]⟩
          · subst c1
            by_cases c3 : M % 2 = 1
            · left; exact ⟨Or.inr ⟨rfl, by rw [c3]; rfl⟩, by simp [c3]⟩
            · right
              have c4 : M % 2 = 0 := by omega
              exact ⟨Or.inl ⟨rfl, by rw [c4]; rfl⟩, by simp [c4]⟩
          · right
            have c2 : ¬ T < R := by omega
            have c3 : (T == R) = false := by rw [beq_eq_false_iff_ne]; omega
            exact ⟨Or.inr c1, by simp [c2, c3]⟩
        clear e5
        have Q : ∃ q : Nat, q = M + 1 ∧ IntKind.u64.wrap ((M : Int) + 1) = (q : Int) := ⟨M + 1, rfl, by rw [IntKind.wrap_u64]; omega⟩
        obtain ⟨q, hq1, hq2⟩ := Q
        have gM : ((M : Int) / 9007199254740992 == 1) = false := by rw [beq_eq_false_iff_ne]; omega
        rcases tests with ⟨ht, hr⟩ | ⟨ht, hr⟩
        · rw [hr, ← hq1] at FIN
          have hc : ((q : Int) / 9007199254740992 == 1) = true ∧ (q : Int) / 2 = 4503599627370496 ∧ q = 9007199254740992 ∨ ((q : Int) / 9007199254740992 == 1) = false ∧ q < 9007199254740992 := by
            by_cases c : q = 9007199254740992
            · left; subst c; exact ⟨by decide, by decide, rfl⟩
            · right; exact ⟨by rw [beq_eq_false_iff_ne]; omega, by omega⟩
          clear hM1 hM2 hrn hr mle gM hq1
          rcases hc with ⟨c1, c2, c3⟩ | ⟨c1, c3⟩
          · have C3 := Lib.hid c3
            clear c3
            rcases ht with ht | ⟨rfl, ht⟩
            all_goals
              go_wp2
              go_ret
              exact ⟨ret_int (FIN.out.2 C3.out), rfl⟩
          · have C3 := Lib.hid c3
            clear c3
            rcases ht with ht | ⟨rfl, ht⟩
            all_goals
              go_wp2
              go_ret
              exact ⟨ret_int (FIN.out.1 C3.out), rfl⟩
        · rw [hr] at FIN
          have C3 := Lib.hid hM2
          clear hM1 hM2 hrn hr mle hq1 hq2
          rcases ht with ⟨rfl, ht⟩ | ht
          all_goals
            go_wp2
            go_ret
            exact ⟨ret_int (FIN.out.1 C3.out), rfl⟩

theorem rtofloat_any (x : BitVec 64) (w : World) : Calls Try.prog 42 #[.int .i64 x.toInt] w fun e w' => e = .returned (.int .i64 (told (ft x.toInt)).toInt) ∧ w = w' := by
  by_cases h0 : x.toInt = 0
  · have ht : (told (ft 0)).toInt = 0 := by decide
    rw [h0, ht]
    go_enter Try.func42, Try.ntmps42
    go_wp2
    go_ret
    exact ⟨rfl, rfl⟩
  · have g0 : (x.toInt == 0) = false := beq_eq_false_iff_ne.2 h0
    have hu := u64_toInt x
    have b1 := toInt_lo x
    have b2 := toInt_hi x
    have hx := x.isLt
    have m0 : x.toInt.natAbs ≠ 0 := by omega
    have mle : x.toInt.natAbs ≤ 9223372036854775808 := by omega
    have hlog : x.toInt.natAbs.log2 ≤ 63 := by
      have := Nat.log2_self_le m0
      apply Nat.le_of_not_lt; intro hc
      have : 2 ^ 64 ≤ 2 ^ x.toInt.natAbs.log2 := Nat.pow_le_pow_right (by decide) hc
      omega
    have hlt : ∀ k, x.toInt.natAbs.log2 < k → (((x.toInt.natAbs : Int) / 2 ^ k) == 0) = true := by
      intro k hk; rw [shr_zero, decide_eq_true_eq]
      exact Nat.lt_of_lt_of_le Nat.lt_log2_self (Nat.pow_le_pow_right (by decide) hk)
    have heq : (((x.toInt.natAbs : Int) / 2 ^ x.toInt.natAbs.log2) == 0) = false := by
      rw [shr_zero, decide_eq_false_iff_not]; exact Nat.not_lt.2 (Nat.log2_self_le m0)
    rw [ft_is]
    by_cases hs : x.toInt < 0
    · have hv : IntKind.u64.wrap (-(x.toNat : Int)) = (x.toInt.natAbs : Int) := by
        rw [IntKind.wrap_u64]; rw [BitVec.toInt_eq_toNat_cond] at *; split at * <;> omega
      rw [decide_eq_true hs]
      exact rtofloat_neg x w _ _ g0 (decide_eq_true hs) m0 mle hlog rfl (Lib.hid hlt) heq hv hu
    · have hv : IntKind.u64.wrap x.toInt = (x.toInt.natAbs : Int) := by rw [IntKind.wrap_u64]; omega
      rw [decide_eq_false hs]
      exact rtofloat_pos x w _ _ g0 (decide_eq_false hs) m0 mle hlog rfl (Lib.hid hlt) heq hv

end Go.Proofs.Ytdjenhbglkcapaa.CW
