/-
  Plain laws of floats that are no number. No program is in sight here. Conditions: as each theorem states.
-/
import Derived.Test.YtdjenhbglkcapaaCellPlain
namespace Go.Proofs.Ytdjenhbglkcapaa.CW
open Go.RowKit Ieee
set_option linter.unusedSimpArgs false
set_option linter.unusedVariables false

theorem nan_quiet : nan quiet.toNat = true := by decide

theorem told_ok (r : Nat) : told r = quiet ∨ nan (told r).toNat = false := by
  unfold told
  by_cases h : nan r = true
  · left; rw [if_pos h]
  · right; rw [if_neg h, BitVec.toNat_ofNat]
    unfold nan at *; simp only [decide_eq_true_eq, decide_eq_false_iff_not] at *; omega

theorem toldOpt_ok (o : Option Nat) : toldOpt o = quiet ∨ nan (toldOpt o).toNat = false := by
  cases o with
  | none => left; rfl
  | some r => exact told_ok r

theorem read_of_nan (b : Nat) (h : nan b = true) : double.read b = .nan (ng b) (b % 9223372036854775808 - 9218868437227405312) := by
  unfold nan at h; exact read_nan b (by simpa using h)

theorem sum_nan (a b : Datum) (h : a.isNaN = true ∨ b.isNaN = true) : a.sum b = none := by
  cases a <;> cases b <;> simp [Datum.isNaN] at h <;> rfl
theorem product_nan (a b : Datum) (h : a.isNaN = true ∨ b.isNaN = true) : a.product b = none := by
  cases a <;> cases b <;> simp [Datum.isNaN] at h <;> rfl
theorem quotient_nan (n : Nat) (a b : Datum) (h : a.isNaN = true ∨ b.isNaN = true) : a.quotient n b = none := by
  cases a <;> cases b <;> simp [Datum.isNaN] at h <;> rfl
theorem order_nan (a b : Datum) (h : a.isNaN = true ∨ b.isNaN = true) : a.order b = none := by
  cases a <;> cases b <;> simp [Datum.isNaN] at h <;> rfl

theorem isNaN_of (b : Nat) (h : nan b = true) : (double.read b).isNaN = true := by rw [read_of_nan b h]; rfl
theorem opp_isNaN (a : Datum) : a.opposite.isNaN = a.isNaN := by cases a <;> rfl

theorem nan_or {x y : Nat} (h : nan x = true ∨ nan y = true) : (double.read x).isNaN = true ∨ (double.read y).isNaN = true := by
  rcases h with h | h
  · exact Or.inl (isNaN_of _ h)
  · exact Or.inr (isNaN_of _ h)

theorem add_nan (x y : Nat) (h : nan x = true ∨ nan y = true) : double.add x y = none := by
  unfold Format.add; rw [sum_nan _ _ (nan_or h)]; rfl
theorem sub_nan (x y : Nat) (h : nan x = true ∨ nan y = true) : double.sub x y = none := by
  unfold Format.sub; rw [sum_nan _ _ (by rw [opp_isNaN]; exact nan_or h)]; rfl
theorem mul_nan (x y : Nat) (h : nan x = true ∨ nan y = true) : double.mul x y = none := by
  unfold Format.mul; rw [product_nan _ _ (nan_or h)]; rfl
theorem div_nan (x y : Nat) (h : nan x = true ∨ nan y = true) : double.div x y = none := by
  unfold Format.div; rw [quotient_nan _ _ _ (nan_or h)]; rfl
theorem ord_nan (x y : Nat) (h : nan x = true ∨ nan y = true) : double.order x y = none := by
  unfold Format.order; rw [order_nan _ _ (nan_or h)]

theorem two_float (op : Int) (ho : 36 ≤ op ∧ op ≤ 39) (x y : BitVec 64) :
    (two op x y).2 = 0 ∧ ((two op x y).1 = quiet ∨ nan (two op x y).1.toNat = false) ∧ (nan x.toNat = true ∨ nan y.toNat = true → (two op x y).1 = quiet) := by
  have h : op = 36 ∨ op = 37 ∨ op = 38 ∨ op = 39 := by omega
  rcases h with rfl | rfl | rfl | rfl
  · refine ⟨rfl, toldOpt_ok (double.add x.toNat y.toNat), fun h => ?_⟩
    show toldOpt (double.add x.toNat y.toNat) = quiet; rw [add_nan _ _ h]; rfl
  · refine ⟨rfl, toldOpt_ok (double.sub x.toNat y.toNat), fun h => ?_⟩
    show toldOpt (double.sub x.toNat y.toNat) = quiet; rw [sub_nan _ _ h]; rfl
  · refine ⟨rfl, toldOpt_ok (double.mul x.toNat y.toNat), fun h => ?_⟩
    show toldOpt (double.mul x.toNat y.toNat) = quiet; rw [mul_nan _ _ h]; rfl
  · refine ⟨rfl, toldOpt_ok (double.div x.toNat y.toNat), fun h => ?_⟩
    show toldOpt (double.div x.toNat y.toNat) = quiet; rw [div_nan _ _ h]; rfl

/-- The facts that a walk asks of a float's answer, and of an answer where an operand is no number. -/
theorem two_facts (op : Int) (ho : 36 ≤ op ∧ op ≤ 39) (x y : BitVec 64) :
    ((two op x y).2 != 0) = false ∧ ((nan (two op x y).1.toNat = true ∧ ((two op x y).1.toInt != 9221120237041090560) = false) ∨ nan (two op x y).1.toNat = false ∧ nan x.toNat = false ∧ nan y.toNat = false) := by
  obtain ⟨h1, h2, h3⟩ := two_float op ho x y
  refine ⟨by rw [h1]; rfl, ?_⟩
  have hq : (two op x y).1 = quiet → nan (two op x y).1.toNat = true ∧ ((two op x y).1.toInt != 9221120237041090560) = false := by
    intro h; rw [h]; exact ⟨nan_quiet, by decide⟩
  by_cases hn : nan x.toNat = true ∨ nan y.toNat = true
  · exact Or.inl (hq (h3 hn))
  · rcases h2 with h2 | h2
    · exact Or.inl (hq h2)
    · refine Or.inr ⟨h2, ?_, ?_⟩
      · cases h : nan x.toNat with
        | true => exact absurd (Or.inl h) hn
        | false => rfl
      · cases h : nan y.toNat with
        | true => exact absurd (Or.inr h) hn
        | false => rfl

theorem lt64 (x : BitVec 64) : x.toNat < 18446744073709551616 := by have := x.isLt; omega

theorem flip_nan (b : Nat) (h : b < 18446744073709551616) : flip b < 18446744073709551616 ∧ flip b % 9223372036854775808 = b % 9223372036854775808 := by
  unfold flip
  have e64 : (2 : Nat) ^ 64 = 18446744073709551616 := by decide
  have e63 : (2 : Nat) ^ 63 = 9223372036854775808 := by decide
  constructor
  · rw [← e64] at h ⊢
    exact Nat.xor_lt_two_pow h (by rw [e64]; omega)
  · have h1 := @Nat.xor_mod_two_pow b 9223372036854775808 63
    rw [e63] at h1
    rw [h1, show 9223372036854775808 % 9223372036854775808 = 0 from by omega, Nat.xor_zero]

theorem nan_mod (b c : Nat) (h : b % 9223372036854775808 = c % 9223372036854775808) : nan b = nan c := by
  unfold nan; rw [h]

theorem one42 (z : BitVec 64) : lOne 42 z = told (flip z.toNat) := by
  have eo : onei 42 z = (told (flip z.toNat), 0) := by
    unfold onei; rw [if_neg (by decide), if_neg (by decide), if_pos rfl]
  unfold lOne; rw [eo, if_pos rfl]

theorem flip_flip (x : BitVec 64) (h : nan x.toNat = false) : lOne 42 (lOne 42 x) = x := by
  have e : ∀ z : BitVec 64, nan z.toNat = false → lOne 42 z = BitVec.ofNat 64 (flip z.toNat) := by
    intro z hz
    rw [one42]
    unfold told; rw [nan_mod _ _ (flip_nan z.toNat (lt64 z)).2, hz, if_neg (by decide)]
  have h2 : (BitVec.ofNat 64 (flip x.toNat)).toNat = flip x.toNat := by
    have h3 := (flip_nan x.toNat (lt64 x)).1; rw [BitVec.toNat_ofNat]; omega
  rw [e x h, e _ (by rw [h2, nan_mod _ _ (flip_nan x.toNat (lt64 x)).2, h]), h2]
  unfold flip
  rw [Nat.xor_assoc, Nat.xor_self, Nat.xor_zero]; simp

theorem flip_quiet (x : BitVec 64) (h : nan x.toNat = true) : lOne 42 x = quiet := by
  rw [one42]
  unfold told; rw [nan_mod _ _ (flip_nan x.toNat (lt64 x)).2, h, if_pos rfl]

theorem root_quiet (x : BitVec 64) (h : nan x.toNat = true) : lOne 43 x = quiet := by
  show toldOpt (double.sqrt x.toNat) = _
  unfold Format.sqrt; rw [read_of_nan _ h]; rfl

theorem toI_quiet (x : BitVec 64) (h : nan x.toNat = true) : (onei 45 x).2 = 6 := by
  show (toI x.toNat).2 = 6
  unfold toI; rw [if_pos (Or.inl h)]

/-- A root that is no number is one of a number below 0. -/
theorem root_neg (x : BitVec 64) (h : nan x.toNat = false) (hq : lOne 43 x = quiet) : ltwo 41 x 0#64 = 1#64 := by
  have e : ltwo 41 x 0#64 = one (double.order x.toNat 0 == some .lt) := rfl
  have hlt : rank x.toNat < 0 := by
    apply Int.not_le.1
    intro hr
    have hq' : toldOpt (double.sqrt x.toNat) = quiet := hq
    have key : ∃ r, double.sqrt x.toNat = some r ∧ r % 9223372036854775808 ≤ 9218868437227405312 := by
      have hle : x.toNat % 9223372036854775808 ≤ 9218868437227405312 := by unfold nan at h; simpa using h
      have hw : ∀ d : Datum, d.isNaN = false → double.write d % 9223372036854775808 ≤ 9218868437227405312 := by
        intro d hd
        have hword : ∀ (s : Bool) (r : Nat), r ≤ 9218868437227405312 → double.word s r % 9223372036854775808 ≤ 9218868437227405312 := by
          intro s r hr
          unfold Format.word; rw [d_sign]; split <;> omega
        cases d with
        | nan => simp [Datum.isNaN] at hd
        | infinity s => exact hword _ _ (by rw [d_inf]; omega)
        | number s m p =>
          show double.nearest s m p % _ ≤ _
          unfold Format.nearest; dsimp only
          split
          · exact hword _ _ (by omega)
          · exact hword _ _ (by rw [← d_inf]; exact Nat.min_le_right _ _)
      have hroot : ∃ d, (double.read x.toNat).root 54 = some d ∧ d.isNaN = false := by
        rcases Nat.lt_or_eq_of_le hle with h1 | h1
        · rw [read_num _ h1]
          unfold rank at hr
          unfold Datum.root; dsimp only
          split
          · exact ⟨_, rfl, rfl⟩
          · rename_i hm
            by_cases hs : ng x.toNat = true
            · rw [if_pos hs] at hr
              have hz : x.toNat % 9223372036854775808 = 0 := by omega
              exact absurd (by rw [hz]; rfl) hm
            · rw [if_neg hs]; exact ⟨_, rfl, rfl⟩
        · rw [read_inf _ h1]
          unfold rank at hr
          by_cases hs : ng x.toNat = true
          · rw [if_pos hs, h1] at hr; omega
          · have hs : ng x.toNat = false := by simpa using hs
            rw [hs]; exact ⟨_, rfl, rfl⟩
      obtain ⟨d, hd, hn⟩ := hroot
      refine ⟨double.write d, ?_, hw d hn⟩
      unfold Format.sqrt
      rw [show double.fractionBits + 2 = 54 from rfl, hd]; rfl
    obtain ⟨r, hr1, hr2⟩ := key
    rw [hr1] at hq'
    have h3 : nan r = false := by unfold nan; simpa using hr2
    have h4 := nan_quiet
    rw [← hq'] at h4
    have h5 : toldOpt (some r) = BitVec.ofNat 64 r := by
      show told r = _; unfold told; rw [h3]; rfl
    rw [h5, BitVec.toNat_ofNat, nan_mod (r % 2 ^ 64) r (by omega), h3] at h4
    cases h4
  rw [e, order_rank _ _ h (by decide), cmp_lt (by rw [show rank 0 = 0 from by decide]; exact hlt)]; rfl

end Go.Proofs.Ytdjenhbglkcapaa.CW
