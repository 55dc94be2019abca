/-
  Walks of the helpers of package retortlaw10 (head, two, one, within, nearer) and of retortref10's Nan, power, Float: what each call returns. Conditions: as each theorem states.
-/
import Derived.Test.YtdjenhbglkcapaaCellTwo
import Derived.Test.YtdjenhbglkcapaaCellOne
namespace Go.Proofs.Ytdjenhbglkcapaa.CW
open Go.RowKit
set_option linter.unusedSimpArgs false
set_option linter.unusedVariables false

theorem Drew.refl (w : World) : Drew w w := ⟨0, rfl⟩
theorem Drew.trans {a b c : World} (h : Drew a b) (g : Drew b c) : Drew a c := by
  obtain ⟨n, rfl⟩ := h; obtain ⟨m, rfl⟩ := g; exact ⟨n + m, by simp⟩
theorem Drew.grown {w w' : World} (h : Drew w w') : Grown w w' := by
  obtain ⟨n, rfl⟩ := h; exact Grown.refl w

theorem head_true (w : World) : Calls Try.prog 14 #[] w fun e w' => e = .returned (.bool true) ∧ Drew w w' := by
  have c1 : ∀ w, Calls Try.prog 18 #[.int .i64 20, .int .i64 3, .int .i64 4] w (fun e w' => e = .returned (.tuple #[.int .i64 7, .int .i64 0]) ∧ Drew w w') := fun w => two_20 3#64 4#64 w
  have c2 : ∀ w, Calls Try.prog 18 #[.int .i64 23, .int .i64 1, .int .i64 0] w (fun e w' => e = .returned (.tuple #[.int .i64 0, .int .i64 5]) ∧ Drew w w') := fun w => two_23 1#64 0#64 w
  have c3 : ∀ w, Calls Try.prog 21 #[.int .i64 44, .int .i64 1] w (fun e w' => e = .returned (.tuple #[.int .i64 4607182418800017408, .int .i64 0]) ∧ Drew w w') := by
    intro w
    have h := one_44 1#64 w
    have e1 : (onei 44 1#64).1.toInt = 4607182418800017408 := by decide +kernel
    have e2 : (onei 44 1#64).2 = 0 := by decide +kernel
    rw [e1, e2] at h; exact h
  have H1 := Lib.hid c1; have H2 := Lib.hid c2; have H3 := Lib.hid c3
  clear c1 c2 c3
  go_enter Try.func14, Try.ntmps14
  go_wp2_with fail
  refine (H1.out _).mono ?_
  rintro e w' ⟨rfl, n1, rfl⟩
  go_wp2_with fail
  refine (H2.out _).mono ?_
  rintro e w' ⟨rfl, n2, rfl⟩
  go_wp2_with fail
  refine (H3.out _).mono ?_
  rintro e w' ⟨rfl, n3, rfl⟩
  go_wp2_with fail
  go_ret
  exact ⟨rfl, _, rfl⟩

/-- retortlaw10.two: the word, or -12345 where it traps. -/
def ltwo (op : Int) (x y : BitVec 64) : BitVec 64 := if (two op x y).2 = 0 then (two op x y).1 else BitVec.ofInt 64 (-12345)
def lOne (op : Int) (x : BitVec 64) : BitVec 64 := if (onei op x).2 = 0 then (onei op x).1 else BitVec.ofInt 64 (-12345)

theorem ltwo_any (op : Int) (x y : BitVec 64) (w : World) : Calls Try.prog 16 #[.int .i64 op, .int .i64 x.toInt, .int .i64 y.toInt] w fun e w' => e = .returned (.int .i64 (ltwo op x y).toInt) ∧ Drew w w' := by
  unfold ltwo
  have H := Lib.hid (two_any op x y)
  generalize two op x y = p at *
  obtain ⟨v, t⟩ := p
  by_cases ht : t = 0
  · subst ht
    rw [if_pos rfl]
    go_enter Try.func16, Try.ntmps16
    go_wp2_with (go_at_call 18; refine (H.out _).mono ?_; rintro e w' ⟨rfl, n, rfl⟩)
    go_ret
    exact ⟨rfl, n, rfl⟩
  · rw [if_neg ht]
    have hb : (t != 0) = true := by simpa using ht
    clear ht
    go_enter Try.func16, Try.ntmps16
    go_wp2_with (go_at_call 18; refine (H.out _).mono ?_; rintro e w' ⟨rfl, n, rfl⟩)
    go_ret
    exact ⟨rfl, n, rfl⟩

theorem lone_any (op : Int) (x : BitVec 64) (w : World) : Calls Try.prog 17 #[.int .i64 op, .int .i64 x.toInt] w fun e w' => e = .returned (.int .i64 (lOne op x).toInt) ∧ Drew w w' := by
  unfold lOne
  have H := Lib.hid (one_any op x)
  generalize onei op x = p at *
  obtain ⟨v, t⟩ := p
  by_cases ht : t = 0
  · subst ht
    rw [if_pos rfl]
    go_enter Try.func17, Try.ntmps17
    go_wp2_with (go_at_call 21; refine (H.out _).mono ?_; rintro e w' ⟨rfl, n, rfl⟩)
    go_ret
    exact ⟨rfl, n, rfl⟩
  · rw [if_neg ht]
    have hb : (t != 0) = true := by simpa using ht
    clear ht
    go_enter Try.func17, Try.ntmps17
    go_wp2_with (go_at_call 21; refine (H.out _).mono ?_; rintro e w' ⟨rfl, n, rfl⟩)
    go_ret
    exact ⟨rfl, n, rfl⟩

theorem rfloat_any (x : BitVec 64) (w : World) : Calls Try.prog 15 #[.int .i64 x.toInt] w fun e w' => e = .returned (.float .f64 x.toNat) ∧ w = w' := by
  have h := fun w => run_frombits_word x w
  go_enter Try.func15, Try.ntmps15
  go_wp2
  go_ret
  exact ⟨rfl, rfl⟩

theorem power_any (x : BitVec 64) (w : World) : Calls Try.prog 29 #[.int .i64 x.toInt] w fun e w' => e = .returned (.tuple #[.int .i64 ((x.toNat / 4503599627370496 % 2048 : Nat) : Int), .int .i64 ((x.toNat % 4503599627370496 : Nat) : Int)]) ∧ w = w' := by
  have h1 := w_power x
  have h2 := w_frac x
  have H1 := Lib.hid h1; have H2 := Lib.hid h2
  clear h1 h2
  go_enter Try.func29, Try.ntmps29
  go_wp2
  go_ret2
  exact ⟨ret_two H1.out H2.out, rfl⟩

theorem nan_any (x : BitVec 64) (w : World) : Calls Try.prog 12 #[.int .i64 x.toInt] w fun e w' => e = .returned (.bool (nan x.toNat)) ∧ w = w' := by
  have hx := x.isLt
  by_cases hp : x.toNat / 4503599627370496 % 2048 = 2047
  · have g : (((x.toNat / 4503599627370496 % 2048 : Nat) : Int) == 2047) = true := by rw [hp]; rfl
    have hn : nan x.toNat = (((x.toNat % 4503599627370496 : Nat) : Int) != 0) := by
      unfold nan; rw [Bool.eq_iff_iff]; simp only [decide_eq_true_eq, bne_iff_ne]; omega
    rw [hn]; clear hn hp hx
    have H := Lib.hid (power_any x)
    generalize x.toNat / 4503599627370496 % 2048 = p at *
    generalize x.toNat % 4503599627370496 = m at *
    go_enter Try.func12, Try.ntmps12
    go_wp2_with (go_at_call 29; refine (H.out _).mono ?_; rintro e w' ⟨rfl, rfl⟩)
    go_ret
    exact ⟨rfl, rfl⟩
  · have g : (((x.toNat / 4503599627370496 % 2048 : Nat) : Int) == 2047) = false := by rw [beq_eq_false_iff_ne]; omega
    have hn : nan x.toNat = false := by
      unfold nan; simp only [decide_eq_false_iff_not]; omega
    rw [hn]; clear hn hp hx
    have H := Lib.hid (power_any x)
    generalize x.toNat / 4503599627370496 % 2048 = p at *
    generalize x.toNat % 4503599627370496 = m at *
    go_enter Try.func12, Try.ntmps12
    go_wp2_with (go_at_call 29; refine (H.out _).mono ?_; rintro e w' ⟨rfl, rfl⟩)
    go_ret
    exact ⟨rfl, rfl⟩
end Go.Proofs.Ytdjenhbglkcapaa.CW
