/-
  Walks of the small functions of packages cell and retortref10: each call returns what the plain words of CellWords say. Conditions: as each theorem states.
-/
import Derived.Test.YtdjenhbglkcapaaProg
import Derived.Test.YtdjenhbglkcapaaCellWords
import Derived.WalkKit
import Derived.WalkLawsBesides
import Derived.RowKit3
import Derived.Deep.Draws
import Derived.Lib.Hide
namespace Go.Proofs.Ytdjenhbglkcapaa.CW
open Go.RowKit
set_option linter.unusedSimpArgs false
set_option linter.unusedVariables false

/-- The bits of a float that is no number, out of the tape's answer. -/
def nanWord (t : Nat) : Nat := (t % 2) * 9223372036854775808 + 9218868437227405312 + 1 + (t / 2) % 4503599627370495

theorem nan_nanWord (t : Nat) : nan (nanWord t) = true := by
  unfold nan nanWord; simp only [decide_eq_true_eq]
  have h1 : t % 2 < 2 := by omega
  have h2 : (t / 2) % 4503599627370495 < 4503599627370495 := by omega
  generalize t % 2 = k at *; generalize (t / 2) % 4503599627370495 = m at *; omega

theorem told_nanWord (t : Nat) : told (nanWord t) = quiet := by
  unfold told; rw [nan_nanWord]; rfl

theorem run_frombits (n : Int) (w : World) : (callFunc 28 #[.int .u64 n]).run Try.prog w = .ok (.value (.float .f64 n.toNat)) w := by
  rw [run_callFunc_extern Try.func28 (by kernel_rfl) (by kernel_rfl) (by kernel_rfl) (by kernel_rfl : _ = some Extern.MathFloatBits.float64frombits)]; rfl

theorem run_frombits_word (x : BitVec 64) (w : World) : (callFunc 28 #[.int .u64 (IntKind.u64.wrap x.toInt)]).run Try.prog w = .ok (.value (.float .f64 x.toNat)) w := by
  rw [run_frombits]
  have : (IntKind.u64.wrap x.toInt).toNat = x.toNat := by
    rw [IntKind.wrap_u64, BitVec.toInt_eq_toNat_cond]; have := x.isLt; split <;> omega
  rw [this]

theorem run_bits (b : Nat) (w : World) : (callFunc 31 #[.float .f64 b]).run Try.prog w = .ok (.value (.int .u64 b)) w := by
  rw [run_callFunc_extern Try.func31 (by kernel_rfl) (by kernel_rfl) (by kernel_rfl) (by kernel_rfl : _ = some Extern.MathFloatBits.float64bits)]; rfl

theorem sqrt_is (b : Nat) : Extern.MathSqrt.sqrt #[.float .f64 b] = (match Ieee.double.sqrt b with | some r => pure (.float .f64 r) | none => do pure (.float .f64 (← choose (.nanBits .f64 b b)))) := rfl

theorem run_sqrt_some (b r : Nat) (h : Ieee.double.sqrt b = some r) (w : World) : (callFunc 44 #[.float .f64 b]).run Try.prog w = .ok (.value (.float .f64 r)) w := by
  rw [run_callFunc_extern Try.func44 (by kernel_rfl) (by kernel_rfl) (by kernel_rfl) (by kernel_rfl : _ = some Extern.MathSqrt.sqrt)]
  rw [sqrt_is, h]; rfl

theorem run_sqrt_none (b : Nat) (h : Ieee.double.sqrt b = none) (w : World) : (callFunc 44 #[.float .f64 b]).run Try.prog w = .ok (.value (.float .f64 (nanWord (w.tape w.drawn (.nanBits .f64 b b))))) w.drew := by
  rw [run_callFunc_extern Try.func44 (by kernel_rfl) (by kernel_rfl) (by kernel_rfl) (by kernel_rfl : _ = some Extern.MathSqrt.sqrt)]
  rw [sqrt_is, h]; rfl

theorem run_arith_some (op : BinOp) (t : TypeId) (x y r : Nat) (h : floatBits op .f64 x y = some r) (w : World) :
    (binOp op t (.float .f64 x) (.float .f64 y)).run Try.prog w = .ok (.float .f64 r) w := run_float_arith w op t .f64 x y r h

theorem run_arith_none (op : BinOp) (t : TypeId) (x y : Nat) (ho : op = .add ∨ op = .sub ∨ op = .mul ∨ op = .quo) (h : floatBits op .f64 x y = none) (w : World) :
    (binOp op t (.float .f64 x) (.float .f64 y)).run Try.prog w = .ok (.float .f64 (nanWord (w.tape w.drawn (.nanBits .f64 x y)))) w.drew := by
  unfold floatBits at h
  rcases ho with rfl | rfl | rfl | rfl
  all_goals
    simp only at h
    simp only [binOp, Op.floatArith, h]; rfl

theorem ret_int {k : IntKind} {a b : Int} (h : a = b) : Ending.returned (.int k a) = .returned (.int k b) := by rw [h]
theorem ret_two {k q : IntKind} {a b c d : Int} (h : a = b) (g : c = d) : Ending.returned (.tuple #[.int k a, .int q c]) = .returned (.tuple #[.int k b, .int q d]) := by rw [h, g]

theorem truth_any (b : Bool) (w : World) : Calls Try.prog 32 #[.bool b] w fun e w' => e = .returned (.int .i64 (one b).toInt) ∧ w = w' := by
  cases b
  all_goals
    go_enter Try.func32, Try.ntmps32
    go_wp2
    go_ret
    exact ⟨rfl, rfl⟩

theorem float_any (x : BitVec 64) (w : World) : Calls Try.prog 11 #[.int .i64 x.toInt] w fun e w' => e = .returned (.float .f64 x.toNat) ∧ w = w' := by
  have h := fun w => run_frombits_word x w
  go_enter Try.func11, Try.ntmps11
  go_wp2
  go_ret
  exact ⟨rfl, rfl⟩

theorem order_self (b : Nat) : (FloatKind.f64.format.order b b != some Ordering.eq) = nan b := by
  show (Ieee.double.order b b != some Ordering.eq) = nan b
  unfold Ieee.Format.order Ieee.Format.read nan
  simp only [show Ieee.double.signWeight = 9223372036854775808 from by decide, show Ieee.double.binade = 4503599627370496 from by decide, show Ieee.double.infRung = 9218868437227405312 from by decide]
  split
  · rename_i h; rw [Bool.eq_iff_iff]; simp [Ieee.Datum.order]; omega
  · split
    · rename_i h; rw [Bool.eq_iff_iff]; simp [Ieee.Datum.order]; omega
    · split
      · rename_i h; rw [Bool.eq_iff_iff]; simp [Ieee.Datum.order]; omega
      · rename_i h; rw [Bool.eq_iff_iff]; simp [Ieee.Datum.order]; omega

theorem isnan_any (b : Nat) (w : World) : Calls Try.prog 30 #[.float .f64 b] w fun e w' => e = .returned (.bool (nan b)) ∧ w = w' := by
  go_enter Try.func30, Try.ntmps30
  go_wp2
  go_ret
  exact ⟨by rw [← order_self b]; rfl, rfl⟩

theorem word_any (b : Nat) (w : World) : Calls Try.prog 13 #[.float .f64 b] w fun e w' => e = .returned (.int .i64 (told b).toInt) ∧ w = w' := by
  have h := fun w => run_bits b w
  by_cases hn : nan b = true
  · go_enter Try.func13, Try.ntmps13
    go_wp2_with (go_at_call 30; refine (isnan_any _ _).mono ?_; rintro e w' ⟨rfl, rfl⟩)
    go_ret
    exact ⟨by unfold told; rw [hn]; rfl, rfl⟩
  · have hn : nan b = false := by simpa using hn
    go_enter Try.func13, Try.ntmps13
    go_wp2_with (go_at_call 30; refine (isnan_any _ _).mono ?_; rintro e w' ⟨rfl, rfl⟩)
    go_ret
    exact ⟨ret_int (by unfold told; rw [hn, if_neg (by decide), toInt_ofNat]), rfl⟩

/-- A tie of the world: draws alone. -/
def Drew (w w' : World) : Prop := ∃ n, w' = w.drewN n

def FloatsSaid (op : Int) : Prop := ∀ (x y : Nat) (w : World), Calls Try.prog 33 #[.int .i64 op, .float .f64 x, .float .f64 y] w fun e w' => e = .returned (.tuple #[.int .i64 (floats op x y).1.toInt, .int .i64 (floats op x y).2]) ∧ Drew w w'

theorem floats_36 : FloatsSaid 36 := by
    intro x y w
    cases hr : floatBits .add .f64 x y with
    | some r =>
      have h := fun t w => run_arith_some .add t x y r hr w
      go_enter Try.func33, Try.ntmps33
      go_wp2_with (go_at_call 13; refine (word_any _ _).mono ?_; rintro e w' ⟨rfl, rfl⟩)
      go_ret2
      exact ⟨ret_two (by have hr' : Ieee.double.add x y = some r := hr
                         show (told r).toInt = (toldOpt (Ieee.double.add x y)).toInt
                         rw [hr']; rfl) rfl, 0, rfl⟩
    | none => 
      have h := fun t w => run_arith_none .add t x y (by simp) hr w
      go_enter Try.func33, Try.ntmps33
      go_wp2_with (go_at_call 13; refine (word_any _ _).mono ?_; rintro e w' ⟨rfl, rfl⟩)
      go_ret2
      exact ⟨ret_two (by have hr' : Ieee.double.add x y = none := hr
                         show (told (nanWord _)).toInt = (toldOpt (Ieee.double.add x y)).toInt
                         rw [hr', told_nanWord]; rfl) rfl, 1, rfl⟩

theorem floats_37 : FloatsSaid 37 := by
    intro x y w
    cases hr : floatBits .sub .f64 x y with
    | some r =>
      have h := fun t w => run_arith_some .sub t x y r hr w
      go_enter Try.func33, Try.ntmps33
      go_wp2_with (go_at_call 13; refine (word_any _ _).mono ?_; rintro e w' ⟨rfl, rfl⟩)
      go_ret2
      exact ⟨ret_two (by have hr' : Ieee.double.sub x y = some r := hr
                         show (told r).toInt = (toldOpt (Ieee.double.sub x y)).toInt
                         rw [hr']; rfl) rfl, 0, rfl⟩
    | none => 
      have h := fun t w => run_arith_none .sub t x y (by simp) hr w
      go_enter Try.func33, Try.ntmps33
      go_wp2_with (go_at_call 13; refine (word_any _ _).mono ?_; rintro e w' ⟨rfl, rfl⟩)
      go_ret2
      exact ⟨ret_two (by have hr' : Ieee.double.sub x y = none := hr
                         show (told (nanWord _)).toInt = (toldOpt (Ieee.double.sub x y)).toInt
                         rw [hr', told_nanWord]; rfl) rfl, 1, rfl⟩

theorem floats_38 : FloatsSaid 38 := by
    intro x y w
    cases hr : floatBits .mul .f64 x y with
    | some r =>
      have h := fun t w => run_arith_some .mul t x y r hr w
      go_enter Try.func33, Try.ntmps33
      go_wp2_with (go_at_call 13; refine (word_any _ _).mono ?_; rintro e w' ⟨rfl, rfl⟩)
      go_ret2
      exact ⟨ret_two (by have hr' : Ieee.double.mul x y = some r := hr
                         show (told r).toInt = (toldOpt (Ieee.double.mul x y)).toInt
                         rw [hr']; rfl) rfl, 0, rfl⟩
    | none => 
      have h := fun t w => run_arith_none .mul t x y (by simp) hr w
      go_enter Try.func33, Try.ntmps33
      go_wp2_with (go_at_call 13; refine (word_any _ _).mono ?_; rintro e w' ⟨rfl, rfl⟩)
      go_ret2
      exact ⟨ret_two (by have hr' : Ieee.double.mul x y = none := hr
                         show (told (nanWord _)).toInt = (toldOpt (Ieee.double.mul x y)).toInt
                         rw [hr', told_nanWord]; rfl) rfl, 1, rfl⟩

theorem floats_39 : FloatsSaid 39 := by
    intro x y w
    cases hr : floatBits .quo .f64 x y with
    | some r =>
      have h := fun t w => run_arith_some .quo t x y r hr w
      go_enter Try.func33, Try.ntmps33
      go_wp2_with (go_at_call 13; refine (word_any _ _).mono ?_; rintro e w' ⟨rfl, rfl⟩)
      go_ret2
      exact ⟨ret_two (by have hr' : Ieee.double.div x y = some r := hr
                         show (told r).toInt = (toldOpt (Ieee.double.div x y)).toInt
                         rw [hr']; rfl) rfl, 0, rfl⟩
    | none => 
      have h := fun t w => run_arith_none .quo t x y (by simp) hr w
      go_enter Try.func33, Try.ntmps33
      go_wp2_with (go_at_call 13; refine (word_any _ _).mono ?_; rintro e w' ⟨rfl, rfl⟩)
      go_ret2
      exact ⟨ret_two (by have hr' : Ieee.double.div x y = none := hr
                         show (told (nanWord _)).toInt = (toldOpt (Ieee.double.div x y)).toInt
                         rw [hr', told_nanWord]; rfl) rfl, 1, rfl⟩

theorem floats_40 : FloatsSaid 40 := by
      intro x y w
      go_enter Try.func33, Try.ntmps33
      go_wp2_with (go_at_call 32; refine (truth_any _ _).mono ?_; rintro e w' ⟨rfl, rfl⟩)
      go_ret2
      exact ⟨ret_two rfl rfl, 0, rfl⟩

theorem floats_41 : FloatsSaid 41 := by
      intro x y w
      go_enter Try.func33, Try.ntmps33
      go_wp2_with (go_at_call 32; refine (truth_any _ _).mono ?_; rintro e w' ⟨rfl, rfl⟩)
      go_ret2
      exact ⟨ret_two rfl rfl, 0, rfl⟩

theorem floats_any (op : Int) : FloatsSaid op := by
  by_cases h36 : op = 36
  · subst h36; exact floats_36
  by_cases h37 : op = 37
  · subst h37; exact floats_37
  by_cases h38 : op = 38
  · subst h38; exact floats_38
  by_cases h39 : op = 39
  · subst h39; exact floats_39
  by_cases h40 : op = 40
  · subst h40; exact floats_40
  by_cases h41 : op = 41
  · subst h41; exact floats_41
  intro x y w
  have e1 : (op == 36) = false := beq_eq_false_iff_ne.2 h36
  have e2 : (op == 37) = false := beq_eq_false_iff_ne.2 h37
  have e3 : (op == 38) = false := beq_eq_false_iff_ne.2 h38
  have e4 : (op == 39) = false := beq_eq_false_iff_ne.2 h39
  have e5 : (op == 40) = false := beq_eq_false_iff_ne.2 h40
  have e6 : (op == 41) = false := beq_eq_false_iff_ne.2 h41
  have hf : floats op x y = (0#64, 8) := by simp [floats, h36, h37, h38, h39, h40, h41]
  rw [hf]
  clear hf h36 h37 h38 h39 h40 h41
  go_enter Try.func33, Try.ntmps33
  go_wp2
  go_ret2
  exact ⟨ret_two rfl rfl, 0, rfl⟩

end Go.Proofs.Ytdjenhbglkcapaa.CW
