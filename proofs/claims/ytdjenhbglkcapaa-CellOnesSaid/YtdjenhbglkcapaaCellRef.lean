/-
  Walks of package retortref10 (the document's words): each call returns what the plain words of CellWords and CellFloat say; so the same as package cell. Conditions: as each theorem states.
-/
import Derived.Test.YtdjenhbglkcapaaCellExactW
namespace Go.Proofs.Ytdjenhbglkcapaa.CW
open Go.RowKit
set_option linter.unusedSimpArgs false
set_option linter.unusedVariables false

theorem rank_is (z : BitVec 64) : rank z.toNat = if z.toInt < 0 then wrap64 (-9223372036854775808 - z.toInt) else z.toInt := by
  have hz := z.isLt
  have h1 : ng z.toNat = decide (z.toInt < 0) := by
    unfold ng; rw [Bool.eq_iff_iff, BitVec.toInt_eq_toNat_cond]; simp only [beq_iff_eq, decide_eq_true_eq]; split <;> omega
  unfold rank wrap64
  rw [h1]
  by_cases hs : z.toInt < 0
  · rw [if_pos hs, if_pos (by simpa using hs)]
    rw [BitVec.toInt_eq_toNat_cond] at *; split at * <;> omega
  · rw [if_neg hs, if_neg (by simpa using hs)]
    rw [BitVec.toInt_eq_toNat_cond] at *; split at * <;> omega

theorem rone_any (b : Bool) (w : World) : Calls Try.prog 37 #[.bool b] w fun e w' => e = .returned (.int .i64 (one b).toInt) ∧ w = w' := by
  cases b
  all_goals
    go_enter Try.func37, Try.ntmps37
    go_wp2
    go_ret
    exact ⟨rfl, rfl⟩

theorem rrank_any (x : BitVec 64) (w : World) : Calls Try.prog 45 #[.int .i64 x.toInt] w fun e w' => e = .returned (.int .i64 (rank x.toNat)) ∧ w = w' := by
  rw [rank_is]
  by_cases h : x.toInt < 0
  · rw [if_pos h]
    go_enter Try.func45, Try.ntmps45
    go_wp2
    go_ret
    exact ⟨rfl, rfl⟩
  · rw [if_neg h]
    go_enter Try.func45, Try.ntmps45
    go_wp2
    go_ret
    exact ⟨rfl, rfl⟩

theorem rword_any (b : Nat) (w : World) : Calls Try.prog 41 #[.float .f64 b] w fun e w' => e = .returned (.int .i64 (told b).toInt) ∧ w = w' := by
  have h := fun w => run_bits b w
  have hn : nan (BitVec.ofNat 64 b).toNat = nan b := by
    rw [BitVec.toNat_ofNat]; exact nan_mod _ _ (by omega)
  have hw : wrap64 (b : Int) = (BitVec.ofNat 64 b).toInt := (toInt_ofNat b).symm
  have ht : told b = if nan b = true then quiet else BitVec.ofNat 64 b := rfl
  rw [← hn] at ht
  rw [ht]
  clear hn ht
  generalize BitVec.ofNat 64 b = z at *
  cases nz : nan z.toNat with
  | true =>
    go_enter Try.func41, Try.ntmps41
    go_wp2_with (go_at_call 12; refine (nan_any _ _).mono ?_; rintro e w' ⟨rfl, rfl⟩)
    go_ret
    exact ⟨rfl, rfl⟩
  | false =>
    go_enter Try.func41, Try.ntmps41
    go_wp2_with (go_at_call 12; refine (nan_any _ _).mono ?_; rintro e w' ⟨rfl, rfl⟩)
    go_ret
    exact ⟨rfl, rfl⟩

theorem below_any (x y : BitVec 64) (w : World) : Calls Try.prog 38 #[.int .i64 x.toInt, .int .i64 y.toInt] w fun e w' => e = .returned (.bool (x.ult y)) ∧ w = w' := by
  have h1 : x.ult y = if x.toInt < 0 then (if y.toInt < 0 then decide (x.toInt < y.toInt) else false) else (if y.toInt < 0 then true else decide (x.toInt < y.toInt)) := by
    unfold BitVec.ult
    have := x.isLt; have := y.isLt
    rw [BitVec.toInt_eq_toNat_cond, BitVec.toInt_eq_toNat_cond, Bool.eq_iff_iff]
    split <;> split <;> split <;> split <;> simp <;> omega
  rw [h1]
  by_cases s1 : x.toInt < 0 <;> by_cases s2 : y.toInt < 0
  all_goals
    simp only [s1, s2, if_true, if_false]
    go_enter Try.func38, Try.ntmps38
    go_wp2
    go_ret
    exact ⟨by first | rfl | simp [s2], rfl⟩

theorem quo_neg (x : BitVec 64) : x.sdiv (BitVec.allOnes 64) = -x := by
  apply BitVec.eq_of_toInt_eq
  rw [← w_quo, ← w_neg, show (BitVec.allOnes 64).toInt = -1 from by decide, Int.tdiv_neg, Int.tdiv_one]

theorem rem_is (x y : BitVec 64) : x - y * x.sdiv y = x.srem y := by
  have h := div_mod x y
  rw [BitVec.mul_comm y]
  have h2 : x - x.sdiv y * y = (x.sdiv y * y + x.srem y) - x.sdiv y * y := by rw [h]
  rw [h2, BitVec.add_comm, BitVec.add_sub_cancel]

theorem divided_any (op : Int) (ho : op = 23 ∨ op = 24) (x y : BitVec 64) (w : World) : Calls Try.prog 35 #[.int .i64 op, .int .i64 x.toInt, .int .i64 y.toInt] w fun e w' => e = .returned (.tuple #[.int .i64 (two op x y).1.toInt, .int .i64 (two op x y).2]) ∧ w = w' := by
  by_cases hy : y = 0#64
  · subst hy
    have ht : two op x 0#64 = (0#64, 5) := by rcases ho with rfl | rfl <;> rfl
    rw [ht, show (0#64).toInt = 0 from rfl]
    go_enter Try.func35, Try.ntmps35
    go_wp2
    go_ret2
    exact ⟨ret_two rfl rfl, rfl⟩
  · have g0 : (y.toInt == 0) = false := by
      rw [beq_eq_false_iff_ne]; intro h; exact hy (BitVec.toInt_inj.1 (by rw [h]; rfl))
    have e1 : two 23 x y = (x.sdiv y, 0) := by show (if y = 0#64 then _ else _) = _; rw [if_neg hy]
    have e2 : two 24 x y = (x - y * x.sdiv y, 0) := by rw [rem_is]; show (if y = 0#64 then _ else _) = _; rw [if_neg hy]
    have k1 : wrap64 (y.toInt * (x.sdiv y).toInt) = (y * x.sdiv y).toInt := w_mul _ _
    have k2 : wrap64 (x.toInt - (y * x.sdiv y).toInt) = (x - y * x.sdiv y).toInt := w_sub _ _
    by_cases hm : y = BitVec.allOnes 64
    · have g1 : (y.toInt != -1) = false := by rw [hm]; decide
      have k3 : wrap64 (-x.toInt) = (x.sdiv y).toInt := by rw [hm, quo_neg]; exact w_neg x
      clear hm hy
      rcases ho with rfl | rfl
      · rw [e1]; clear e1 e2
        generalize x.sdiv y = q at *
        have K3 := Lib.hid k3
        clear k1 k2 k3
        go_enter Try.func35, Try.ntmps35
        go_wp2
        go_ret2
        exact ⟨ret_two K3.out rfl, rfl⟩
      · rw [e2]; clear e1 e2
        generalize x.sdiv y = q at *
        generalize y * q = m at *
        generalize x - m = r at *
        go_enter Try.func35, Try.ntmps35
        go_wp2
        go_ret2
        exact ⟨ret_two k2 rfl, rfl⟩
    · have g1 : (y.toInt != -1) = true := by
        rw [bne_iff_ne]; intro h; exact hm (BitVec.toInt_inj.1 (by rw [h]; decide))
      have hne : y.toInt ≠ 0 := beq_eq_false_iff_ne.1 g0
      have k3 : wrap64 (x.toInt.tdiv y.toInt) = (x.sdiv y).toInt := w_quo x y
      clear hm hy
      rcases ho with rfl | rfl
      · rw [e1]; clear e1 e2
        generalize x.sdiv y = q at *
        clear k1 k2
        go_enter Try.func35, Try.ntmps35
        go_wp2
        go_ret2
        exact ⟨ret_two k3 rfl, rfl⟩
      · rw [e2]; clear e1 e2
        generalize x.sdiv y = q at *
        generalize y * q = m at *
        generalize x - m = r at *
        go_enter Try.func35, Try.ntmps35
        go_wp2
        go_ret2
        exact ⟨ret_two k2 rfl, rfl⟩

/-! ### Bits moved one place after the other -/

theorem moved_up (op x : Int) (m : Nat) (hm : m < 64) (ho : (op == 28) = true) (f : Nat → BitVec 64) (hf : x = (f 0).toInt)
    (hstep : ∀ k, wrap64 ((f k).toInt + (f k).toInt) = (f (k + 1)).toInt) (w : World) :
    Calls Try.prog 36 #[.int .i64 op, .int .i64 x, .int .i64 m] w fun e w' => e = .returned (.int .i64 (f m).toInt) ∧ w = w' := by
  have HS := Lib.hid hstep
  have HF := Lib.hid hf
  clear hstep hf
  go_enter Try.func36, Try.ntmps36
  go_wp2
  go_loop [1, 7] (fun a i => ∃ k : Nat, k ≤ m ∧ i = .int .i64 k ∧ a = .int .i64 (f k).toInt) (fun _ i => m - (intOf i).toNat)
  case atStart => exact ⟨0, Nat.zero_le _, rfl, by rw [HF.out]⟩
  case round =>
    obtain ⟨k, hk, rfl, rfl⟩ := hrel
    by_cases hlt : k < m
    · go_wp2
      go_round
      case rel => exact ⟨k + 1, by omega, by go_num, by rw [HS.out]⟩
      case measure => simp [intOf]; omega
    · have : k = m := by omega
      subst this
      go_wp2
      go_ret
      exact ⟨rfl, rfl⟩

theorem moved_down (op x : Int) (m : Nat) (hm : m < 64) (h0 : (op == 28) = false) (ho : (op == 29) = true) (f : Nat → BitVec 64) (hf : x = (f 0).toInt)
    (hstep : ∀ k, (f k).toInt / 2 = (f (k + 1)).toInt) (w : World) :
    Calls Try.prog 36 #[.int .i64 op, .int .i64 x, .int .i64 m] w fun e w' => e = .returned (.int .i64 (f m).toInt) ∧ w = w' := by
  have HS := Lib.hid hstep
  have HF := Lib.hid hf
  clear hstep hf
  go_enter Try.func36, Try.ntmps36
  go_wp2
  go_loop [1, 7] (fun a i => ∃ k : Nat, k ≤ m ∧ i = .int .i64 k ∧ a = .int .i64 (f k).toInt) (fun _ i => m - (intOf i).toNat)
  case atStart => exact ⟨0, Nat.zero_le _, rfl, by rw [HF.out]⟩
  case round =>
    obtain ⟨k, hk, rfl, rfl⟩ := hrel
    by_cases hlt : k < m
    · go_wp2
      go_round
      case rel => exact ⟨k + 1, by omega, by go_num, by rw [HS.out]⟩
      case measure => simp [intOf]; omega
    · have : k = m := by omega
      subst this
      go_wp2
      go_ret
      exact ⟨rfl, rfl⟩

theorem moved_flat (op x : Int) (m : Nat) (hm : m < 64) (h0 : (op == 28) = false) (ho : (op == 29) = false) (f : Nat → BitVec 64) (hf : x = (f 0).toInt)
    (hstep : ∀ k, bits .and .i64 ((f k).toInt / 2) 9223372036854775807 = (f (k + 1)).toInt) (w : World) :
    Calls Try.prog 36 #[.int .i64 op, .int .i64 x, .int .i64 m] w fun e w' => e = .returned (.int .i64 (f m).toInt) ∧ w = w' := by
  have HS := Lib.hid hstep
  have HF := Lib.hid hf
  clear hstep hf
  go_enter Try.func36, Try.ntmps36
  go_wp2
  go_loop [1, 7] (fun a i => ∃ k : Nat, k ≤ m ∧ i = .int .i64 k ∧ a = .int .i64 (f k).toInt) (fun _ i => m - (intOf i).toNat)
  case atStart => exact ⟨0, Nat.zero_le _, rfl, by rw [HF.out]⟩
  case round =>
    obtain ⟨k, hk, rfl, rfl⟩ := hrel
    by_cases hlt : k < m
    · go_wp2
      go_round
      case rel => exact ⟨k + 1, by omega, by go_num, by rw [HS.out]⟩
      case measure => simp [intOf]; omega
    · have : k = m := by omega
      subst this
      go_wp2
      go_ret
      exact ⟨rfl, rfl⟩

theorem step_up (x : BitVec 64) (k : Nat) : wrap64 ((x <<< k).toInt + (x <<< k).toInt) = (x <<< (k + 1)).toInt := by
  rw [w_add, BitVec.shiftLeft_add]; congr 1
  apply BitVec.eq_of_toNat_eq
  rw [BitVec.toNat_add, BitVec.toNat_shiftLeft (n := 1), Nat.shiftLeft_eq]; congr 1; omega
theorem step_down (x : BitVec 64) (k : Nat) : (x.sshiftRight k).toInt / 2 = (x.sshiftRight (k + 1)).toInt := by
  rw [BitVec.toInt_sshiftRight, BitVec.toInt_sshiftRight, Int.shiftRight_add]; rw [Int.shiftRight_eq_div_pow _ 1]; rfl
theorem step_flat (x : BitVec 64) (k : Nat) : bits .and .i64 ((x >>> k).toInt / 2) 9223372036854775807 = (x >>> (k + 1)).toInt := by
  have h1 : (x >>> k).toInt / 2 = ((x >>> k).sshiftRight 1).toInt := by
    rw [BitVec.toInt_sshiftRight, Int.shiftRight_eq_div_pow]; rfl
  have h2 : (9223372036854775807 : Int) = (9223372036854775807#64).toInt := by decide
  rw [h1, h2, w_and]
  congr 1
  rw [show x >>> (k + 1) = (x >>> k) >>> 1 from BitVec.eq_of_toNat_eq (by simp only [BitVec.toNat_ushiftRight, Nat.shiftRight_add])]
  apply BitVec.eq_of_toNat_eq
  generalize x >>> k = z
  rw [BitVec.toNat_and, show (9223372036854775807#64).toNat = 2 ^ 63 - 1 from by decide, Nat.and_two_pow_sub_one_eq_mod, BitVec.toNat_ushiftRight, Nat.shiftRight_eq_div_pow]
  have hz := z.isLt
  have h3 : (z.sshiftRight 1).toInt = z.toInt / 2 := by rw [BitVec.toInt_sshiftRight, Int.shiftRight_eq_div_pow]; rfl
  rw [BitVec.toInt_eq_toNat_cond, BitVec.toInt_eq_toNat_cond] at h3
  have h4 := (z.sshiftRight 1).isLt
  split at h3 <;> split at h3 <;> omega

theorem moved_any (op : Int) (ho : op = 28 ∨ op = 29 ∨ op = 30) (x y : BitVec 64) (w : World) :
    Calls Try.prog 36 #[.int .i64 op, .int .i64 x.toInt, .int .i64 ((y.toNat % 64 : Nat) : Int)] w fun e w' => e = .returned (.int .i64 (two op x y).1.toInt) ∧ w = w' := by
  have hm : y.toNat % 64 < 64 := Nat.mod_lt _ (by decide)
  rcases ho with rfl | rfl | rfl
  · exact moved_up 28 x.toInt (y.toNat % 64) hm rfl (fun k => x <<< k) (by simp) (step_up x) w
  · exact moved_down 29 x.toInt (y.toNat % 64) hm rfl rfl (fun k => x.sshiftRight k) (by simp) (step_down x) w
  · exact moved_flat 30 x.toInt (y.toNat % 64) hm rfl rfl (fun k => x >>> k) (by simp) (step_flat x) w

end Go.Proofs.Ytdjenhbglkcapaa.CW
