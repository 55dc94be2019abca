/-
  Walks of Has1, Has2 of retort/cell and of retortref10, and of retortref10.One. Conditions: none.
-/
import Derived.Test.YtdjenhbglkcapaaCellRefFlt
import Derived.Test.YtdjenhbglkcapaaCellRefTwo
import Derived.Great.BuildSlice
import Derived.Great.Walk
import Derived.Outline
namespace Go.Proofs.Ytdjenhbglkcapaa.CW
open Go.RowKit Go.Great
set_option linter.unusedSimpArgs false
set_option linter.unusedVariables false

/-- How many operands an instruction of words takes. -/
def tabI : List Int := [0, 0, 0, 0, 0, 0, 0, 0, 0, 0, 0, 0, 0, 0, 0, 0, 0, 0, 0, 0, 2, 2, 2, 2, 2, 2, 2, 2, 2, 2, 2, 2, 2, 2, 1, 1, 2, 2, 2, 2, 2, 2, 1, 1, 1, 1]
def opn (op : Int) : Int := if op < 0 then 0 else tabI.getD op.toNat 0

theorem opn_out (op : Int) (h : op < 0 ∨ 46 ≤ op) : opn op = 0 := by
  unfold opn
  by_cases c : op < 0
  · rw [if_pos c]
  · rw [if_neg c, List.getD_eq_getElem?_getD, List.getElem?_eq_none (by show 46 ≤ op.toNat; omega)]; rfl

theorem opn_list (l : List Value) (hl : l = tabI.map (fun n => Value.int .i64 n)) (k : Nat) (hk : k < l.length) : l[k] = Value.int .i64 (opn k) := by
  subst hl
  have hk2 : k < tabI.length := by simpa using hk
  unfold opn
  rw [if_neg (by omega), Int.toNat_natCast, List.getD_eq_getElem?_getD, List.getElem?_eq_getElem hk2]; simp

theorem opn_two (op : Int) : (opn op == 2) = if 20 ≤ op then (if op ≤ 33 then true else if 36 ≤ op then decide (op ≤ 41) else false) else false := by
  by_cases h : op < 0 ∨ 46 ≤ op
  · rw [opn_out op h]
    by_cases c1 : 20 ≤ op
    · rw [if_pos c1, if_neg (by omega), if_pos (by omega), decide_eq_false (by omega)]; rfl
    · rw [if_neg c1]; rfl
  · obtain ⟨k, rfl⟩ := Int.eq_ofNat_of_zero_le (show 0 ≤ op by omega)
    have hk : k < 46 := by omega
    clear h
    revert hk k; decide

theorem opn_one (op : Int) : (opn op == 1) = decide (op = 34 ∨ op = 35 ∨ (42 ≤ op ∧ op ≤ 45)) := by
  by_cases h : op < 0 ∨ 46 ≤ op
  · rw [opn_out op h, decide_eq_false (by omega)]; rfl
  · obtain ⟨k, rfl⟩ := Int.eq_ofNat_of_zero_le (show 0 ≤ op by omega)
    have hk : k < 46 := by omega
    clear h
    revert hk k; decide

def tab46 : Array Value := (tabI.map (fun n => Value.int .i64 n)).toArray
def zero46 : Array Value := (List.replicate 46 (Value.int .i64 0)).toArray

theorem tab46_at (k : Nat) (hk : k < 46) : tab46[k]? = some (Value.int .i64 (opn k)) := by
  unfold tab46
  have hk2 : k < tabI.length := hk
  rw [List.getElem?_toArray, List.getElem?_map, List.getElem?_eq_getElem hk2]
  unfold opn
  rw [if_neg (by omega), Int.toNat_natCast, List.getD_eq_getElem?_getD, List.getElem?_eq_getElem hk2]; rfl

theorem new_row (w : World) (c : Array Value) (t : TypeId) : (w.alloc (.cells c t)).heap[w.heap.size]? = some (.cells c t (0, 0)) := by
  rw [show (w.alloc (.cells c t)).heap = w.heap.push (.cells c t) from rfl]; simp

theorem setRow_new (w : World) (c d : Array Value) (t : TypeId) : (w.alloc (.cells c t)).setRow w.heap.size d = w.alloc (.cells d t) := by
  unfold World.setRow World.alloc
  congr 1
  apply Array.ext_getElem?
  intro i
  rw [Array.getElem?_modify]
  rcases Nat.lt_trichotomy i w.heap.size with h | h | h
  · rw [if_neg (by omega)]; simp [Array.getElem?_push, Nat.ne_of_lt h]
  · subst h; simp
  · rw [if_neg (by omega)]; simp [Array.getElem?_push, Nat.ne_of_gt h]

set_option maxHeartbeats 1000000 in
theorem operands_neg (op : Int) (h1 : op < 0) (w : World) : Calls Try.prog 40 #[.int .i64 op] w fun e w' => e = .returned (.int .i64 (opn op)) ∧ ∃ c, w' = w.alloc (.cells c 52) := by
  rw [opn_out op (Or.inl h1)]
  go_enter Try.func40, Try.ntmps40
  go_wp2_with (first
    | (refine wpList_buildTo rfl 52 _ rfl (some 4) rfl tab46 (by kernel_rfl) ?_)
    | (refine wpList_allocTo rfl (some 3) rfl (.pointer (some ⟨w.heap.size, 0, none⟩)) (.cells zero46 52) (by kernel_rfl) ?_)
    | (refine wpList_store_rowTo rfl 52 _ _ rfl rfl w.heap.size tab46 rfl rfl 52 zero46 (new_row w _ _) (by kernel_rfl) rfl (by kernel_rfl) ?_; rw [setRow_new]))
  go_ret
  exact ⟨rfl, _, rfl⟩

set_option maxHeartbeats 1000000 in
theorem operands_big (op : Int) (h1 : 46 ≤ op) (w : World) : Calls Try.prog 40 #[.int .i64 op] w fun e w' => e = .returned (.int .i64 (opn op)) ∧ ∃ c, w' = w.alloc (.cells c 52) := by
  rw [opn_out op (Or.inr h1)]
  go_enter Try.func40, Try.ntmps40
  go_wp2_with (first
    | (refine wpList_buildTo rfl 52 _ rfl (some 4) rfl tab46 (by kernel_rfl) ?_)
    | (refine wpList_allocTo rfl (some 3) rfl (.pointer (some ⟨w.heap.size, 0, none⟩)) (.cells zero46 52) (by kernel_rfl) ?_)
    | (refine wpList_store_rowTo rfl 52 _ _ rfl rfl w.heap.size tab46 rfl rfl 52 zero46 (new_row w _ _) (by kernel_rfl) rfl (by kernel_rfl) ?_; rw [setRow_new]))
  go_ret
  exact ⟨rfl, _, rfl⟩

set_option maxHeartbeats 1000000 in
theorem operands_mid (k : Nat) (hk : k < 46) (w : World) : Calls Try.prog 40 #[.int .i64 (k : Int)] w fun e w' => e = .returned (.int .i64 (opn k)) ∧ ∃ c, w' = w.alloc (.cells c 52) := by
  have hc := tab46_at k hk
  have hsz : tab46.size = 46 := rfl
  have hg : ∀ h, tab46[k]'h = Value.int .i64 (opn k) := fun h => (Array.getElem?_eq_some_iff.1 hc).2
  have HG := Lib.hid hg
  clear hc hg
  go_enter Try.func40, Try.ntmps40
  go_wp2_with (first
    | (refine wpList_buildTo rfl 52 _ rfl (some 4) rfl tab46 (by kernel_rfl) ?_)
    | (refine wpList_allocTo rfl (some 3) rfl (.pointer (some ⟨w.heap.size, 0, none⟩)) (.cells zero46 52) (by kernel_rfl) ?_)
    | (refine wpList_store_rowTo rfl 52 _ _ rfl rfl w.heap.size tab46 rfl rfl 52 zero46 (new_row w _ _) (by kernel_rfl) rfl (by kernel_rfl) ?_; rw [setRow_new]))
  go_ret
  exact ⟨congrArg Ending.returned (HG.out _), _, rfl⟩

theorem operands_any (op : Int) (w : World) : Calls Try.prog 40 #[.int .i64 op] w fun e w' => e = .returned (.int .i64 (opn op)) ∧ ∃ c, w' = w.alloc (.cells c 52) := by
  by_cases h1 : op < 0
  · exact operands_neg op h1 w
  · by_cases h2 : 46 ≤ op
    · exact operands_big op h2 w
    · obtain ⟨k, rfl⟩ := Int.eq_ofNat_of_zero_le (show 0 ≤ op by omega)
      exact operands_mid k (by omega) w

theorem has2_any (op : Int) (w : World) : Calls Try.prog 23 #[.int .i64 op] w fun e w' => e = .returned (.bool (opn op == 2)) ∧ ∃ c, w' = w.alloc (.cells c 52) := by
  have H := Lib.hid (operands_any op)
  generalize opn op = v at *
  go_enter Try.func23, Try.ntmps23
  go_wp2_with (go_at_call 40; refine (H.out _).mono ?_; rintro e w' ⟨rfl, c, rfl⟩)
  go_ret
  exact ⟨rfl, _, rfl⟩

theorem has1_any (op : Int) (w : World) : Calls Try.prog 26 #[.int .i64 op] w fun e w' => e = .returned (.bool (opn op == 1)) ∧ ∃ c, w' = w.alloc (.cells c 52) := by
  have H := Lib.hid (operands_any op)
  generalize opn op = v at *
  go_enter Try.func26, Try.ntmps26
  go_wp2_with (go_at_call 40; refine (H.out _).mono ?_; rintro e w' ⟨rfl, c, rfl⟩)
  go_ret
  exact ⟨rfl, _, rfl⟩

theorem rhas2_any (op : Int) (w : World) : Calls Try.prog 24 #[.int .i64 op] w fun e w' => e = .returned (.bool (opn op == 2)) ∧ w = w' := by
  rw [opn_two]
  by_cases c1 : 20 ≤ op
  · by_cases c2 : op ≤ 33
    · simp only [c1, c2, if_true]
      go_enter Try.func24, Try.ntmps24
      go_wp2
      go_ret
      exact ⟨by simp [c1, c2], rfl⟩
    · by_cases c3 : 36 ≤ op
      · by_cases c4 : op ≤ 41
        · simp only [c1, c2, c3, c4, if_true, if_false, decide_true]
          go_enter Try.func24, Try.ntmps24
          go_wp2
          go_ret
          exact ⟨by simp [c1, c2, c3, c4], rfl⟩
        · simp only [c1, c2, c3, c4, if_true, if_false, decide_false]
          go_enter Try.func24, Try.ntmps24
          go_wp2
          go_ret
          exact ⟨by simp [c1, c2, c3, c4], rfl⟩
      · simp only [c1, c2, c3, if_true, if_false]
        go_enter Try.func24, Try.ntmps24
        go_wp2
        go_ret
        exact ⟨by simp [c1, c2, c3], rfl⟩
  · have c3 : ¬ 36 ≤ op := by omega
    simp only [c1, if_false]
    go_enter Try.func24, Try.ntmps24
    go_wp2
    go_ret
    exact ⟨by simp [c1, c3], rfl⟩

theorem rhas1_any (op : Int) (w : World) : Calls Try.prog 27 #[.int .i64 op] w fun e w' => e = .returned (.bool (opn op == 1)) ∧ w = w' := by
  by_cases h1 : op = 34
  · subst h1
    have hz : (opn 34 == 1) = true := by decide
    rw [hz]; clear hz
    go_enter Try.func27, Try.ntmps27
    go_wp2
    go_ret
    exact ⟨rfl, rfl⟩
  have e1 : (op == 34) = false := beq_eq_false_iff_ne.2 h1
  by_cases h2 : op = 35
  · subst h2
    have hz : (opn 35 == 1) = true := by decide
    rw [hz]; clear hz
    go_enter Try.func27, Try.ntmps27
    go_wp2
    go_ret
    exact ⟨rfl, rfl⟩
  have e2 : (op == 35) = false := beq_eq_false_iff_ne.2 h2
  by_cases c1 : 42 ≤ op
  · by_cases c2 : op ≤ 45
    · have hz : (opn op == 1) = true := by rw [opn_one, decide_eq_true (by omega)]
      rw [hz]; clear hz h1 h2
      go_enter Try.func27, Try.ntmps27
      go_wp2
      go_ret
      exact ⟨by simp [c1, c2], rfl⟩
    · have hz : (opn op == 1) = false := by rw [opn_one, decide_eq_false (by omega)]
      rw [hz]; clear hz h1 h2
      go_enter Try.func27, Try.ntmps27
      go_wp2
      go_ret
      exact ⟨by simp [c1, c2], rfl⟩
  · have hz : (opn op == 1) = false := by rw [opn_one, decide_eq_false (by omega)]
    rw [hz]; clear hz h1 h2
    go_enter Try.func27, Try.ntmps27
    go_wp2
    go_ret
    exact ⟨by simp [c1], rfl⟩

/-! ### The document's instructions of one -/

def ROneSaid (op : Int) : Prop := ∀ (x : BitVec 64) (w : World), Calls Try.prog 25 #[.int .i64 op, .int .i64 x.toInt] w fun e w' => e = .returned (.tuple #[.int .i64 (onei op x).1.toInt, .int .i64 (onei op x).2]) ∧ Drew w w'

theorem rone_34 : ROneSaid 34 := by
  intro x w
  have H := Lib.hid (w_neg x)
  have k : (onei 34 x) = (-x, 0) := rfl
  rw [k]; clear k
  generalize (-x) = y at *
  go_enter Try.func25, Try.ntmps25
  go_wp2
  go_ret2
  exact ⟨ret_two H.out rfl, 0, rfl⟩

theorem rone_35 : ROneSaid 35 := by
  intro x w
  have k : (onei 35 x) = (~~~x, 0) := rfl
  have h : (-1 - x.toInt) = (~~~x).toInt := by
    rw [BitVec.toInt_eq_toNat_cond, BitVec.toInt_eq_toNat_cond, BitVec.toNat_not]
    have := x.isLt
    split <;> split <;> omega
  rw [k]; clear k
  have H := Lib.hid h; clear h
  generalize (~~~x) = y at *
  have b1 := toInt_lo x
  have b2 := toInt_hi x
  go_enter Try.func25, Try.ntmps25
  go_wp2
  go_ret2
  exact ⟨ret_two H.out rfl, 0, rfl⟩

theorem rone_42 : ROneSaid 42 := by
  intro x w
  cases hn : nan x.toNat with
  | true =>
    have k : (onei 42 x) = (quiet, 0) := by
      unfold onei; rw [if_neg (by decide), if_neg (by decide), if_pos rfl]
      unfold told; rw [nan_mod _ _ (flip_nan x.toNat (lt64 x)).2, hn, if_pos rfl]
    rw [k]; clear k
    have N := Lib.hid (nan_any x); rw [hn] at N; clear hn
    go_enter Try.func25, Try.ntmps25
    go_wp2_with (go_at_call 12; refine (N.out _).mono ?_; rintro e w' ⟨rfl, rfl⟩)
    go_ret2
    exact ⟨ret_two rfl rfl, 0, rfl⟩
  | false =>
    have k : (onei 42 x) = (x ^^^ 9223372036854775808#64, 0) := by
      unfold onei; rw [if_neg (by decide), if_neg (by decide), if_pos rfl]
      unfold told; rw [nan_mod _ _ (flip_nan x.toNat (lt64 x)).2, hn, if_neg (by decide)]
      congr 1
      apply BitVec.eq_of_toNat_eq
      rw [BitVec.toNat_ofNat, BitVec.toNat_xor]
      have h1 := (flip_nan x.toNat (lt64 x)).1
      show flip x.toNat % _ = flip x.toNat
      omega
    have h : bits .xor .i64 x.toInt (-9223372036854775808) = (x ^^^ 9223372036854775808#64).toInt := by
      rw [← w_xor]; rfl
    rw [k]; clear k
    have H := Lib.hid h; clear h
    generalize x ^^^ 9223372036854775808#64 = y at *
    have N := Lib.hid (nan_any x); rw [hn] at N; clear hn
    go_enter Try.func25, Try.ntmps25
    go_wp2_with (go_at_call 12; refine (N.out _).mono ?_; rintro e w' ⟨rfl, rfl⟩)
    go_ret2
    exact ⟨ret_two H.out rfl, 0, rfl⟩

theorem rone_43 : ROneSaid 43 := by
  intro x w
  go_enter Try.func25, Try.ntmps25
  go_wp2_with (first | (go_at_call 15; refine (rfloat_any _ _).mono ?_; rintro e w' ⟨rfl, rfl⟩) | (go_at_call 41; refine (rword_any _ _).mono ?_; rintro e w' ⟨rfl, rfl⟩) | (go_at_call 34; refine (sqrt_any _ _).mono ?_; rintro e w' ⟨⟨r, rfl, hr⟩, n, rfl⟩; have Hr := Lib.hid hr; clear hr))
  go_ret2
  exact ⟨ret_two (by rw [Hr.out]; rfl) rfl, n, rfl⟩

theorem rone_44 : ROneSaid 44 := by
  intro x w
  go_enter Try.func25, Try.ntmps25
  go_wp2_with (go_at_call 42; refine (rtofloat_any _ _).mono ?_; rintro e w' ⟨rfl, rfl⟩)
  go_ret2
  exact ⟨ret_two rfl rfl, 0, rfl⟩

theorem rone_45 : ROneSaid 45 := by
  intro x w
  go_enter Try.func25, Try.ntmps25
  go_wp2_with (go_at_call 43; refine (rtoint_any _ _).mono ?_; rintro e w' ⟨rfl, rfl⟩)
  go_ret2
  exact ⟨ret_two rfl rfl, 0, rfl⟩

theorem roneop_any (op : Int) : ROneSaid op := by
  by_cases h34 : op = 34
  · subst h34; exact rone_34
  by_cases h35 : op = 35
  · subst h35; exact rone_35
  by_cases h42 : op = 42
  · subst h42; exact rone_42
  by_cases h43 : op = 43
  · subst h43; exact rone_43
  by_cases h44 : op = 44
  · subst h44; exact rone_44
  by_cases h45 : op = 45
  · subst h45; exact rone_45
  intro x w
  have e34 : (op == 34) = false := beq_eq_false_iff_ne.2 h34
  have e35 : (op == 35) = false := beq_eq_false_iff_ne.2 h35
  have e42 : (op == 42) = false := beq_eq_false_iff_ne.2 h42
  have e43 : (op == 43) = false := beq_eq_false_iff_ne.2 h43
  have e44 : (op == 44) = false := beq_eq_false_iff_ne.2 h44
  have e45 : (op == 45) = false := beq_eq_false_iff_ne.2 h45
  have hf : onei op x = (0#64, 8) := by simp [onei, h34, h35, h42, h43, h44, h45]
  rw [hf]
  clear hf h34 h35 h42 h43 h44 h45
  go_enter Try.func25, Try.ntmps25
  go_wp2
  go_ret2
  exact ⟨ret_two rfl rfl, 0, rfl⟩

end Go.Proofs.Ytdjenhbglkcapaa.CW
