/-
  Walks of Has1, Has2 of retort/cell. Conditions: none.
-/
import Derived.Test.YtecaolkbllbokaaTgLeaf
import Derived.Great.BuildSlice
import Derived.Great.Walk
import Derived.Outline
namespace Go.Proofs.Ytecaolkbllbokaa.TG
open Go.RowKit Go.Great
set_option linter.unusedSimpArgs false
set_option linter.unusedVariables false

/-- How many operands an instruction of words takes. -/
def tabI : List Int := [0, 0, 0, 0, 0, 0, 0, 0, 0, 0, 0, 0, 0, 0, 0, 0, 0, 0, 0, 0, 2, 2, 2, 2, 2, 2, 2, 2, 2, 2, 2, 2, 2, 2, 1, 1, 2, 2, 2, 2, 2, 2, 1, 1, 1, 1]
def opn (op : Int) : Int := if op < 0 then 0 else tabI.getD op.toNat 0

theorem opn_out (op : Int) (h : op < 0 ∨ 46 ≤ op) : opn op = 0 := by
  unfold opn
  by_cases c : op < 0
  · rw [if_pos c]
  · rw [if_neg c, List.getD_eq_getElem?_getD, List.getElem?_eq_none (by show 46 ≤ op.toNat; omega)]; rfl

theorem opn_list (l : List Value) (hl : l = tabI.map (fun n => Value.int .i64 n)) (k : Nat) (hk : k < l.length) : l[k] = Value.int .i64 (opn k) := by
  subst hl
  have hk2 : k < tabI.length := by simpa using hk
  unfold opn
  rw [if_neg (by omega), Int.toNat_natCast, List.getD_eq_getElem?_getD, List.getElem?_eq_getElem hk2]; simp

theorem opn_two (op : Int) : (opn op == 2) = if 20 ≤ op then (if op ≤ 33 then true else if 36 ≤ op then decide (op ≤ 41) else false) else false := by
  by_cases h : op < 0 ∨ 46 ≤ op
  · rw [opn_out op h]
    by_cases c1 : 20 ≤ op
    · rw [if_pos c1, if_neg (by omega), if_pos (by omega), decide_eq_false (by omega)]; rfl
    · rw [if_neg c1]; rfl
  · obtain ⟨k, rfl⟩ := Int.eq_ofNat_of_zero_le (show 0 ≤ op by omega)
    have hk : k < 46 := by omega
    clear h
    revert hk k; decide

theorem opn_one (op : Int) : (opn op == 1) = decide (op = 34 ∨ op = 35 ∨ (42 ≤ op ∧ op ≤ 45)) := by
  by_cases h : op < 0 ∨ 46 ≤ op
  · rw [opn_out op h, decide_eq_false (by omega)]; rfl
  · obtain ⟨k, rfl⟩ := Int.eq_ofNat_of_zero_le (show 0 ≤ op by omega)
    have hk : k < 46 := by omega
    clear h
    revert hk k; decide

def tab46 : Array Value := (tabI.map (fun n => Value.int .i64 n)).toArray
def zero46 : Array Value := (List.replicate 46 (Value.int .i64 0)).toArray

theorem tab46_at (k : Nat) (hk : k < 46) : tab46[k]? = some (Value.int .i64 (opn k)) := by
  unfold tab46
  have hk2 : k < tabI.length := hk
  rw [List.getElem?_toArray, List.getElem?_map, List.getElem?_eq_getElem hk2]
  unfold opn
  rw [if_neg (by omega), Int.toNat_natCast, List.getD_eq_getElem?_getD, List.getElem?_eq_getElem hk2]; rfl

theorem new_row (w : World) (c : Array Value) (t : TypeId) : (w.alloc (.cells c t)).heap[w.heap.size]? = some (.cells c t (0, 0)) := by
  rw [show (w.alloc (.cells c t)).heap = w.heap.push (.cells c t) from rfl]; simp

theorem setRow_new (w : World) (c d : Array Value) (t : TypeId) : (w.alloc (.cells c t)).setRow w.heap.size d = w.alloc (.cells d t) := by
  unfold World.setRow World.alloc
  congr 1
  apply Array.ext_getElem?
  intro i
  rw [Array.getElem?_modify]
  rcases Nat.lt_trichotomy i w.heap.size with h | h | h
  · rw [if_neg (by omega)]; simp [Array.getElem?_push, Nat.ne_of_lt h]
  · subst h; simp
  · rw [if_neg (by omega)]; simp [Array.getElem?_push, Nat.ne_of_gt h]

set_option maxHeartbeats 1000000 in
theorem operands_neg (op : Int) (h1 : op < 0) (w : World) : Calls Try.prog 144 #[.int .i64 op] w fun e w' => e = .returned (.int .i64 (opn op)) ∧ ∃ c, w' = w.alloc (.cells c 216) := by
  rw [opn_out op (Or.inl h1)]
  go_enter Try.func144, Try.ntmps144
  go_wp2_with (first
    | (refine wpList_buildTo rfl 216 _ rfl (some 4) rfl tab46 (by kernel_rfl) ?_)
    | (refine wpList_allocTo rfl (some 3) rfl (.pointer (some ⟨w.heap.size, 0, none⟩)) (.cells zero46 216) (by kernel_rfl) ?_)
    | (refine wpList_store_rowTo rfl 216 _ _ rfl rfl w.heap.size tab46 rfl rfl 216 zero46 (new_row w _ _) (by kernel_rfl) rfl (by kernel_rfl) ?_; rw [setRow_new]))
  go_ret
  exact ⟨rfl, _, rfl⟩

set_option maxHeartbeats 1000000 in
theorem operands_big (op : Int) (h1 : 46 ≤ op) (w : World) : Calls Try.prog 144 #[.int .i64 op] w fun e w' => e = .returned (.int .i64 (opn op)) ∧ ∃ c, w' = w.alloc (.cells c 216) := by
  rw [opn_out op (Or.inr h1)]
  go_enter Try.func144, Try.ntmps144
  go_wp2_with (first
    | (refine wpList_buildTo rfl 216 _ rfl (some 4) rfl tab46 (by kernel_rfl) ?_)
    | (refine wpList_allocTo rfl (some 3) rfl (.pointer (some ⟨w.heap.size, 0, none⟩)) (.cells zero46 216) (by kernel_rfl) ?_)
    | (refine wpList_store_rowTo rfl 216 _ _ rfl rfl w.heap.size tab46 rfl rfl 216 zero46 (new_row w _ _) (by kernel_rfl) rfl (by kernel_rfl) ?_; rw [setRow_new]))
  go_ret
  exact ⟨rfl, _, rfl⟩

set_option maxHeartbeats 1000000 in
theorem operands_mid (k : Nat) (hk : k < 46) (w : World) : Calls Try.prog 144 #[.int .i64 (k : Int)] w fun e w' => e = .returned (.int .i64 (opn k)) ∧ ∃ c, w' = w.alloc (.cells c 216) := by
  have hc := tab46_at k hk
  have hsz : tab46.size = 46 := rfl
  have hg : ∀ h, tab46[k]'h = Value.int .i64 (opn k) := fun h => (Array.getElem?_eq_some_iff.1 hc).2
  have HG := Lib.hid hg
  clear hc hg
  go_enter Try.func144, Try.ntmps144
  go_wp2_with (first
    | (refine wpList_buildTo rfl 216 _ rfl (some 4) rfl tab46 (by kernel_rfl) ?_)
    | (refine wpList_allocTo rfl (some 3) rfl (.pointer (some ⟨w.heap.size, 0, none⟩)) (.cells zero46 216) (by kernel_rfl) ?_)
    | (refine wpList_store_rowTo rfl 216 _ _ rfl rfl w.heap.size tab46 rfl rfl 216 zero46 (new_row w _ _) (by kernel_rfl) rfl (by kernel_rfl) ?_; rw [setRow_new]))
  go_ret
  exact ⟨congrArg Ending.returned (HG.out _), _, rfl⟩

theorem operands_any (op : Int) (w : World) : Calls Try.prog 144 #[.int .i64 op] w fun e w' => e = .returned (.int .i64 (opn op)) ∧ ∃ c, w' = w.alloc (.cells c 216) := by
  by_cases h1 : op < 0
  · exact operands_neg op h1 w
  · by_cases h2 : 46 ≤ op
    · exact operands_big op h2 w
    · obtain ⟨k, rfl⟩ := Int.eq_ofNat_of_zero_le (show 0 ≤ op by omega)
      exact operands_mid k (by omega) w

theorem has2_any (op : Int) (w : World) : Calls Try.prog 138 #[.int .i64 op] w fun e w' => e = .returned (.bool (opn op == 2)) ∧ ∃ c, w' = w.alloc (.cells c 216) := by
  have H := Lib.hid (operands_any op)
  generalize opn op = v at *
  go_enter Try.func138, Try.ntmps138
  go_wp2_with (go_at_call 144; refine (H.out _).mono ?_; rintro e w' ⟨rfl, c, rfl⟩)
  go_ret
  exact ⟨rfl, _, rfl⟩

theorem has1_any (op : Int) (w : World) : Calls Try.prog 137 #[.int .i64 op] w fun e w' => e = .returned (.bool (opn op == 1)) ∧ ∃ c, w' = w.alloc (.cells c 216) := by
  have H := Lib.hid (operands_any op)
  generalize opn op = v at *
  go_enter Try.func137, Try.ntmps137
  go_wp2_with (go_at_call 144; refine (H.out _).mono ?_; rintro e w' ⟨rfl, c, rfl⟩)
  go_ret
  exact ⟨rfl, _, rfl⟩

end Go.Proofs.Ytecaolkbllbokaa.TG
