/-
  Walks of the leaves of package tongue's check: letters, digits, kept words, names. Conditions: as each theorem states.
  Walks of Has1, Has2 of retort/cell. Conditions: none.
  Walks of package tongue's isKept and isName. Conditions: as each theorem states.
  Walks of package tongue's number, by its two closures. Conditions: as each theorem states.
-/
import Derived.Test.YtecaolkbllbokaaProg
import Derived.WalkKit
import Derived.WalkLawsBesides
import Derived.RowKit3
import Derived.Deep.Draws
import Derived.Lib.Hide
import Derived.Great.BuildSlice
import Derived.Great.Walk
import Derived.Outline
import Derived.Laws.AppendOwn
import Derived.Deep.QuietTactic
import Derived.BigQuiet
namespace Go.Proofs.Ytecaolkbllbokaa.TG
open Go.RowKit Go.Great
set_option linter.unusedSimpArgs false
set_option linter.unusedVariables false

/-- A letter or the low line; a digit. -/
def letterB (c : Int) : Bool := c == 95 || decide (97 ≤ c) && decide (c ≤ 122) || decide (65 ≤ c) && decide (c ≤ 90)
def digitB (c : Int) : Bool := decide (48 ≤ c) && decide (c ≤ 57)

theorem letter_cases (c : Int) :
    (c = 95 ∧ letterB c = true) ∨ ((c == 95) = false ∧ 97 ≤ c ∧ c ≤ 122 ∧ letterB c = true) ∨ ((c == 95) = false ∧ 97 ≤ c ∧ 122 < c ∧ letterB c = false) ∨
    ((c == 95) = false ∧ c < 97 ∧ 65 ≤ c ∧ c ≤ 90 ∧ letterB c = true) ∨ ((c == 95) = false ∧ c < 97 ∧ 65 ≤ c ∧ 90 < c ∧ letterB c = false) ∨ ((c == 95) = false ∧ c < 65 ∧ letterB c = false) := by
  unfold letterB
  by_cases h1 : c = 95
  · left; subst h1; exact ⟨rfl, by decide⟩
  · have e : (c == 95) = false := beq_eq_false_iff_ne.2 h1
    right; rw [e]
    by_cases h2 : 97 ≤ c
    · have h6 : 65 ≤ c := by omega
      have h7 : ¬ c ≤ 90 := by omega
      by_cases h3 : c ≤ 122
      · left; simp [h2, h3]
      · right; left; refine ⟨rfl, h2, by omega, ?_⟩; simp [h2, h3, h6, h7]
    · right; right
      by_cases h4 : 65 ≤ c
      · by_cases h5 : c ≤ 90
        · left; refine ⟨rfl, by omega, h4, h5, ?_⟩; simp [h2, h4, h5]
        · right; left; refine ⟨rfl, by omega, h4, by omega, ?_⟩; simp [h2, h4, h5]
      · right; right; refine ⟨rfl, by omega, ?_⟩; simp [h2, h4]

theorem ret_int {k : IntKind} {a b : Int} (h : a = b) : Ending.returned (.int k a) = .returned (.int k b) := by rw [h]

theorem letter_any (c : Int) (w : World) : Calls Try.prog 82 #[.int .u8 c] w fun e w' => e = .returned (.bool (letterB c)) ∧ w = w' := by
  rcases letter_cases c with ⟨rfl, h⟩ | ⟨h1, h2, h3, h⟩ | ⟨h1, h2, h3, h⟩ | ⟨h1, h2, h3, h4, h⟩ | ⟨h1, h2, h3, h4, h⟩ | ⟨h1, h2, h⟩
  all_goals
    rw [h]; clear h
    go_enter Try.func82, Try.ntmps82
    go_wp2
    go_ret
    first
      | exact ⟨rfl, rfl⟩
      | exact ⟨by simp; omega, rfl⟩

theorem digit_any (c : Int) (w : World) : Calls Try.prog 84 #[.int .u8 c] w fun e w' => e = .returned (.bool (digitB c)) ∧ w = w' := by
  by_cases h1 : 48 ≤ c
  · have h : digitB c = decide (c ≤ 57) := by unfold digitB; simp [h1]
    rw [h]; clear h
    go_enter Try.func84, Try.ntmps84
    go_wp2
    go_ret
    exact ⟨rfl, rfl⟩
  · have h : digitB c = false := by unfold digitB; simp [h1]
    rw [h]; clear h
    go_enter Try.func84, Try.ntmps84
    go_wp2
    go_ret
    first | exact ⟨rfl, rfl⟩ | exact ⟨by simp, rfl⟩ | exact ⟨by simp; omega, rfl⟩

/-- The place of a word in a list; -1: it is not there. -/
def placeOf (l : List ByteArray) (s : ByteArray) : Int := match l.findIdx? (fun v => s.toList == v.toList) with | some k => (k : Int) | none => -1
def among (l : List ByteArray) (s : ByteArray) : Bool := l.any fun v => s.toList == v.toList

theorem placeOf_at (l : List ByteArray) (s : ByteArray) (k : Nat) (hk : k < l.length) (hs : (s.toList == l[k].toList) = true) (hno : ∀ j (h : j < l.length), j < k → (s.toList == l[j].toList) = false) : placeOf l s = (k : Int) := by
  unfold placeOf
  rw [List.findIdx?_eq_some_iff_getElem.2 ⟨hk, hs, fun j hj => by have := hno j (by omega) hj; simpa using this⟩]
theorem placeOf_none (l : List ByteArray) (s : ByteArray) (hno : ∀ j (h : j < l.length), (s.toList == l[j].toList) = false) : placeOf l s = -1 := by
  unfold placeOf
  rw [List.findIdx?_eq_none_iff.2 (fun x hx => by obtain ⟨j, h, rfl⟩ := List.getElem_of_mem hx; exact hno j h)]
theorem placeOf_any (l : List ByteArray) (s : ByteArray) : decide (0 ≤ placeOf l s) = among l s := by
  unfold placeOf among
  cases h : l.findIdx? (fun v => s.toList == v.toList) with
  | none =>
    rw [List.findIdx?_eq_none_iff] at h
    have : l.any (fun v => s.toList == v.toList) = false := by
      rw [List.any_eq_false]; intro x hx; rw [h x hx]; decide
    rw [this]; rfl
  | some k =>
    obtain ⟨hk, hs, _⟩ := List.findIdx?_eq_some_iff_getElem.1 h
    have : l.any (fun v => s.toList == v.toList) = true := List.any_eq_true.2 ⟨l[k], List.getElem_mem hk, hs⟩
    rw [this]; simp

theorem sindex_any (b off len cap : Nat) (l : List ByteArray) (s : ByteArray) (w : World) (hl : l.length = len) (hlen : len ≤ 9223372036854775807)
    (hc : ∀ i (h : i < l.length), w.cell? ⟨b, off + i, none⟩ = some (.string l[i])) :
    Calls Try.prog 134 #[.slice (some ⟨b, off, none⟩) len cap, .string s] w fun e w' => e = .returned (.int .i64 (placeOf l s)) ∧ w = w' := by
  have HC := Lib.hid hc
  clear hc
  go_enter Try.func134, Try.ntmps134
  go_wp2
  go_loop [8] (fun i => ∃ k : Nat, k ≤ len ∧ i = .int .i64 k ∧ ∀ j (h : j < l.length), j < k → (s.toList == l[j].toList) = false) (fun i => len - (intOf i).toNat)
  case atStart => exact ⟨0, Nat.zero_le _, rfl, fun j _ h => absurd h (Nat.not_lt_zero _)⟩
  case round =>
    obtain ⟨k, hk, rfl, hno⟩ := hrel
    have HN := Lib.hid hno
    clear hno
    by_cases hlt : k < len
    · have kl : k < l.length := by omega
      have g := HC.out k kl
      clear hl
      cases hs : (s.toList == (l[k]'kl).toList) with
      | true =>
        have HP := Lib.hid (placeOf_at l s k kl hs HN.out)
        go_wp2
        go_ret
        exact ⟨ret_int HP.out.symm, rfl⟩
      | false =>
        have HF := Lib.hid hs
        go_wp2
        go_round
        case rel => exact ⟨k + 1, by omega, by go_num, fun j h hj => by
          rcases Nat.lt_or_eq_of_le (Nat.le_of_lt_succ hj) with h1 | h1
          · exact HN.out j h h1
          · subst h1; exact HF.out⟩
        case measure => simp [intOf]; omega
    · have : k = len := by omega
      have HP := Lib.hid (placeOf_none l s (fun j h => HN.out j h (by omega)))
      clear hl
      subst this
      go_wp2
      go_ret
      exact ⟨ret_int HP.out.symm, rfl⟩

theorem contains_any (b off len cap : Nat) (l : List ByteArray) (s : ByteArray) (w : World) (hl : l.length = len) (hlen : len ≤ 9223372036854775807)
    (hc : ∀ i (h : i < l.length), w.cell? ⟨b, off + i, none⟩ = some (.string l[i])) :
    Calls Try.prog 112 #[.slice (some ⟨b, off, none⟩) len cap, .string s] w fun e w' => e = .returned (.bool (among l s)) ∧ w = w' := by
  have H := Lib.hid (sindex_any b off len cap l s w hl hlen hc)
  have HA := Lib.hid (placeOf_any l s)
  clear hc hl
  generalize placeOf l s = v at *
  go_enter Try.func112, Try.ntmps112
  go_wp2_with (go_at_call 134; refine H.out.mono ?_; rintro e w' ⟨rfl, rfl⟩)
  go_ret
  exact ⟨congrArg (fun b => Ending.returned (Value.bool b)) HA.out, rfl⟩

end Go.Proofs.Ytecaolkbllbokaa.TG

namespace Go.Proofs.Ytecaolkbllbokaa.TG
open Go.RowKit Go.Great
set_option linter.unusedSimpArgs false
set_option linter.unusedVariables false

/-- How many operands an instruction of words takes. -/
def tabI : List Int := [0, 0, 0, 0, 0, 0, 0, 0, 0, 0, 0, 0, 0, 0, 0, 0, 0, 0, 0, 0, 2, 2, 2, 2, 2, 2, 2, 2, 2, 2, 2, 2, 2, 2, 1, 1, 2, 2, 2, 2, 2, 2, 1, 1, 1, 1]
def opn (op : Int) : Int := if op < 0 then 0 else tabI.getD op.toNat 0

theorem opn_out (op : Int) (h : op < 0 ∨ 46 ≤ op) : opn op = 0 := by
  unfold opn
  by_cases c : op < 0
  · rw [if_pos c]
  · rw [if_neg c, List.getD_eq_getElem?_getD, List.getElem?_eq_none (by show 46 ≤ op.toNat; omega)]; rfl

theorem opn_list (l : List Value) (hl : l = tabI.map (fun n => Value.int .i64 n)) (k : Nat) (hk : k < l.length) : l[k] = Value.int .i64 (opn k) := by
  subst hl
  have hk2 : k < tabI.length := by simpa using hk
  unfold opn
  rw [if_neg (by omega), Int.toNat_natCast, List.getD_eq_getElem?_getD, List.getElem?_eq_getElem hk2]; simp

theorem opn_two (op : Int) : (opn op == 2) = if 20 ≤ op then (if op ≤ 33 then true else if 36 ≤ op then decide (op ≤ 41) else false) else false := by
  by_cases h : op < 0 ∨ 46 ≤ op
  · rw [opn_out op h]
    by_cases c1 : 20 ≤ op
    · rw [if_pos c1, if_neg (by omega), if_pos (by omega), decide_eq_false (by omega)]; rfl
    · rw [if_neg c1]; rfl
  · obtain ⟨k, rfl⟩ := Int.eq_ofNat_of_zero_le (show 0 ≤ op by omega)
    have hk : k < 46 := by omega
    clear h
    revert hk k; decide

theorem opn_one (op : Int) : (opn op == 1) = decide (op = 34 ∨ op = 35 ∨ (42 ≤ op ∧ op ≤ 45)) := by
  by_cases h : op < 0 ∨ 46 ≤ op
  · rw [opn_out op h, decide_eq_false (by omega)]; rfl
  · obtain ⟨k, rfl⟩ := Int.eq_ofNat_of_zero_le (show 0 ≤ op by omega)
    have hk : k < 46 := by omega
    clear h
    revert hk k; decide

def tab46 : Array Value := (tabI.map (fun n => Value.int .i64 n)).toArray
def zero46 : Array Value := (List.replicate 46 (Value.int .i64 0)).toArray

theorem tab46_at (k : Nat) (hk : k < 46) : tab46[k]? = some (Value.int .i64 (opn k)) := by
  unfold tab46
  have hk2 : k < tabI.length := hk
  rw [List.getElem?_toArray, List.getElem?_map, List.getElem?_eq_getElem hk2]
  unfold opn
  rw [if_neg (by omega), Int.toNat_natCast, List.getD_eq_getElem?_getD, List.getElem?_eq_getElem hk2]; rfl

theorem new_row (w : World) (c : Array Value) (t : TypeId) : (w.alloc (.cells c t)).heap[w.heap.size]? = some (.cells c t (0, 0)) := by
  rw [show (w.alloc (.cells c t)).heap = w.heap.push (.cells c t) from rfl]; simp

theorem setRow_new (w : World) (c d : Array Value) (t : TypeId) : (w.alloc (.cells c t)).setRow w.heap.size d = w.alloc (.cells d t) := by
  unfold World.setRow World.alloc
  congr 1
  apply Array.ext_getElem?
  intro i
  rw [Array.getElem?_modify]
  rcases Nat.lt_trichotomy i w.heap.size with h | h | h
  · rw [if_neg (by omega)]; simp [Array.getElem?_push, Nat.ne_of_lt h]
  · subst h; simp
  · rw [if_neg (by omega)]; simp [Array.getElem?_push, Nat.ne_of_gt h]

set_option maxHeartbeats 1000000 in
theorem operands_neg (op : Int) (h1 : op < 0) (w : World) : Calls Try.prog 144 #[.int .i64 op] w fun e w' => e = .returned (.int .i64 (opn op)) ∧ ∃ c, w' = w.alloc (.cells c 216) := by
  rw [opn_out op (Or.inl h1)]
  go_enter Try.func144, Try.ntmps144
  go_wp2_with (first
    | (refine wpList_buildTo rfl 216 _ rfl (some 4) rfl tab46 (by kernel_rfl) ?_)
    | (refine wpList_allocTo rfl (some 3) rfl (.pointer (some ⟨w.heap.size, 0, none⟩)) (.cells zero46 216) (by kernel_rfl) ?_)
    | (refine wpList_store_rowTo rfl 216 _ _ rfl rfl w.heap.size tab46 rfl rfl 216 zero46 (new_row w _ _) (by kernel_rfl) rfl (by kernel_rfl) ?_; rw [setRow_new]))
  go_ret
  exact ⟨rfl, _, rfl⟩

set_option maxHeartbeats 1000000 in
theorem operands_big (op : Int) (h1 : 46 ≤ op) (w : World) : Calls Try.prog 144 #[.int .i64 op] w fun e w' => e = .returned (.int .i64 (opn op)) ∧ ∃ c, w' = w.alloc (.cells c 216) := by
  rw [opn_out op (Or.inr h1)]
  go_enter Try.func144, Try.ntmps144
  go_wp2_with (first
    | (refine wpList_buildTo rfl 216 _ rfl (some 4) rfl tab46 (by kernel_rfl) ?_)
    | (refine wpList_allocTo rfl (some 3) rfl (.pointer (some ⟨w.heap.size, 0, none⟩)) (.cells zero46 216) (by kernel_rfl) ?_)
    | (refine wpList_store_rowTo rfl 216 _ _ rfl rfl w.heap.size tab46 rfl rfl 216 zero46 (new_row w _ _) (by kernel_rfl) rfl (by kernel_rfl) ?_; rw [setRow_new]))
  go_ret
  exact ⟨rfl, _, rfl⟩

set_option maxHeartbeats 1000000 in
theorem operands_mid (k : Nat) (hk : k < 46) (w : World) : Calls Try.prog 144 #[.int .i64 (k : Int)] w fun e w' => e = .returned (.int .i64 (opn k)) ∧ ∃ c, w' = w.alloc (.cells c 216) := by
  have hc := tab46_at k hk
  have hsz : tab46.size = 46 := rfl
  have hg : ∀ h, tab46[k]'h = Value.int .i64 (opn k) := fun h => (Array.getElem?_eq_some_iff.1 hc).2
  have HG := Lib.hid hg
  clear hc hg
  go_enter Try.func144, Try.ntmps144
  go_wp2_with (first
    | (refine wpList_buildTo rfl 216 _ rfl (some 4) rfl tab46 (by kernel_rfl) ?_)
    | (refine wpList_allocTo rfl (some 3) rfl (.pointer (some ⟨w.heap.size, 0, none⟩)) (.cells zero46 216) (by kernel_rfl) ?_)
    | (refine wpList_store_rowTo rfl 216 _ _ rfl rfl w.heap.size tab46 rfl rfl 216 zero46 (new_row w _ _) (by kernel_rfl) rfl (by kernel_rfl) ?_; rw [setRow_new]))
  go_ret
  exact ⟨congrArg Ending.returned (HG.out _), _, rfl⟩

theorem operands_any (op : Int) (w : World) : Calls Try.prog 144 #[.int .i64 op] w fun e w' => e = .returned (.int .i64 (opn op)) ∧ ∃ c, w' = w.alloc (.cells c 216) := by
  by_cases h1 : op < 0
  · exact operands_neg op h1 w
  · by_cases h2 : 46 ≤ op
    · exact operands_big op h2 w
    · obtain ⟨k, rfl⟩ := Int.eq_ofNat_of_zero_le (show 0 ≤ op by omega)
      exact operands_mid k (by omega) w

theorem has2_any (op : Int) (w : World) : Calls Try.prog 138 #[.int .i64 op] w fun e w' => e = .returned (.bool (opn op == 2)) ∧ ∃ c, w' = w.alloc (.cells c 216) := by
  have H := Lib.hid (operands_any op)
  generalize opn op = v at *
  go_enter Try.func138, Try.ntmps138
  go_wp2_with (go_at_call 144; refine (H.out _).mono ?_; rintro e w' ⟨rfl, c, rfl⟩)
  go_ret
  exact ⟨rfl, _, rfl⟩

theorem has1_any (op : Int) (w : World) : Calls Try.prog 137 #[.int .i64 op] w fun e w' => e = .returned (.bool (opn op == 1)) ∧ ∃ c, w' = w.alloc (.cells c 216) := by
  have H := Lib.hid (operands_any op)
  generalize opn op = v at *
  go_enter Try.func137, Try.ntmps137
  go_wp2_with (go_at_call 144; refine (H.out _).mono ?_; rintro e w' ⟨rfl, c, rfl⟩)
  go_ret
  exact ⟨rfl, _, rfl⟩

end Go.Proofs.Ytecaolkbllbokaa.TG

namespace Go.Proofs.Ytecaolkbllbokaa.TG
open Go.RowKit Go.Great
set_option linter.unusedSimpArgs false
set_option linter.unusedVariables false

/-- The words that are kept. -/
def kwords : List ByteArray := [⟨#[116, 101, 120, 116]⟩, ⟨#[102, 117, 110, 99]⟩, ⟨#[105, 102]⟩, ⟨#[101, 108, 115, 101]⟩, ⟨#[119, 104, 105, 108, 101]⟩, ⟨#[98, 114, 101, 97, 107]⟩, ⟨#[99, 111, 110, 116, 105, 110, 117, 101]⟩, ⟨#[114, 101, 116, 117, 114, 110]⟩, ⟨#[97, 98, 111, 114, 116]⟩, ⟨#[100, 111]⟩, ⟨#[119, 111, 114, 100]⟩, ⟨#[98, 121, 116, 101]⟩, ⟨#[115, 105, 122, 101]⟩, ⟨#[114, 111, 111, 116]⟩, ⟨#[102, 108, 111, 97, 116]⟩, ⟨#[105, 110, 116]⟩, ⟨#[111, 112, 101, 110]⟩, ⟨#[114, 101, 97, 100]⟩, ⟨#[119, 114, 105, 116, 101]⟩, ⟨#[108, 105, 115, 116]⟩, ⟨#[99, 108, 111, 115, 101]⟩]
def kcells : Array Value := (kwords.map Value.string).toArray

theorem kcells_at (w : World) (i : Nat) (h : i < kwords.length) : (w.alloc (.cells kcells 9)).cell? ⟨w.heap.size, 0 + i, none⟩ = some (.string kwords[i]) := by
  rw [World.cell?_alloc_at _ _ _ _ rfl, Nat.zero_add]
  unfold kcells
  rw [List.getElem?_toArray, List.getElem?_map, List.getElem?_eq_getElem h]; rfl

theorem grownBy_refl (w : World) (r : Option Nat) : w.grownBy w r := ⟨rfl, rfl, rfl, Nat.le_refl _, fun _ _ _ => rfl⟩
theorem grownBy_trans {a b c : World} {r : Option Nat} (h : a.grownBy b r) (g : b.grownBy c r) : a.grownBy c r :=
  ⟨g.os.trans h.os, g.tape.trans h.tape, g.output.trans h.output, Nat.le_trans h.size g.size, fun k hk hr => (g.block k (Nat.lt_of_lt_of_le hk h.size) hr).trans (h.block k hk hr)⟩

set_option maxHeartbeats 1000000 in
theorem kept_any (s : ByteArray) (w : World) : Calls Try.prog 83 #[.string s] w fun e w' => e = .returned (.bool (among kwords s)) ∧ w.grownBy w' none := by
  have H := Lib.hid (contains_any w.heap.size 0 21 21 kwords s (w.alloc (.cells kcells 9)) rfl (by omega) (kcells_at w))
  generalize among kwords s = v at *
  go_enter Try.func83, Try.ntmps83
  go_wp2_with (first
    | (refine wpList_buildSliceTo rfl 66 9 21 _ rfl w.heap.size rfl (some 3) rfl Try.underlying66 kcells (by kernel_rfl) ?_)
    | (go_at_call 112; refine H.out.mono ?_; rintro e w' ⟨rfl, rfl⟩))
  go_ret
  exact ⟨rfl, World.grownBy_alloc _ _ _⟩

/-- May a byte stand in a name behind its first? -/
def tailB (c : Int) : Bool := letterB c || digitB c
/-- May it be a name? -/
def nameB (s : ByteArray) : Bool := decide (1 ≤ s.size) && decide (s.size ≤ 64) && letterB ((s.data.toList.headD 0).toNat : Int) && !among kwords s && s.data.toList.all fun c => tailB (c.toNat : Int)

theorem all_of (s : ByteArray) (h : ∀ j (hj : j < s.size), tailB ((s[j]'hj).toNat : Int) = true) : (s.data.toList.all fun c => tailB (c.toNat : Int)) = true := by
  rw [List.all_eq_true]
  intro x hx
  obtain ⟨j, hj, rfl⟩ := List.getElem_of_mem hx
  exact h j (by simpa using hj)
theorem not_all (s : ByteArray) (j : Nat) (hj : j < s.size) (h : tailB ((s[j]'hj).toNat : Int) = false) : (s.data.toList.all fun c => tailB (c.toNat : Int)) = false := by
  rw [List.all_eq_false]
  refine ⟨s[j], ?_, by rw [h]; decide⟩
  have : s[j] ∈ s.data.toList := by
    show s.data[j] ∈ s.data.toList
    exact List.getElem_mem (l := s.data.toList) (by simpa using hj)
  exact this
theorem head_is (s : ByteArray) (h : 0 < s.size) : s.data.toList.headD 0 = s[0] := by
  show s.data.toList.headD 0 = s.data[0]
  have h2 : 0 < s.data.toList.length := by simpa using h
  cases hl : s.data.toList with
  | nil => rw [hl] at h2; simp at h2
  | cons a l =>
    have : s.data[0]'(by simpa using h) = s.data.toList[0]'h2 := rfl
    rw [this]; simp [hl]

set_option maxHeartbeats 1000000 in
theorem name_any (s : ByteArray) (w : World) : Calls Try.prog 53 #[.string s] w fun e w' => e = .returned (.bool (nameB s)) ∧ w.grownBy w' none := by
  by_cases h1 : s.size < 1
  · have hn : nameB s = false := by unfold nameB; rw [decide_eq_false (by omega)]; rfl
    rw [hn]; clear hn
    go_enter Try.func53, Try.ntmps53
    go_wp2
    go_ret
    exact ⟨rfl, grownBy_refl _ _⟩
  by_cases h2 : 64 < s.size
  · have hn : nameB s = false := by unfold nameB; rw [decide_eq_false (show ¬ s.size ≤ 64 by omega)]; simp
    rw [hn]; clear hn
    go_enter Try.func53, Try.ntmps53
    go_wp2
    go_ret
    exact ⟨rfl, grownBy_refl _ _⟩
  have h0 : 0 < s.size := by omega
  cases h3 : letterB ((s[0]'h0).toNat : Int) with
  | false =>
    have hn : nameB s = false := by unfold nameB; rw [head_is s h0, h3]; simp
    rw [hn]; clear hn
    go_enter Try.func53, Try.ntmps53
    go_wp2_with (go_at_call 82; refine (letter_any _ _).mono ?_; rintro e w' ⟨rfl, rfl⟩)
    go_ret
    exact ⟨rfl, grownBy_refl _ _⟩
  | true =>
    have K := Lib.hid (kept_any s)
    cases h4 : among kwords s with
    | true =>
      have hn : nameB s = false := by unfold nameB; rw [h4]; simp
      rw [hn]; clear hn
      rw [h4] at K
      go_enter Try.func53, Try.ntmps53
      go_wp2_with (first | (go_at_call 82; refine (letter_any _ _).mono ?_; rintro e w' ⟨rfl, rfl⟩) | (go_at_call 83; refine (K.out _).mono ?_; rintro e w' ⟨rfl, hg⟩))
      go_ret
      exact ⟨rfl, hg⟩
    | false =>
      have hn : nameB s = s.data.toList.all fun c => tailB (c.toNat : Int) := by
        unfold nameB; rw [head_is s h0, h3, h4, decide_eq_true (by omega), decide_eq_true (by omega)]; rfl
      rw [hn]; clear hn
      rw [h4] at K
      have HA := Lib.hid (all_of s)
      have HN := Lib.hid (not_all s)
      generalize (s.data.toList.all fun c => tailB (c.toNat : Int)) = v at *
      go_enter Try.func53, Try.ntmps53
      go_wp2_with (first | (go_at_call 82; refine (letter_any _ _).mono ?_; rintro e w' ⟨rfl, rfl⟩) | (go_at_call 83; refine (K.out _).mono ?_; rintro e w1 ⟨rfl, hg⟩))
      go_loop [24] (fun i => ∃ k : Nat, k ≤ s.size ∧ i = .int .i64 k ∧ ∀ j (hj : j < s.size), j < k → tailB ((s[j]'hj).toNat : Int) = true) (fun i => s.size - (intOf i).toNat)
      case atStart => exact ⟨0, Nat.zero_le _, rfl, fun j _ h => absurd h (Nat.not_lt_zero _)⟩
      case round =>
        obtain ⟨k, hk, rfl, hall⟩ := hrel
        have HL := Lib.hid hall
        clear hall
        by_cases hlt : k < s.size
        · cases c1 : letterB ((s[k]'hlt).toNat : Int) with
          | true =>
            have ht : tailB ((s[k]'hlt).toNat : Int) = true := by unfold tailB; rw [c1]; rfl
            have HT := Lib.hid ht
            clear ht
            go_wp2_with (go_at_call 82; refine (letter_any _ _).mono ?_; rintro e w' ⟨rfl, rfl⟩)
            go_round
            case rel => exact ⟨k + 1, by omega, by go_num, fun j hj h => by
              rcases Nat.lt_or_eq_of_le (Nat.le_of_lt_succ h) with h5 | h5
              · exact HL.out j hj h5
              · subst h5; exact HT.out⟩
            case measure => simp [intOf]; omega
          | false =>
            cases c2 : digitB ((s[k]'hlt).toNat : Int) with
            | true =>
              have ht : tailB ((s[k]'hlt).toNat : Int) = true := by unfold tailB; rw [c1, c2]; rfl
              have HT := Lib.hid ht
              clear ht
              go_wp2_with (first | (go_at_call 82; refine (letter_any _ _).mono ?_; rintro e w' ⟨rfl, rfl⟩) | (go_at_call 84; refine (digit_any _ _).mono ?_; rintro e w' ⟨rfl, rfl⟩))
              go_round
              case rel => exact ⟨k + 1, by omega, by go_num, fun j hj h => by
                rcases Nat.lt_or_eq_of_le (Nat.le_of_lt_succ h) with h5 | h5
                · exact HL.out j hj h5
                · subst h5; exact HT.out⟩
              case measure => simp [intOf]; omega
            | false =>
              have ht : v = false := HN.out k hlt (by unfold tailB; rw [c1, c2]; rfl)
              have HT := Lib.hid ht
              clear ht
              go_wp2_with (first | (go_at_call 82; refine (letter_any _ _).mono ?_; rintro e w' ⟨rfl, rfl⟩) | (go_at_call 84; refine (digit_any _ _).mono ?_; rintro e w' ⟨rfl, rfl⟩))
              go_ret
              exact ⟨by rw [HT.out]; rfl, hg⟩
        · have ht : v = true := HA.out (fun j hj => HL.out j hj (by omega))
          have HT := Lib.hid ht
          clear ht
          go_wp2
          go_ret
          exact ⟨by rw [HT.out]; rfl, hg⟩

end Go.Proofs.Ytecaolkbllbokaa.TG

namespace Go.Proofs.Ytecaolkbllbokaa.TG
open Go.RowKit Go.Great
set_option linter.unusedSimpArgs false
set_option linter.unusedVariables false

def amongE (x n e : Int) : Int := if x < 0 ∨ n ≤ x then e else 0
def mayE (b : Bool) : Int := if b then 0 else 171

theorem among_any (x n e : Int) (b : Nat) (w : World) (h1 : w.cell? ⟨b, 1, none⟩ = some (.int .i64 x)) :
    Calls Try.prog 135 #[.int .i64 n, .int .i64 e, .pointer (some ⟨b, 0, none⟩)] w fun r w' => r = .returned (.int .i64 (amongE x n e)) ∧ w = w' := by
  unfold amongE
  by_cases c1 : x < 0
  · rw [if_pos (Or.inl c1)]
    go_enter Try.func135, Try.ntmps135
    go_wp2
    go_ret
    exact ⟨rfl, rfl⟩
  · by_cases c2 : n ≤ x
    · rw [if_pos (Or.inr c2)]
      go_enter Try.func135, Try.ntmps135
      go_wp2
      go_ret
      exact ⟨rfl, rfl⟩
    · rw [if_neg (by omega)]
      go_enter Try.func135, Try.ntmps135
      go_wp2
      go_ret
      exact ⟨rfl, rfl⟩

theorem may_any (b : Bool) (w : World) :
    Calls Try.prog 136 #[.bool b] w fun r w' => r = .returned (.int .i64 (mayE b)) ∧ w = w' := by
  cases b
  all_goals
    go_enter Try.func136, Try.ntmps136
    go_wp2
    go_ret
    exact ⟨rfl, rfl⟩

/-- What number answers, by the kind k and the number n of a part. -/
def numE (nl nt nf loops k n : Int) : Int :=
  if k = 12 then 0 else if k = 2 ∨ k = 13 then amongE n nl 173 else if k = 14 ∨ k = 15 then amongE n nt 173 else if k = 25 then amongE n nf 173 else
  if k = 26 then amongE n 5 171 else if k = 7 ∨ k = 8 then amongE n loops 171 else if k = 19 then mayE (opn n == 1) else if k = 20 then mayE (opn n == 2) else
  if k = 21 then mayE (n == 32 || n == 33 || n == 41) else mayE (n == 0)

/-- What a walk of the checker reads: the checker's block and its function's cells. -/
structure Chk (w : World) (Bc bf of : Nat) (vt vf vl vp : Value) (at_ loops most : Int) : Prop where
  lt : Bc < w.heap.size
  ltf : bf < w.heap.size
  ne : bf ≠ Bc
  c0 : w.cell? ⟨Bc, 0, none⟩ = some vt
  c1 : w.cell? ⟨Bc, 1, none⟩ = some vf
  c2 : w.cell? ⟨Bc, 2, none⟩ = some (.pointer (some ⟨bf, of, none⟩))
  c3 : w.cell? ⟨Bc, 3, none⟩ = some (.int .i64 at_)
  c4 : w.cell? ⟨Bc, 4, none⟩ = some (.int .i64 loops)
  c5 : w.cell? ⟨Bc, 5, none⟩ = some (.int .i64 most)
  f2 : w.cell? ⟨bf, of + 2, none⟩ = some vl
  f3 : w.cell? ⟨bf, of + 3, none⟩ = some vp

set_option maxRecDepth 100000 in
set_option maxHeartbeats 2000000 in
theorem number_num (n kc : Int) (Bc : Nat) (w : World) :
    Calls Try.prog 114 #[.pointer (some ⟨Bc, 0, none⟩), .agg #[.int .i64 12, .int .i64 n, .int .i64 kc]] w fun e w' => e = .returned (.int .i64 0) ∧ w.grownBy w' none := by
  go_enter Try.func114, Try.ntmps114
  go_wp2
  go_ret
  exact ⟨rfl, World.grownBy_alloc _ _ _⟩

set_option maxRecDepth 100000 in
set_option maxHeartbeats 2000000 in
theorem number_local (k n kc : Int) (hk : k = 2 ∨ k = 13) (Bc bf of nl cl : Nat) (pl : Option Addr) (w : World) (hlt : Bc < w.heap.size) (hltf : bf < w.heap.size)
    (h2 : w.cell? ⟨Bc, 2, none⟩ = some (.pointer (some ⟨bf, of, none⟩))) (hf : w.cell? ⟨bf, of + 2, none⟩ = some (.slice pl nl cl)) :
    Calls Try.prog 114 #[.pointer (some ⟨Bc, 0, none⟩), .agg #[.int .i64 k, .int .i64 n, .int .i64 kc]] w fun e w' => e = .returned (.int .i64 (amongE n nl 173)) ∧ w.grownBy w' none := by
  rcases hk with rfl | rfl
  all_goals
    go_enter Try.func114, Try.ntmps114
    go_wp2_with (go_at_call 135; refine (among_any n nl 173 w.heap.size _ (by simp)).mono ?_; rintro e w1 ⟨rfl, rfl⟩)
    go_ret
    exact ⟨rfl, World.grownBy_alloc _ _ _⟩

set_option maxRecDepth 100000 in
set_option maxHeartbeats 2000000 in
theorem number_text (k n kc : Int) (hk : k = 14 ∨ k = 15) (Bc nl cl : Nat) (pl : Option Addr) (w : World) (hlt : Bc < w.heap.size)
    (h2 : w.cell? ⟨Bc, 0, none⟩ = some (.slice pl nl cl)) :
    Calls Try.prog 114 #[.pointer (some ⟨Bc, 0, none⟩), .agg #[.int .i64 k, .int .i64 n, .int .i64 kc]] w fun e w' => e = .returned (.int .i64 (amongE n nl 173)) ∧ w.grownBy w' none := by
  rcases hk with rfl | rfl
  all_goals
    go_enter Try.func114, Try.ntmps114
    go_wp2_with (go_at_call 135; refine (among_any n nl 173 w.heap.size _ (by simp)).mono ?_; rintro e w1 ⟨rfl, rfl⟩)
    go_ret
    exact ⟨rfl, World.grownBy_alloc _ _ _⟩

set_option maxRecDepth 100000 in
set_option maxHeartbeats 2000000 in
theorem number_call (n kc : Int) (Bc nl cl : Nat) (pl : Option Addr) (w : World) (hlt : Bc < w.heap.size)
    (h2 : w.cell? ⟨Bc, 1, none⟩ = some (.slice pl nl cl)) :
    Calls Try.prog 114 #[.pointer (some ⟨Bc, 0, none⟩), .agg #[.int .i64 25, .int .i64 n, .int .i64 kc]] w fun e w' => e = .returned (.int .i64 (amongE n nl 173)) ∧ w.grownBy w' none := by
    go_enter Try.func114, Try.ntmps114
    go_wp2_with (go_at_call 135; refine (among_any n nl 173 w.heap.size _ (by simp)).mono ?_; rintro e w1 ⟨rfl, rfl⟩)
    go_ret
    exact ⟨rfl, World.grownBy_alloc _ _ _⟩

set_option maxRecDepth 100000 in
set_option maxHeartbeats 2000000 in
theorem number_sys (n kc : Int) (Bc : Nat) (w : World) :
    Calls Try.prog 114 #[.pointer (some ⟨Bc, 0, none⟩), .agg #[.int .i64 26, .int .i64 n, .int .i64 kc]] w fun e w' => e = .returned (.int .i64 (amongE n 5 171)) ∧ w.grownBy w' none := by
    go_enter Try.func114, Try.ntmps114
    go_wp2_with (go_at_call 135; refine (among_any n 5 171 w.heap.size _ (by simp)).mono ?_; rintro e w1 ⟨rfl, rfl⟩)
    go_ret
    exact ⟨rfl, World.grownBy_alloc _ _ _⟩

set_option maxRecDepth 100000 in
set_option maxHeartbeats 2000000 in
theorem number_jump (k n kc loops : Int) (hk : k = 7 ∨ k = 8) (Bc : Nat) (w : World) (hlt : Bc < w.heap.size)
    (h2 : w.cell? ⟨Bc, 4, none⟩ = some (.int .i64 loops)) :
    Calls Try.prog 114 #[.pointer (some ⟨Bc, 0, none⟩), .agg #[.int .i64 k, .int .i64 n, .int .i64 kc]] w fun e w' => e = .returned (.int .i64 (amongE n loops 171)) ∧ w.grownBy w' none := by
  rcases hk with rfl | rfl
  all_goals
    go_enter Try.func114, Try.ntmps114
    go_wp2_with (go_at_call 135; refine (among_any n loops 171 w.heap.size _ (by simp)).mono ?_; rintro e w1 ⟨rfl, rfl⟩)
    go_ret
    exact ⟨rfl, World.grownBy_alloc _ _ _⟩

end Go.Proofs.Ytecaolkbllbokaa.TG
