/-
  Walks of the leaves of package tongue's check: letters, digits, kept words, names. Conditions: as each theorem states.
-/
import Derived.Test.YtecaolkbllbokaaProg
import Derived.WalkKit
import Derived.WalkLawsBesides
import Derived.RowKit3
import Derived.Deep.Draws
import Derived.Lib.Hide
import Derived.Great.BuildSlice
import Derived.Great.Walk
import Derived.Outline
namespace Go.Proofs.Ytecaolkbllbokaa.TG
open Go.RowKit Go.Great
set_option linter.unusedSimpArgs false
set_option linter.unusedVariables false

/-- A letter or the low line; a digit. -/
def letterB (c : Int) : Bool := c == 95 || decide (97 ≤ c) && decide (c ≤ 122) || decide (65 ≤ c) && decide (c ≤ 90)
def digitB (c : Int) : Bool := decide (48 ≤ c) && decide (c ≤ 57)

theorem letter_cases (c : Int) :
    (c = 95 ∧ letterB c = true) ∨ ((c == 95) = false ∧ 97 ≤ c ∧ c ≤ 122 ∧ letterB c = true) ∨ ((c == 95) = false ∧ 97 ≤ c ∧ 122 < c ∧ letterB c = false) ∨
    ((c == 95) = false ∧ c < 97 ∧ 65 ≤ c ∧ c ≤ 90 ∧ letterB c = true) ∨ ((c == 95) = false ∧ c < 97 ∧ 65 ≤ c ∧ 90 < c ∧ letterB c = false) ∨ ((c == 95) = false ∧ c < 65 ∧ letterB c = false) := by
  unfold letterB
  by_cases h1 : c = 95
  · left; subst h1; exact ⟨rfl, by decide⟩
  · have e : (c == 95) = false := beq_eq_false_iff_ne.2 h1
    right; rw [e]
    by_cases h2 : 97 ≤ c
    · have h6 : 65 ≤ c := by omega
      have h7 : ¬ c ≤ 90 := by omega
      by_cases h3 : c ≤ 122
      · left; simp [h2, h3]
      · right; left; refine ⟨rfl, h2, by omega, ?_⟩; simp [h2, h3, h6, h7]
    · right; right
      by_cases h4 : 65 ≤ c
      · by_cases h5 : c ≤ 90
        · left; refine ⟨rfl, by omega, h4, h5, ?_⟩; simp [h2, h4, h5]
        · right; left; refine ⟨rfl, by omega, h4, by omega, ?_⟩; simp [h2, h4, h5]
      · right; right; refine ⟨rfl, by omega, ?_⟩; simp [h2, h4]

theorem ret_int {k : IntKind} {a b : Int} (h : a = b) : Ending.returned (.int k a) = .returned (.int k b) := by rw [h]

theorem letter_any (c : Int) (w : World) : Calls Try.prog 82 #[.int .u8 c] w fun e w' => e = .returned (.bool (letterB c)) ∧ w = w' := by
  rcases letter_cases c with ⟨rfl, h⟩ | ⟨h1, h2, h3, h⟩ | ⟨h1, h2, h3, h⟩ | ⟨h1, h2, h3, h4, h⟩ | ⟨h1, h2, h3, h4, h⟩ | ⟨h1, h2, h⟩
  all_goals
    rw [h]; clear h
    go_enter Try.func82, Try.ntmps82
    go_wp2
    go_ret
    first
      | exact ⟨rfl, rfl⟩
      | exact ⟨by simp; omega, rfl⟩

theorem digit_any (c : Int) (w : World) : Calls Try.prog 84 #[.int .u8 c] w fun e w' => e = .returned (.bool (digitB c)) ∧ w = w' := by
  by_cases h1 : 48 ≤ c
  · have h : digitB c = decide (c ≤ 57) := by unfold digitB; simp [h1]
    rw [h]; clear h
    go_enter Try.func84, Try.ntmps84
    go_wp2
    go_ret
    exact ⟨rfl, rfl⟩
  · have h : digitB c = false := by unfold digitB; simp [h1]
    rw [h]; clear h
    go_enter Try.func84, Try.ntmps84
    go_wp2
    go_ret
    first | exact ⟨rfl, rfl⟩ | exact ⟨by simp, rfl⟩ | exact ⟨by simp; omega, rfl⟩

/-- The place of a word in a list; -1: it is not there. -/
def placeOf (l : List ByteArray) (s : ByteArray) : Int := match l.findIdx? (fun v => s.toList == v.toList) with | some k => (k : Int) | none => -1
def among (l : List ByteArray) (s : ByteArray) : Bool := l.any fun v => s.toList == v.toList

theorem placeOf_at (l : List ByteArray) (s : ByteArray) (k : Nat) (hk : k < l.length) (hs : (s.toList == l[k].toList) = true) (hno : ∀ j (h : j < l.length), j < k → (s.toList == l[j].toList) = false) : placeOf l s = (k : Int) := by
  unfold placeOf
  rw [List.findIdx?_eq_some_iff_getElem.2 ⟨hk, hs, fun j hj => by have := hno j (by omega) hj; simpa using this⟩]
theorem placeOf_none (l : List ByteArray) (s : ByteArray) (hno : ∀ j (h : j < l.length), (s.toList == l[j].toList) = false) : placeOf l s = -1 := by
  unfold placeOf
  rw [List.findIdx?_eq_none_iff.2 (fun x hx => by obtain ⟨j, h, rfl⟩ := List.getElem_of_mem hx; exact hno j h)]
theorem placeOf_any (l : List ByteArray) (s : ByteArray) : decide (0 ≤ placeOf l s) = among l s := by
  unfold placeOf among
  cases h : l.findIdx? (fun v => s.toList == v.toList) with
  | none =>
    rw [List.findIdx?_eq_none_iff] at h
    have : l.any (fun v => s.toList == v.toList) = false := by
      rw [List.any_eq_false]; intro x hx; rw [h x hx]; decide
    rw [this]; rfl
  | some k =>
    obtain ⟨hk, hs, _⟩ := List.findIdx?_eq_some_iff_getElem.1 h
    have : l.any (fun v => s.toList == v.toList) = true := List.any_eq_true.2 ⟨l[k], List.getElem_mem hk, hs⟩
    rw [this]; simp

theorem sindex_any (b off len cap : Nat) (l : List ByteArray) (s : ByteArray) (w : World) (hl : l.length = len) (hlen : len ≤ 9223372036854775807)
    (hc : ∀ i (h : i < l.length), w.cell? ⟨b, off + i, none⟩ = some (.string l[i])) :
    Calls Try.prog 134 #[.slice (some ⟨b, off, none⟩) len cap, .string s] w fun e w' => e = .returned (.int .i64 (placeOf l s)) ∧ w = w' := by
  have HC := Lib.hid hc
  clear hc
  go_enter Try.func134, Try.ntmps134
  go_wp2
  go_loop [8] (fun i => ∃ k : Nat, k ≤ len ∧ i = .int .i64 k ∧ ∀ j (h : j < l.length), j < k → (s.toList == l[j].toList) = false) (fun i => len - (intOf i).toNat)
  case atStart => exact ⟨0, Nat.zero_le _, rfl, fun j _ h => absurd h (Nat.not_lt_zero _)⟩
  case round =>
    obtain ⟨k, hk, rfl, hno⟩ := hrel
    have HN := Lib.hid hno
    clear hno
    by_cases hlt : k < len
    · have kl : k < l.length := by omega
      have g := HC.out k kl
      clear hl
      cases hs : (s.toList == (l[k]'kl).toList) with
      | true =>
        have HP := Lib.hid (placeOf_at l s k kl hs HN.out)
        go_wp2
        go_ret
        exact ⟨ret_int HP.out.symm, rfl⟩
      | false =>
        have HF := Lib.hid hs
        go_wp2
        go_round
        case rel => exact ⟨k + 1, by omega, by go_num, fun j h hj => by
          rcases Nat.lt_or_eq_of_le (Nat.le_of_lt_succ hj) with h1 | h1
          · exact HN.out j h h1
          · subst h1; exact HF.out⟩
        case measure => simp [intOf]; omega
    · have : k = len := by omega
      have HP := Lib.hid (placeOf_none l s (fun j h => HN.out j h (by omega)))
      clear hl
      subst this
      go_wp2
      go_ret
      exact ⟨ret_int HP.out.symm, rfl⟩

theorem contains_any (b off len cap : Nat) (l : List ByteArray) (s : ByteArray) (w : World) (hl : l.length = len) (hlen : len ≤ 9223372036854775807)
    (hc : ∀ i (h : i < l.length), w.cell? ⟨b, off + i, none⟩ = some (.string l[i])) :
    Calls Try.prog 112 #[.slice (some ⟨b, off, none⟩) len cap, .string s] w fun e w' => e = .returned (.bool (among l s)) ∧ w = w' := by
  have H := Lib.hid (sindex_any b off len cap l s w hl hlen hc)
  have HA := Lib.hid (placeOf_any l s)
  clear hc hl
  generalize placeOf l s = v at *
  go_enter Try.func112, Try.ntmps112
  go_wp2_with (go_at_call 134; refine H.out.mono ?_; rintro e w' ⟨rfl, rfl⟩)
  go_ret
  exact ⟨congrArg (fun b => Ending.returned (Value.bool b)) HA.out, rfl⟩

end Go.Proofs.Ytecaolkbllbokaa.TG
