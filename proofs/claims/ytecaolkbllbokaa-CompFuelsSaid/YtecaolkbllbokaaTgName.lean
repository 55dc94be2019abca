/-
  Walks of package tongue's isKept and isName. Conditions: as each theorem states.
-/
import Derived.Test.YtecaolkbllbokaaTgLeaf
import Derived.Laws.AppendOwn
namespace Go.Proofs.Ytecaolkbllbokaa.TG
open Go.RowKit Go.Great
set_option linter.unusedSimpArgs false
set_option linter.unusedVariables false

/-- The words that are kept. -/
def kwords : List ByteArray := [⟨#[116, 101, 120, 116]⟩, ⟨#[102, 117, 110, 99]⟩, ⟨#[105, 102]⟩, ⟨#[101, 108, 115, 101]⟩, ⟨#[119, 104, 105, 108, 101]⟩, ⟨#[98, 114, 101, 97, 107]⟩, ⟨#[99, 111, 110, 116, 105, 110, 117, 101]⟩, ⟨#[114, 101, 116, 117, 114, 110]⟩, ⟨#[97, 98, 111, 114, 116]⟩, ⟨#[100, 111]⟩, ⟨#[119, 111, 114, 100]⟩, ⟨#[98, 121, 116, 101]⟩, ⟨#[115, 105, 122, 101]⟩, ⟨#[114, 111, 111, 116]⟩, ⟨#[102, 108, 111, 97, 116]⟩, ⟨#[105, 110, 116]⟩, ⟨#[111, 112, 101, 110]⟩, ⟨#[114, 101, 97, 100]⟩, ⟨#[119, 114, 105, 116, 101]⟩, ⟨#[108, 105, 115, 116]⟩, ⟨#[99, 108, 111, 115, 101]⟩]
def kcells : Array Value := (kwords.map Value.string).toArray

theorem kcells_at (w : World) (i : Nat) (h : i < kwords.length) : (w.alloc (.cells kcells 9)).cell? ⟨w.heap.size, 0 + i, none⟩ = some (.string kwords[i]) := by
  rw [World.cell?_alloc_at _ _ _ _ rfl, Nat.zero_add]
  unfold kcells
  rw [List.getElem?_toArray, List.getElem?_map, List.getElem?_eq_getElem h]; rfl

theorem grownBy_refl (w : World) (r : Option Nat) : w.grownBy w r := ⟨rfl, rfl, rfl, Nat.le_refl _, fun _ _ _ => rfl⟩
theorem grownBy_trans {a b c : World} {r : Option Nat} (h : a.grownBy b r) (g : b.grownBy c r) : a.grownBy c r :=
  ⟨g.os.trans h.os, g.tape.trans h.tape, g.output.trans h.output, Nat.le_trans h.size g.size, fun k hk hr => (g.block k (Nat.lt_of_lt_of_le hk h.size) hr).trans (h.block k hk hr)⟩

set_option maxHeartbeats 1000000 in
theorem kept_any (s : ByteArray) (w : World) : Calls Try.prog 83 #[.string s] w fun e w' => e = .returned (.bool (among kwords s)) ∧ w.grownBy w' none := by
  have H := Lib.hid (contains_any w.heap.size 0 21 21 kwords s (w.alloc (.cells kcells 9)) rfl (by omega) (kcells_at w))
  generalize among kwords s = v at *
  go_enter Try.func83, Try.ntmps83
  go_wp2_with (first
    | (refine wpList_buildSliceTo rfl 66 9 21 _ rfl w.heap.size rfl (some 3) rfl Try.underlying66 kcells (by kernel_rfl) ?_)
    | (go_at_call 112; refine H.out.mono ?_; rintro e w' ⟨rfl, rfl⟩))
  go_ret
  exact ⟨rfl, World.grownBy_alloc _ _ _⟩

/-- May a byte stand in a name behind its first? -/
def tailB (c : Int) : Bool := letterB c || digitB c
/-- May it be a name? -/
def nameB (s : ByteArray) : Bool := decide (1 ≤ s.size) && decide (s.size ≤ 64) && letterB ((s.data.toList.headD 0).toNat : Int) && !among kwords s && s.data.toList.all fun c => tailB (c.toNat : Int)

theorem all_of (s : ByteArray) (h : ∀ j (hj : j < s.size), tailB ((s[j]'hj).toNat : Int) = true) : (s.data.toList.all fun c => tailB (c.toNat : Int)) = true := by
  rw [List.all_eq_true]
  intro x hx
  obtain ⟨j, hj, rfl⟩ := List.getElem_of_mem hx
  exact h j (by simpa using hj)
theorem not_all (s : ByteArray) (j : Nat) (hj : j < s.size) (h : tailB ((s[j]'hj).toNat : Int) = false) : (s.data.toList.all fun c => tailB (c.toNat : Int)) = false := by
  rw [List.all_eq_false]
  refine ⟨s[j], ?_, by rw [h]; decide⟩
  have : s[j] ∈ s.data.toList := by
    show s.data[j] ∈ s.data.toList
    exact List.getElem_mem (l := s.data.toList) (by simpa using hj)
  exact this
theorem head_is (s : ByteArray) (h : 0 < s.size) : s.data.toList.headD 0 = s[0] := by
  show s.data.toList.headD 0 = s.data[0]
  have h2 : 0 < s.data.toList.length := by simpa using h
  cases hl : s.data.toList with
  | nil => rw [hl] at h2; simp at h2
  | cons a l =>
    have : s.data[0]'(by simpa using h) = s.data.toList[0]'h2 := rfl
    rw [this]; simp [hl]

set_option maxHeartbeats 1000000 in
theorem name_any (s : ByteArray) (w : World) : Calls Try.prog 53 #[.string s] w fun e w' => e = .returned (.bool (nameB s)) ∧ w.grownBy w' none := by
  by_cases h1 : s.size < 1
  · have hn : nameB s = false := by unfold nameB; rw [decide_eq_false (by omega)]; rfl
    rw [hn]; clear hn
    go_enter Try.func53, Try.ntmps53
    go_wp2
    go_ret
    exact ⟨rfl, grownBy_refl _ _⟩
  by_cases h2 : 64 < s.size
  · have hn : nameB s = false := by unfold nameB; rw [decide_eq_false (show ¬ s.size ≤ 64 by omega)]; simp
    rw [hn]; clear hn
    go_enter Try.func53, Try.ntmps53
    go_wp2
    go_ret
    exact ⟨rfl, grownBy_refl _ _⟩
  have h0 : 0 < s.size := by omega
  cases h3 : letterB ((s[0]'h0).toNat : Int) with
  | false =>
    have hn : nameB s = false := by unfold nameB; rw [head_is s h0, h3]; simp
    rw [hn]; clear hn
    go_enter Try.func53, Try.ntmps53
    go_wp2_with (go_at_call 82; refine (letter_any _ _).mono ?_; rintro e w' ⟨rfl, rfl⟩)
    go_ret
    exact ⟨rfl, grownBy_refl _ _⟩
  | true =>
    have K := Lib.hid (kept_any s)
    cases h4 : among kwords s with
    | true =>
      have hn : nameB s = false := by unfold nameB; rw [h4]; simp
      rw [hn]; clear hn
      rw [h4] at K
      go_enter Try.func53, Try.ntmps53
      go_wp2_with (first | (go_at_call 82; refine (letter_any _ _).mono ?_; rintro e w' ⟨rfl, rfl⟩) | (go_at_call 83; refine (K.out _).mono ?_; rintro e w' ⟨rfl, hg⟩))
      go_ret
      exact ⟨rfl, hg⟩
    | false =>
      have hn : nameB s = s.data.toList.all fun c => tailB (c.toNat : Int) := by
        unfold nameB; rw [head_is s h0, h3, h4, decide_eq_true (by omega), decide_eq_true (by omega)]; rfl
      rw [hn]; clear hn
      rw [h4] at K
      have HA := Lib.hid (all_of s)
      have HN := Lib.hid (not_all s)
      generalize (s.data.toList.all fun c => tailB (c.toNat : Int)) = v at *
      go_enter Try.func53, Try.ntmps53
      go_wp2_with (first | (go_at_call 82; refine (letter_any _ _).mono ?_; rintro e w' ⟨rfl, rfl⟩) | (go_at_call 83; refine (K.out _).mono ?_; rintro e w1 ⟨rfl, hg⟩))
      go_loop [24] (fun i => ∃ k : Nat, k ≤ s.size ∧ i = .int .i64 k ∧ ∀ j (hj : j < s.size), j < k → tailB ((s[j]'hj).toNat : Int) = true) (fun i => s.size - (intOf i).toNat)
      case atStart => exact ⟨0, Nat.zero_le _, rfl, fun j _ h => absurd h (Nat.not_lt_zero _)⟩
      case round =>
        obtain ⟨k, hk, rfl, hall⟩ := hrel
        have HL := Lib.hid hall
        clear hall
        by_cases hlt : k < s.size
        · cases c1 : letterB ((s[k]'hlt).toNat : Int) with
          | true =>
            have ht : tailB ((s[k]'hlt).toNat : Int) = true := by unfold tailB; rw [c1]; rfl
            have HT := Lib.hid ht
            clear ht
            go_wp2_with (go_at_call 82; refine (letter_any _ _).mono ?_; rintro e w' ⟨rfl, rfl⟩)
            go_round
            case rel => exact ⟨k + 1, by omega, by go_num, fun j hj h => by
              rcases Nat.lt_or_eq_of_le (Nat.le_of_lt_succ h) with h5 | h5
              · exact HL.out j hj h5
              · subst h5; exact HT.out⟩
            case measure => simp [intOf]; omega
          | false =>
            cases c2 : digitB ((s[k]'hlt).toNat : Int) with
            | true =>
              have ht : tailB ((s[k]'hlt).toNat : Int) = true := by unfold tailB; rw [c1, c2]; rfl
              have HT := Lib.hid ht
              clear ht
              go_wp2_with (first | (go_at_call 82; refine (letter_any _ _).mono ?_; rintro e w' ⟨rfl, rfl⟩) | (go_at_call 84; refine (digit_any _ _).mono ?_; rintro e w' ⟨rfl, rfl⟩))
              go_round
              case rel => exact ⟨k + 1, by omega, by go_num, fun j hj h => by
                rcases Nat.lt_or_eq_of_le (Nat.le_of_lt_succ h) with h5 | h5
                · exact HL.out j hj h5
                · subst h5; exact HT.out⟩
              case measure => simp [intOf]; omega
            | false =>
              have ht : v = false := HN.out k hlt (by unfold tailB; rw [c1, c2]; rfl)
              have HT := Lib.hid ht
              clear ht
              go_wp2_with (first | (go_at_call 82; refine (letter_any _ _).mono ?_; rintro e w' ⟨rfl, rfl⟩) | (go_at_call 84; refine (digit_any _ _).mono ?_; rintro e w' ⟨rfl, rfl⟩))
              go_ret
              exact ⟨by rw [HT.out]; rfl, hg⟩
        · have ht : v = true := HA.out (fun j hj => HL.out j hj (by omega))
          have HT := Lib.hid ht
          clear ht
          go_wp2
          go_ret
          exact ⟨by rw [HT.out]; rfl, hg⟩

end Go.Proofs.Ytecaolkbllbokaa.TG
