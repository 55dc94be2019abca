/-
  Walks of the reference's tables: which instructions reckon, the calls. Conditions: as each theorem states.
  Walks of the reference checker's small functions. Conditions: as each theorem states.
-/
import Derived.Test.YtecaolkbllbokaaMA00
import Derived.Test.YtecaolkbllbokaaMA05
import Derived.Test.YtecaolkbllbokaaMA26
namespace Go.Proofs.Ytecaolkbllbokaa.TG
open Go.RowKit Go.Great
set_option linter.unusedSimpArgs false
set_option linter.unusedVariables false

theorem rhas2_any (op : Int) (w : World) : Calls Try.prog 131 #[.int .i64 op] w fun e w' => e = .returned (.bool (opn op == 2)) ∧ w = w' := by
  rw [opn_two]
  by_cases c1 : 20 ≤ op
  · by_cases c2 : op ≤ 33
    · simp only [c1, c2, if_true]
      go_enter Try.func131, Try.ntmps131
      go_wp2
      go_ret
      exact ⟨by simp [c1, c2], rfl⟩
    · by_cases c3 : 36 ≤ op
      · by_cases c4 : op ≤ 41
        · simp only [c1, c2, c3, c4, if_true, if_false, decide_true]
          go_enter Try.func131, Try.ntmps131
          go_wp2
          go_ret
          exact ⟨by simp [c1, c2, c3, c4], rfl⟩
        · simp only [c1, c2, c3, c4, if_true, if_false, decide_false]
          go_enter Try.func131, Try.ntmps131
          go_wp2
          go_ret
          exact ⟨by simp [c1, c2, c3, c4], rfl⟩
      · simp only [c1, c2, c3, if_true, if_false]
        go_enter Try.func131, Try.ntmps131
        go_wp2
        go_ret
        exact ⟨by simp [c1, c2, c3], rfl⟩
  · have c3 : ¬ 36 ≤ op := by omega
    simp only [c1, if_false]
    go_enter Try.func131, Try.ntmps131
    go_wp2
    go_ret
    exact ⟨by simp [c1, c3], rfl⟩

theorem rhas1_any (op : Int) (w : World) : Calls Try.prog 130 #[.int .i64 op] w fun e w' => e = .returned (.bool (opn op == 1)) ∧ w = w' := by
  by_cases h1 : op = 34
  · subst h1
    have hz : (opn 34 == 1) = true := by decide
    rw [hz]; clear hz
    go_enter Try.func130, Try.ntmps130
    go_wp2
    go_ret
    exact ⟨rfl, rfl⟩
  have e1 : (op == 34) = false := beq_eq_false_iff_ne.2 h1
  by_cases h2 : op = 35
  · subst h2
    have hz : (opn 35 == 1) = true := by decide
    rw [hz]; clear hz
    go_enter Try.func130, Try.ntmps130
    go_wp2
    go_ret
    exact ⟨rfl, rfl⟩
  have e2 : (op == 35) = false := beq_eq_false_iff_ne.2 h2
  by_cases c1 : 42 ≤ op
  · by_cases c2 : op ≤ 45
    · have hz : (opn op == 1) = true := by rw [opn_one, decide_eq_true (by omega)]
      rw [hz]; clear hz h1 h2
      go_enter Try.func130, Try.ntmps130
      go_wp2
      go_ret
      exact ⟨by simp [c1, c2], rfl⟩
    · have hz : (opn op == 1) = false := by rw [opn_one, decide_eq_false (by omega)]
      rw [hz]; clear hz h1 h2
      go_enter Try.func130, Try.ntmps130
      go_wp2
      go_ret
      exact ⟨by simp [c1, c2], rfl⟩
  · have hz : (opn op == 1) = false := by rw [opn_one, decide_eq_false (by omega)]
    rw [hz]; clear hz h1 h2
    go_enter Try.func130, Try.ntmps130
    go_wp2
    go_ret
    exact ⟨by simp [c1], rfl⟩

theorem u8_ne (x : UInt8) : ((x.toNat : Int) != 32) = !decide (x = 32) := by
  by_cases h : x = 32
  · subst h; rfl
  · have : x.toNat ≠ 32 := fun e => h (by apply UInt8.toNat_inj.1; exact e)
    rw [decide_eq_false h]
    simp; omega

set_option maxHeartbeats 1000000 in
theorem rword11_any (ws : ByteArray) (hs : ws.size ≤ 1000000) (n : Nat) (hn : n ≤ 1000) (w : World) : Calls Try.prog 143 #[.string ws, .int .i64 n] w fun e w' => (∃ s, e = .returned (.string s)) ∧ w = w' := by
  go_enter Try.func143, Try.ntmps143
  go_wp2
  go_loop [1, 5, 6] (fun m f i => ∃ a b c : Nat, f = .int .i64 a ∧ i = .int .i64 b ∧ m = .int .i64 c ∧ a ≤ b ∧ b ≤ ws.size ∧ c ≤ 1000) (fun _ _ i => ws.size - (intOf i).toNat)
  case atStart => exact ⟨0, 0, n, rfl, rfl, rfl, Nat.le_refl _, Nat.zero_le _, hn⟩
  case round =>
    obtain ⟨a, b, c, rfl, rfl, rfl, hab, hb, hc⟩ := hrel
    by_cases hlt : b < ws.size
    · have hx := u8_ne (ws[b]'hlt)
      by_cases h32 : ws[b]'hlt = 32
      · rw [decide_eq_true h32] at hx
        by_cases hc0 : c = 0
        · subst hc0
          go_wp2
          go_ret
          exact ⟨⟨_, rfl⟩, rfl⟩
        · have e0 : ((c : Int) == 0) = false := by simp; omega
          go_wp2
          go_round
          case rel => exact ⟨b + 1, b + 1, c - 1, by go_num, by go_num, by congr 1; omega, by omega, by omega, by omega⟩
          case measure => simp [intOf]; omega
      · rw [decide_eq_false h32] at hx
        go_wp2
        go_round
        case rel => exact ⟨a, b + 1, c, rfl, by go_num, rfl, by omega, by omega, hc⟩
        case measure => simp [intOf]; omega
    · have hbe : b = ws.size := by omega
      subst hbe
      go_wp2
      go_ret
      exact ⟨⟨_, rfl⟩, rfl⟩

set_option maxHeartbeats 1000000 in
theorem rsys_any (n : Nat) (hn : n < 5) (w : World) :
    Calls Try.prog 132 #[.int .i64 n] w fun e w' => (∃ s x, e = .returned (.tuple #[.agg #[.string s, .int .i64 x, .int .i64 (sysTakes n), .int .i64 1], .bool true])) ∧ w.grownBy w' none := by
  have W := Lib.hid (fun ws (hs : ws.size ≤ 1000000) w' => rword11_any ws hs n (by omega) w')
  rcases (by omega : n = 0 ∨ n = 1 ∨ n = 2 ∨ n = 3 ∨ n = 4) with rfl | rfl | rfl | rfl | rfl
  all_goals
    go_enter Try.func132, Try.ntmps132
    go_wp2_with (go_at_call 143; refine (W.out _ (by decide) _).mono ?_; rintro e w' ⟨⟨s, rfl⟩, rfl⟩)
    (try simp only [Exit.inBlock, Exit.then])
    refine bodyPost_ret ?_ rfl ⟨⟨s, 0, rfl⟩, ?_⟩
    · rw [results_cell_tmp rfl]
      go_simp
      all_goals rfl
    · exact grownBy_trans (World.grownBy_alloc _ _ none) (World.grownBy_alloc _ _ none)

set_option maxHeartbeats 1000000 in
theorem rsys_out (n : Int) (hn : n < 0 ∨ 5 ≤ n) (w : World) :
    Calls Try.prog 132 #[.int .i64 n] w fun e w' => (∃ v, e = .returned (.tuple #[v, .bool false])) ∧ w.grownBy w' none := by
  rcases hn with hn | hn
  · go_enter Try.func132, Try.ntmps132
    go_wp2
    (try simp only [Exit.inBlock, Exit.then])
    refine bodyPost_ret (v := .tuple #[.agg #[.string ⟨#[]⟩, .int .i64 0, .int .i64 0, .int .i64 0], .bool false]) ?_ rfl ⟨⟨_, rfl⟩, ?_⟩
    · rw [results_cell_tmp rfl]
      go_simp
    · exact World.grownBy_alloc _ _ none
  · have hn0 : ¬ n < 0 := by omega
    go_enter Try.func132, Try.ntmps132
    go_wp2
    (try simp only [Exit.inBlock, Exit.then])
    refine bodyPost_ret (v := .tuple #[.agg #[.string ⟨#[]⟩, .int .i64 0, .int .i64 0, .int .i64 0], .bool false]) ?_ rfl ⟨⟨_, rfl⟩, ?_⟩
    · rw [results_cell_tmp rfl]
      go_simp
    · exact World.grownBy_alloc _ _ none

end Go.Proofs.Ytecaolkbllbokaa.TG

namespace Go.Proofs.Ytecaolkbllbokaa.TG
open Go.RowKit Go.Great
set_option linter.unusedSimpArgs false
set_option linter.unusedVariables false

/-- May a part of that kind stand there? -/
def standsB (k what : Int) : Bool := decide (1 ≤ k ∧ k < 27 ∧ (kindsE k = what ∨ (kindsE k = 0 ∧ what = 1)))

theorem standsB_alone {nl nt : Nat} {fs : List Int} {loops k n kc what : Int} : standsB k what = false ∨ (standsB k what = true ∧ aloneE nl nt fs loops k n kc what = if numE nl nt fs.length loops k n ≠ 0 then numE nl nt fs.length loops k n else kidsE (fs.getD n.toNat 0) k n kc) := by
  unfold standsB aloneE
  by_cases h : 1 ≤ k ∧ k < 27 ∧ (kindsE k = what ∨ (kindsE k = 0 ∧ what = 1))
  · right
    rw [decide_eq_true h]
    refine ⟨rfl, ?_⟩
    rw [if_neg (by omega), if_neg (by omega)]
  · left; exact decide_eq_false h
theorem stands_not {nl nt : Nat} {fs : List Int} {loops k n kc what : Int} (h : standsB k what = false) : aloneE nl nt fs loops k n kc what = 171 := by
  have h' := of_decide_eq_false h
  unfold aloneE
  by_cases h1 : k < 1 ∨ 27 ≤ k
  · rw [if_pos h1]
  · rw [if_neg h1, if_pos (by omega)]

theorem stands_0 (k : Int) : standsB k 0 = (k == 1) := by
  unfold standsB kindsE
  by_cases h : k = 1
  · subst h; rfl
  · have : (k == 1) = false := beq_eq_false_iff_ne.2 h
    rw [this]
    refine decide_eq_false ?_
    rw [if_neg h]
    split <;> omega
theorem stands_1 (k : Int) : standsB k 1 = (decide (1 ≤ k) && decide (k ≤ 11)) := by
  unfold standsB kindsE
  by_cases h : 1 ≤ k ∧ k ≤ 11
  · rw [decide_eq_true h.1, decide_eq_true h.2]
    refine decide_eq_true ⟨h.1, by omega, ?_⟩
    by_cases h1 : k = 1
    · rw [if_pos h1]; exact Or.inr ⟨rfl, rfl⟩
    · rw [if_neg h1, if_pos (by omega)]; exact Or.inl rfl
  · rw [show (decide (1 ≤ k) && decide (k ≤ 11)) = false by simp; omega]
    refine decide_eq_false ?_
    split
    · omega
    · split <;> omega
theorem stands_2 (k : Int) : standsB k 2 = (decide (12 ≤ k) && decide (k < 27)) := by
  unfold standsB kindsE
  by_cases h : 12 ≤ k ∧ k < 27
  · rw [decide_eq_true h.1, decide_eq_true h.2]
    refine decide_eq_true ⟨by omega, h.2, ?_⟩
    rw [if_neg (by omega), if_neg (by omega)]; exact Or.inl rfl
  · rw [show (decide (12 ≤ k) && decide (k < 27)) = false by simp; omega]
    refine decide_eq_false ?_
    split
    · omega
    · split <;> omega

theorem rstands_any (k what : Int) (hw : what = 0 ∨ what = 1 ∨ what = 2) (w : World) : Calls Try.prog 103 #[.int .i64 k, .int .i64 (what + 1)] w fun e w' => e = .returned (.bool (standsB k what)) ∧ w = w' := by
  rcases hw with rfl | rfl | rfl
  · rw [stands_0, show (0 : Int) + 1 = 1 from rfl]
    go_enter Try.func103, Try.ntmps103
    go_wp2
    go_ret
    exact ⟨rfl, rfl⟩
  · rw [stands_1, show (1 : Int) + 1 = 2 from rfl]
    by_cases h : 1 ≤ k
    · rw [decide_eq_true h, Bool.true_and]
      go_enter Try.func103, Try.ntmps103
      go_wp2
      go_ret
      exact ⟨rfl, rfl⟩
    · rw [decide_eq_false h, Bool.false_and]
      go_enter Try.func103, Try.ntmps103
      go_wp2
      go_ret
      exact ⟨rfl, rfl⟩
  · rw [stands_2, show (2 : Int) + 1 = 3 from rfl]
    by_cases h : 12 ≤ k
    · rw [decide_eq_true h, Bool.true_and]
      go_enter Try.func103, Try.ntmps103
      go_wp2
      go_ret
      exact ⟨rfl, rfl⟩
    · rw [decide_eq_false h, Bool.false_and]
      go_enter Try.func103, Try.ntmps103
      go_wp2
      go_ret
      exact ⟨rfl, rfl⟩

theorem rgreater_any (a b : Int) (w : World) : Calls Try.prog 107 #[.int .i64 a, .int .i64 b] w fun e w' => e = .returned (.int .i64 (max a b)) ∧ w = w' := by
  by_cases h : b < a
  · rw [show max a b = a by omega]
    go_enter Try.func107, Try.ntmps107
    go_wp2
    go_ret
    exact ⟨rfl, rfl⟩
  · rw [show max a b = b by omega]
    go_enter Try.func107, Try.ntmps107
    go_wp2
    go_ret
    exact ⟨rfl, rfl⟩

theorem rkid_any (k i : Int) (w : World) : Calls Try.prog 106 #[.int .i64 k, .int .i64 i] w fun e w' => e = .returned (.int .i64 (kidE k i + 1)) ∧ w = w' := by
  unfold kidE
  by_cases h1 : k = 1
  · subst h1
    rw [if_pos rfl]
    go_enter Try.func106, Try.ntmps106
    go_wp2
    go_ret
    exact ⟨rfl, rfl⟩
  have e1 : (k == 1) = false := beq_eq_false_iff_ne.2 h1
  rw [if_neg h1]
  by_cases h2 : 0 < i
  · by_cases h5 : k = 5
    · subst h5
      rw [if_pos ⟨Or.inl rfl, h2⟩]
      clear h1
      go_enter Try.func106, Try.ntmps106
      go_wp2
      go_ret
      exact ⟨rfl, rfl⟩
    have e5 : (k == 5) = false := beq_eq_false_iff_ne.2 h5
    by_cases h6 : k = 6
    · subst h6
      rw [if_pos ⟨Or.inr rfl, h2⟩]
      clear h1 h5
      go_enter Try.func106, Try.ntmps106
      go_wp2
      go_ret
      exact ⟨rfl, rfl⟩
    have e6 : (k == 6) = false := beq_eq_false_iff_ne.2 h6
    rw [if_neg (by omega)]
    clear h1 h5 h6
    go_enter Try.func106, Try.ntmps106
    go_wp2
    go_ret
    exact ⟨rfl, rfl⟩
  · rw [if_neg (by omega)]
    by_cases h5 : k = 5
    · subst h5
      clear h1
      go_enter Try.func106, Try.ntmps106
      go_wp2
      go_ret
      exact ⟨rfl, rfl⟩
    have e5 : (k == 5) = false := beq_eq_false_iff_ne.2 h5
    by_cases h6 : k = 6
    · subst h6
      clear h1 h5
      go_enter Try.func106, Try.ntmps106
      go_wp2
      go_ret
      exact ⟨rfl, rfl⟩
    have e6 : (k == 6) = false := beq_eq_false_iff_ne.2 h6
    clear h1 h5 h6
    go_enter Try.func106, Try.ntmps106
    go_wp2
    go_ret
    exact ⟨rfl, rfl⟩

/-- The reference checker's block. -/
def CkR (w : World) (Bc : Nat) (vt vf : Value) (nm : ByteArray) (ar : Int) (vl vp : Value) (a : Nat) (e m : Int) : Prop :=
  w.heap[Bc]? = some (.cells #[vt, vf, .string nm, .int .i64 ar, vl, vp, .int .i64 a, .int .i64 e, .int .i64 m] 153 (0, 0))

theorem rfail_any (Bc : Nat) (vt vf : Value) (nm : ByteArray) (ar : Int) (vl vp : Value) (a : Nat) (x m : Int) (w : World) (h : CkR w Bc vt vf nm ar vl vp a 0 m) :
    Calls Try.prog 102 #[.pointer (some ⟨Bc, 0, none⟩), .int .i64 x] w fun e w' => e = .returned (.int .i64 0) ∧ w' = w.setCell ⟨Bc, 7, none⟩ (.int .i64 x) := by
  have c7 := cell_of_row w Bc 7 _ _ _ h
  have z7 := frozen_of_row w Bc 7 _ _ h
  have lt := (Array.getElem?_eq_some_iff.1 h).1
  clear h
  go_enter Try.func102, Try.ntmps102
  go_wp2
  go_ret
  exact ⟨rfl, rfl⟩

end Go.Proofs.Ytecaolkbllbokaa.TG
