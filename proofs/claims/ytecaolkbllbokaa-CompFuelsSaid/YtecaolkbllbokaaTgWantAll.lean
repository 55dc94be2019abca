/-
  What a part wants, of whatever kind: the walks of want joined. Conditions: as each theorem states.
-/
import Derived.Test.YtecaolkbllbokaaTgWant
import Derived.Test.YtecaolkbllbokaaTgAlone2
import Derived.WalkKit
namespace Go.Proofs.Ytecaolkbllbokaa.TG
open Go.RowKit Go.Great
set_option linter.unusedSimpArgs false
set_option linter.unusedVariables false

/-- What a part wants, by its kind and what its kids want. -/
def wantE (k : Int) (ws : List Int) : Int :=
  if k = 12 ∨ k = 13 ∨ k = 14 ∨ k = 15 ∨ k = 16 then 1
  else if k = 1 ∨ k = 7 ∨ k = 8 then 0
  else if k = 20 ∨ k = 21 ∨ k = 3 ∨ k = 4 then max (ws.getD 0 0) (ws.getD 1 0 + 1)
  else if k = 23 ∨ k = 24 then max (max (ws.getD 0 0) (ws.getD 1 0)) 2
  else if k = 22 then max (ws.getD 0 0) 2
  else if k = 25 ∨ k = 26 then mostTo ws ws.length
  else ws.getD 0 0

/-- How many kids the kinds that look at them have at least. -/
def needs (k : Int) (n : Nat) : Prop :=
  ((k = 20 ∨ k = 21 ∨ k = 3 ∨ k = 4 ∨ k = 23 ∨ k = 24) → 2 ≤ n) ∧
  ((k = 2 ∨ k = 5 ∨ k = 6 ∨ k = 9 ∨ k = 10 ∨ k = 11 ∨ k = 17 ∨ k = 18 ∨ k = 19 ∨ k = 22) → 1 ≤ n)

theorem want_any (k n c : Int) (hk : 1 ≤ k ∧ k < 27) (v : Value) (ws : List Int) (w : World) (hv : Ints w v ws) (hL : ws.length ≤ 1000000000000000000) (hws : ∀ i, i < ws.length → 0 ≤ ws.getD i 0 ∧ ws.getD i 0 ≤ 1000000000000000000) (hn : needs k ws.length) :
    Calls Try.prog 87 #[.agg #[.int .i64 k, .int .i64 n, .int .i64 c], v] w fun e w' => e = .returned (.int .i64 (wantE k ws)) ∧ w.grownBy w' none := by
  have hv0 := hv
  obtain ⟨p, cap, rfl, hel⟩ := hv
  obtain ⟨n2, n1⟩ := hn
  unfold wantE
  by_cases cA : k = 12 ∨ k = 13 ∨ k = 14 ∨ k = 15 ∨ k = 16
  · rw [if_pos cA]; exact want_A k n c cA p cap _ w
  rw [if_neg cA]
  by_cases cF : k = 1 ∨ k = 7 ∨ k = 8
  · rw [if_pos cF]; exact want_F k n c cF p cap _ w
  rw [if_neg cF]
  by_cases cB : k = 20 ∨ k = 21 ∨ k = 3 ∨ k = 4
  · rw [if_pos cB]
    have h2 := n2 (by omega)
    obtain ⟨b, off, rfl, hb, hc⟩ := hel (by omega)
    exact want_B k n c cB b off cap _ _ _ h2 hL (hws 1 (by omega)) w hb (hc 0 (by omega)) (hc 1 (by omega))
  rw [if_neg cB]
  by_cases cD : k = 23 ∨ k = 24
  · rw [if_pos cD]
    have h2 := n2 (by omega)
    obtain ⟨b, off, rfl, hb, hc⟩ := hel (by omega)
    exact want_D k n c cD b off cap _ _ _ h2 hL (hws 1 (by omega)) w hb (hc 0 (by omega)) (hc 1 (by omega))
  rw [if_neg cD]
  by_cases cC : k = 22
  · rw [if_pos cC]
    have h2 := n1 (by omega)
    obtain ⟨b, off, rfl, hb, hc⟩ := hel (by omega)
    exact want_C k n c cC b off cap _ _ h2 hL w hb (hc 0 (by omega))
  rw [if_neg cC]
  by_cases cE : k = 25 ∨ k = 26
  · rw [if_pos cE]
    exact want_E k n c cE _ ws w hv0 hL hws
  rw [if_neg cE]
  have hkG : k = 2 ∨ k = 5 ∨ k = 6 ∨ k = 9 ∨ k = 10 ∨ k = 11 ∨ k = 17 ∨ k = 18 ∨ k = 19 := by omega
  have h2 := n1 (by omega)
  obtain ⟨b, off, rfl, hb, hc⟩ := hel (by omega)
  exact want_G k n c hkG b off cap _ _ h2 hL w hb (hc 0 (by omega))

theorem mostTo_pos (ws : List Int) (hws : ∀ i, i < ws.length → 0 ≤ ws.getD i 0) : ∀ k, k ≤ ws.length → 1 ≤ mostTo ws k
  | 0, _ => by unfold mostTo; omega
  | k + 1, h => by
    have := mostTo_pos ws hws k (by omega)
    rw [mostTo_step]; omega

theorem mostTo_bound (ws : List Int) (B : Int) (hB : 0 ≤ B) (hws : ∀ i, i < ws.length → ws.getD i 0 ≤ B) : ∀ k, k ≤ ws.length → mostTo ws k ≤ B + 1 + (k : Int)
  | 0, _ => by unfold mostTo; omega
  | k + 1, h => by
    have := mostTo_bound ws B hB hws k (by omega)
    have := hws k (by omega)
    rw [mostTo_step]; omega

theorem getD_le (ws : List Int) (B : Int) (hB : 0 ≤ B) (hws : ∀ i, i < ws.length → 0 ≤ ws.getD i 0 ∧ ws.getD i 0 ≤ B) (i : Nat) : 0 ≤ ws.getD i 0 ∧ ws.getD i 0 ≤ B := by
  by_cases h : i < ws.length
  · exact hws i h
  · have : ws.getD i 0 = 0 := by simp [List.getD, List.getElem?_eq_none (by omega : ws.length ≤ i)]
    omega

theorem wantE_bound (k : Int) (ws : List Int) (B : Int) (hB : 0 ≤ B) (hws : ∀ i, i < ws.length → 0 ≤ ws.getD i 0 ∧ ws.getD i 0 ≤ B) :
    0 ≤ wantE k ws ∧ wantE k ws ≤ B + 2 + (ws.length : Int) := by
  have g0 := getD_le ws B hB hws 0
  have g1 := getD_le ws B hB hws 1
  have m0 := mostTo_pos ws (fun i h => (hws i h).1) ws.length (Nat.le_refl _)
  have m1 := mostTo_bound ws B hB (fun i h => (hws i h).2) ws.length (Nat.le_refl _)
  unfold wantE
  repeat' split
  all_goals omega

end Go.Proofs.Ytecaolkbllbokaa.TG
