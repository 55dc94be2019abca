/-
  Walk of package tongue's want: how many cells a part wants. Conditions: as each theorem states.
-/
import Derived.Test.YtecaolkbllbokaaTgKind
import Derived.Deep.QuietTactic
import Derived.BigQuiet
namespace Go.Proofs.Ytecaolkbllbokaa.TG
open Go.RowKit Go.Great
set_option linter.unusedSimpArgs false
set_option linter.unusedVariables false

/-- A slice value that reads as these ints. -/
def Ints (w : World) (v : Value) (l : List Int) : Prop := ∃ (p : Option Addr) (cap : Nat), v = .slice p l.length cap ∧
  (0 < l.length → ∃ b off : Nat, p = some ⟨b, off, none⟩ ∧ b < w.heap.size ∧ ∀ i, i < l.length → w.cell? ⟨b, off + i, none⟩ = some (.int .i64 (l.getD i 0)))

theorem grownBy_quiet (w : World) (o : Obj) (n : Nat) : w.grownBy ((w.alloc o).drewN n) none := ⟨rfl, rfl, rfl, by simp, fun k hk _ => (World.grownBy_alloc w o none).block k hk (by simp)⟩

def mostTo (ws : List Int) : Nat → Int
  | 0 => 1
  | k + 1 => max (mostTo ws k) ((k : Int) + ws.getD k 0)

set_option maxRecDepth 100000 in
set_option maxHeartbeats 2000000 in
theorem want_A (k n c : Int) (hk : k = 12 ∨ k = 13 ∨ k = 14 ∨ k = 15 ∨ k = 16) (p : Option Addr) (cap L : Nat) (w : World) :
    Calls Try.prog 87 #[.agg #[.int .i64 k, .int .i64 n, .int .i64 c], .slice p L cap] w fun e w' => e = .returned (.int .i64 (1)) ∧ w.grownBy w' none := by
  rcases hk with rfl | rfl | rfl | rfl | rfl
  all_goals
    go_enter Try.func87, Try.ntmps87
    go_wp2
    go_ret
    exact ⟨rfl, World.grownBy_alloc _ _ _⟩

set_option maxRecDepth 100000 in
set_option maxHeartbeats 2000000 in
theorem want_F (k n c : Int) (hk : k = 1 ∨ k = 7 ∨ k = 8) (p : Option Addr) (cap L : Nat) (w : World) :
    Calls Try.prog 87 #[.agg #[.int .i64 k, .int .i64 n, .int .i64 c], .slice p L cap] w fun e w' => e = .returned (.int .i64 (0)) ∧ w.grownBy w' none := by
  rcases hk with rfl | rfl | rfl
  all_goals
    go_enter Try.func87, Try.ntmps87
    go_wp2
    go_ret
    exact ⟨rfl, World.grownBy_alloc _ _ _⟩

set_option maxRecDepth 100000 in
set_option maxHeartbeats 2000000 in
theorem want_B (k n c : Int) (hk : k = 20 ∨ k = 21 ∨ k = 3 ∨ k = 4) (b off cap L : Nat) (x y : Int) (hL : 2 ≤ L) (hLb : L ≤ 1000000000000000000) (hy : 0 ≤ y ∧ y ≤ 1000000000000000000) (w : World) (hb : b < w.heap.size) (h0 : w.cell? ⟨b, off, none⟩ = some (.int .i64 x)) (h1 : w.cell? ⟨b, off + 1, none⟩ = some (.int .i64 y)) :
    Calls Try.prog 87 #[.agg #[.int .i64 k, .int .i64 n, .int .i64 c], .slice (some ⟨b, off, none⟩) L cap] w fun e w' => e = .returned (.int .i64 (max x (y + 1))) ∧ w.grownBy w' none := by
  obtain ⟨hy0, hy1⟩ := hy
  have i0 : (0 : Int) < (L : Int) := by omega
  have i1 : (1 : Int) < (L : Int) := by omega
  rcases hk with rfl | rfl | rfl | rfl
  all_goals
    go_enter Try.func87, Try.ntmps87
    go_wp2
    go_quiet (fail)
    go_wp2
    go_ret
    exact ⟨ret_int (by omega), grownBy_quiet _ _ _⟩

set_option maxRecDepth 100000 in
set_option maxHeartbeats 2000000 in
theorem want_D (k n c : Int) (hk : k = 23 ∨ k = 24) (b off cap L : Nat) (x y : Int) (hL : 2 ≤ L) (hLb : L ≤ 1000000000000000000) (hy : 0 ≤ y ∧ y ≤ 1000000000000000000) (w : World) (hb : b < w.heap.size) (h0 : w.cell? ⟨b, off, none⟩ = some (.int .i64 x)) (h1 : w.cell? ⟨b, off + 1, none⟩ = some (.int .i64 y)) :
    Calls Try.prog 87 #[.agg #[.int .i64 k, .int .i64 n, .int .i64 c], .slice (some ⟨b, off, none⟩) L cap] w fun e w' => e = .returned (.int .i64 (max (max x y) 2)) ∧ w.grownBy w' none := by
  obtain ⟨hy0, hy1⟩ := hy
  have i0 : (0 : Int) < (L : Int) := by omega
  have i1 : (1 : Int) < (L : Int) := by omega
  rcases hk with rfl | rfl
  all_goals
    go_enter Try.func87, Try.ntmps87
    go_wp2
    go_quiet (fail)
    go_wp2
    all_goals (go_ret; exact ⟨ret_int (by omega), grownBy_quiet _ _ _⟩)

set_option maxRecDepth 100000 in
set_option maxHeartbeats 2000000 in
theorem want_C (k n c : Int) (hk : k = 22) (b off cap L : Nat) (x : Int) (hL : 1 ≤ L) (hLb : L ≤ 1000000000000000000) (w : World) (hb : b < w.heap.size) (h0 : w.cell? ⟨b, off, none⟩ = some (.int .i64 x)) :
    Calls Try.prog 87 #[.agg #[.int .i64 k, .int .i64 n, .int .i64 c], .slice (some ⟨b, off, none⟩) L cap] w fun e w' => e = .returned (.int .i64 (max x 2)) ∧ w.grownBy w' none := by
  have i0 : (0 : Int) < (L : Int) := by omega
  rcases hk with rfl
  all_goals
    go_enter Try.func87, Try.ntmps87
    go_wp2
    go_ret
    exact ⟨ret_int (by omega), World.grownBy_alloc _ _ _⟩

set_option maxRecDepth 100000 in
set_option maxHeartbeats 2000000 in
theorem want_G (k n c : Int) (hk : k = 2 ∨ k = 5 ∨ k = 6 ∨ k = 9 ∨ k = 10 ∨ k = 11 ∨ k = 17 ∨ k = 18 ∨ k = 19) (b off cap L : Nat) (x : Int) (hL : 1 ≤ L) (hLb : L ≤ 1000000000000000000) (w : World) (hb : b < w.heap.size) (h0 : w.cell? ⟨b, off, none⟩ = some (.int .i64 x)) :
    Calls Try.prog 87 #[.agg #[.int .i64 k, .int .i64 n, .int .i64 c], .slice (some ⟨b, off, none⟩) L cap] w fun e w' => e = .returned (.int .i64 (x)) ∧ w.grownBy w' none := by
  have i0 : (0 : Int) < (L : Int) := by omega
  rcases hk with rfl | rfl | rfl | rfl | rfl | rfl | rfl | rfl | rfl
  all_goals
    go_enter Try.func87, Try.ntmps87
    go_wp2
    go_ret
    exact ⟨rfl, World.grownBy_alloc _ _ _⟩

theorem mostTo_step (ws : List Int) (k : Nat) : mostTo ws (k + 1) = max (mostTo ws k) ((k : Int) + ws.getD k 0) := rfl
theorem mostTo_le (ws : List Int) (hws : ∀ i, i < ws.length → ws.getD i 0 ≤ 1000000000000000000) : ∀ k, k ≤ ws.length → mostTo ws k ≤ 1000000000000000000 + (k : Int)
  | 0, _ => by unfold mostTo; omega
  | k + 1, h => by
    have := mostTo_le ws hws k (by omega)
    have := hws k (by omega)
    rw [mostTo_step]; omega

set_option maxRecDepth 100000 in
set_option maxHeartbeats 2000000 in
theorem want_E (k n c : Int) (hk : k = 25 ∨ k = 26) (v : Value) (ws : List Int) (w : World) (hv : Ints w v ws) (hL : ws.length ≤ 1000000000000000000) (hws : ∀ i, i < ws.length → 0 ≤ ws.getD i 0 ∧ ws.getD i 0 ≤ 1000000000000000000) :
    Calls Try.prog 87 #[.agg #[.int .i64 k, .int .i64 n, .int .i64 c], v] w fun e w' => e = .returned (.int .i64 (mostTo ws ws.length)) ∧ w.grownBy w' none := by
  obtain ⟨p, cap, rfl, hel⟩ := hv
  have HW := Lib.hid hws
  clear hws
  rcases Nat.eq_zero_or_pos ws.length with h0 | h0
  · clear hel
    rw [h0]
    have hm : mostTo ws 0 = 1 := rfl
    rw [hm]
    clear h0 hm hL
    rcases hk with rfl | rfl
    all_goals
      go_enter Try.func87, Try.ntmps87
      go_wp2
      go_loop [5, 50] (fun m i => m = .int .i64 1 ∧ i = .int .i64 0) (fun m i => 0)
      case atStart => exact ⟨rfl, rfl⟩
      case round =>
        obtain ⟨rfl, rfl⟩ := hrel
        go_wp2
        go_ret
        exact ⟨rfl, World.grownBy_alloc _ _ _⟩
  · obtain ⟨b, off, rfl, hb, hcell⟩ := hel h0
    have HC := Lib.hid hcell
    clear hcell hel
    have hlen : ws.length = ws.length := rfl
    generalize hLL : ws.length = L at *
    rcases hk with rfl | rfl
    all_goals
      go_enter Try.func87, Try.ntmps87
      go_wp2
      go_loop [5, 50] (fun m i => ∃ j : Nat, j ≤ L ∧ i = .int .i64 j ∧ m = .int .i64 (mostTo ws j)) (fun m i => L - (intOf i).toNat)
      case atStart => exact ⟨0, Nat.zero_le _, rfl, rfl⟩
      case round =>
        obtain ⟨j, hj, rfl, rfl⟩ := hrel
        by_cases hlt : j < L
        · have g := HC.out j hlt
          have HB := HW.out j hlt
          have HM := Lib.hid (mostTo_step ws j)
          have hmb := mostTo_le ws (fun i hi => (HW.out i (by omega)).2) j (by omega)
          generalize ws.getD j 0 = x at *
          generalize mostTo ws j = m at *
          obtain ⟨hx0, hx1⟩ := HB
          go_wp2
          all_goals
            go_round
            case rel => exact ⟨j + 1, by omega, by go_num, by rw [HM.out] <;> congr 1 <;> omega⟩
            case measure => simp [intOf]; omega
        · have : j = L := by omega
          subst this
          go_wp2
          go_ret
          exact ⟨rfl, World.grownBy_alloc _ _ _⟩

end Go.Proofs.Ytecaolkbllbokaa.TG
