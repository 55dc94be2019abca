/-
  Walks of package tongue's kinds and kid: what a part's kind is, and what its kids must be. Conditions: none.
  Walk of package tongue's want: how many cells a part wants. Conditions: as each theorem states.
  Walks of package tongue's kids at a call. Conditions: as each theorem states.
  The checker's number and kids joined. Conditions: as each theorem states.
-/
import Derived.Test.YtecaolkbllbokaaMA05
import Derived.Deep.QuietTactic
import Derived.BigQuiet
import Derived.Test.YtecaolkbllbokaaMA02
import Derived.Test.YtecaolkbllbokaaMA03
import Derived.Test.YtecaolkbllbokaaMA04
namespace Go.Proofs.Ytecaolkbllbokaa.TG
open Go.RowKit Go.Great
set_option linter.unusedSimpArgs false
set_option linter.unusedVariables false

/-- A part, by value. -/
def pt (k n c : Int) : Value := .agg #[.int .i64 k, .int .i64 n, .int .i64 c]

def kindsE (k : Int) : Int := if k = 1 then 0 else if k < 12 then 1 else 2
def kidE (kind i : Int) : Int := if kind = 1 then 1 else if (kind = 5 ∨ kind = 6) ∧ 0 < i then 0 else 2

theorem kinds_any (k : Int) (w : World) : Calls Try.prog 113 #[.int .i64 k] w fun e w' => e = .returned (.int .i64 (kindsE k)) ∧ w = w' := by
  unfold kindsE
  by_cases h1 : k = 1
  · subst h1
    rw [if_pos rfl]
    go_enter Try.func113, Try.ntmps113
    go_wp2
    go_ret
    exact ⟨rfl, rfl⟩
  · rw [if_neg h1]
    have e1 : (k == 1) = false := beq_eq_false_iff_ne.2 h1
    clear h1
    by_cases h2 : k < 12
    · rw [if_pos h2]
      go_enter Try.func113, Try.ntmps113
      go_wp2
      go_ret
      exact ⟨rfl, rfl⟩
    · rw [if_neg h2]
      go_enter Try.func113, Try.ntmps113
      go_wp2
      go_ret
      exact ⟨rfl, rfl⟩

theorem kid_any (k n c i : Int) (w : World) : Calls Try.prog 86 #[.agg #[.int .i64 k, .int .i64 n, .int .i64 c], .int .i64 i] w fun e w' => e = .returned (.int .i64 (kidE k i)) ∧ w.grownBy w' none := by
  unfold kidE
  by_cases h1 : k = 1
  · subst h1
    rw [if_pos rfl]
    go_enter Try.func86, Try.ntmps86
    go_wp2
    go_ret
    exact ⟨rfl, World.grownBy_alloc _ _ _⟩
  rw [if_neg h1]
  have e1 : (k == 1) = false := beq_eq_false_iff_ne.2 h1
  clear h1
  by_cases h5 : k = 5
  · subst h5
    by_cases hi : 0 < i
    · rw [if_pos ⟨Or.inl rfl, hi⟩]
      go_enter Try.func86, Try.ntmps86
      go_wp2
      go_ret
      exact ⟨rfl, World.grownBy_alloc _ _ _⟩
    · rw [if_neg (fun h => hi h.2)]
      go_enter Try.func86, Try.ntmps86
      go_wp2
      go_ret
      exact ⟨rfl, World.grownBy_alloc _ _ _⟩
  by_cases h6 : k = 6
  · subst h6
    by_cases hi : 0 < i
    · rw [if_pos ⟨Or.inr rfl, hi⟩]
      go_enter Try.func86, Try.ntmps86
      go_wp2
      go_ret
      exact ⟨rfl, World.grownBy_alloc _ _ _⟩
    · rw [if_neg (fun h => hi h.2)]
      go_enter Try.func86, Try.ntmps86
      go_wp2
      go_ret
      exact ⟨rfl, World.grownBy_alloc _ _ _⟩
  rw [if_neg (fun h => h.1.elim h5 h6)]
  have e5 : (k == 5) = false := beq_eq_false_iff_ne.2 h5
  have e6 : (k == 6) = false := beq_eq_false_iff_ne.2 h6
  clear h5 h6
  go_enter Try.func86, Try.ntmps86
  go_wp2
  go_ret
  exact ⟨rfl, World.grownBy_alloc _ _ _⟩

end Go.Proofs.Ytecaolkbllbokaa.TG

namespace Go.Proofs.Ytecaolkbllbokaa.TG
open Go.RowKit Go.Great
set_option linter.unusedSimpArgs false
set_option linter.unusedVariables false

/-- A slice value that reads as these ints. -/
def Ints (w : World) (v : Value) (l : List Int) : Prop := ∃ (p : Option Addr) (cap : Nat), v = .slice p l.length cap ∧
  (0 < l.length → ∃ b off : Nat, p = some ⟨b, off, none⟩ ∧ b < w.heap.size ∧ ∀ i, i < l.length → w.cell? ⟨b, off + i, none⟩ = some (.int .i64 (l.getD i 0)))

theorem grownBy_quiet (w : World) (o : Obj) (n : Nat) : w.grownBy ((w.alloc o).drewN n) none := ⟨rfl, rfl, rfl, by simp, fun k hk _ => (World.grownBy_alloc w o none).block k hk (by simp)⟩

def mostTo (ws : List Int) : Nat → Int
  | 0 => 1
  | k + 1 => max (mostTo ws k) ((k : Int) + ws.getD k 0)

set_option maxRecDepth 100000 in
set_option maxHeartbeats 2000000 in
theorem want_A (k n c : Int) (hk : k = 12 ∨ k = 13 ∨ k = 14 ∨ k = 15 ∨ k = 16) (p : Option Addr) (cap L : Nat) (w : World) :
    Calls Try.prog 87 #[.agg #[.int .i64 k, .int .i64 n, .int .i64 c], .slice p L cap] w fun e w' => e = .returned (.int .i64 (1)) ∧ w.grownBy w' none := by
  rcases hk with rfl | rfl | rfl | rfl | rfl
  all_goals
    go_enter Try.func87, Try.ntmps87
    go_wp2
    go_ret
    exact ⟨rfl, World.grownBy_alloc _ _ _⟩

set_option maxRecDepth 100000 in
set_option maxHeartbeats 2000000 in
theorem want_F (k n c : Int) (hk : k = 1 ∨ k = 7 ∨ k = 8) (p : Option Addr) (cap L : Nat) (w : World) :
    Calls Try.prog 87 #[.agg #[.int .i64 k, .int .i64 n, .int .i64 c], .slice p L cap] w fun e w' => e = .returned (.int .i64 (0)) ∧ w.grownBy w' none := by
  rcases hk with rfl | rfl | rfl
  all_goals
    go_enter Try.func87, Try.ntmps87
    go_wp2
    go_ret
    exact ⟨rfl, World.grownBy_alloc _ _ _⟩

set_option maxRecDepth 100000 in
set_option maxHeartbeats 2000000 in
theorem want_B (k n c : Int) (hk : k = 20 ∨ k = 21 ∨ k = 3 ∨ k = 4) (b off cap L : Nat) (x y : Int) (hL : 2 ≤ L) (hLb : L ≤ 1000000000000000000) (hy : 0 ≤ y ∧ y ≤ 1000000000000000000) (w : World) (hb : b < w.heap.size) (h0 : w.cell? ⟨b, off, none⟩ = some (.int .i64 x)) (h1 : w.cell? ⟨b, off + 1, none⟩ = some (.int .i64 y)) :
    Calls Try.prog 87 #[.agg #[.int .i64 k, .int .i64 n, .int .i64 c], .slice (some ⟨b, off, none⟩) L cap] w fun e w' => e = .returned (.int .i64 (max x (y + 1))) ∧ w.grownBy w' none := by
  obtain ⟨hy0, hy1⟩ := hy
  have i0 : (0 : Int) < (L : Int) := by omega
  have i1 : (1 : Int) < (L : Int) := by omega
  rcases hk with rfl | rfl | rfl | rfl
  all_goals
    go_enter Try.func87, Try.ntmps87
    go_wp2
    go_quiet (fail)
    go_wp2
    go_ret
    exact ⟨ret_int (by omega), grownBy_quiet _ _ _⟩

set_option maxRecDepth 100000 in
set_option maxHeartbeats 2000000 in
theorem want_D (k n c : Int) (hk : k = 23 ∨ k = 24) (b off cap L : Nat) (x y : Int) (hL : 2 ≤ L) (hLb : L ≤ 1000000000000000000) (hy : 0 ≤ y ∧ y ≤ 1000000000000000000) (w : World) (hb : b < w.heap.size) (h0 : w.cell? ⟨b, off, none⟩ = some (.int .i64 x)) (h1 : w.cell? ⟨b, off + 1, none⟩ = some (.int .i64 y)) :
    Calls Try.prog 87 #[.agg #[.int .i64 k, .int .i64 n, .int .i64 c], .slice (some ⟨b, off, none⟩) L cap] w fun e w' => e = .returned (.int .i64 (max (max x y) 2)) ∧ w.grownBy w' none := by
  obtain ⟨hy0, hy1⟩ := hy
  have i0 : (0 : Int) < (L : Int) := by omega
  have i1 : (1 : Int) < (L : Int) := by omega
  rcases hk with rfl | rfl
  all_goals
    go_enter Try.func87, Try.ntmps87
    go_wp2
    go_quiet (fail)
    go_wp2
    all_goals (go_ret; exact ⟨ret_int (by omega), grownBy_quiet _ _ _⟩)

set_option maxRecDepth 100000 in
set_option maxHeartbeats 2000000 in
theorem want_C (k n c : Int) (hk : k = 22) (b off cap L : Nat) (x : Int) (hL : 1 ≤ L) (hLb : L ≤ 1000000000000000000) (w : World) (hb : b < w.heap.size) (h0 : w.cell? ⟨b, off, none⟩ = some (.int .i64 x)) :
    Calls Try.prog 87 #[.agg #[.int .i64 k, .int .i64 n, .int .i64 c], .slice (some ⟨b, off, none⟩) L cap] w fun e w' => e = .returned (.int .i64 (max x 2)) ∧ w.grownBy w' none := by
  have i0 : (0 : Int) < (L : Int) := by omega
  rcases hk with rfl
  all_goals
    go_enter Try.func87, Try.ntmps87
    go_wp2
    go_ret
    exact ⟨ret_int (by omega), World.grownBy_alloc _ _ _⟩

set_option maxRecDepth 100000 in
set_option maxHeartbeats 2000000 in
theorem want_G (k n c : Int) (hk : k = 2 ∨ k = 5 ∨ k = 6 ∨ k = 9 ∨ k = 10 ∨ k = 11 ∨ k = 17 ∨ k = 18 ∨ k = 19) (b off cap L : Nat) (x : Int) (hL : 1 ≤ L) (hLb : L ≤ 1000000000000000000) (w : World) (hb : b < w.heap.size) (h0 : w.cell? ⟨b, off, none⟩ = some (.int .i64 x)) :
    Calls Try.prog 87 #[.agg #[.int .i64 k, .int .i64 n, .int .i64 c], .slice (some ⟨b, off, none⟩) L cap] w fun e w' => e = .returned (.int .i64 (x)) ∧ w.grownBy w' none := by
  have i0 : (0 : Int) < (L : Int) := by omega
  rcases hk with rfl | rfl | rfl | rfl | rfl | rfl | rfl | rfl | rfl
  all_goals
    go_enter Try.func87, Try.ntmps87
    go_wp2
    go_ret
    exact ⟨rfl, World.grownBy_alloc _ _ _⟩

theorem mostTo_step (ws : List Int) (k : Nat) : mostTo ws (k + 1) = max (mostTo ws k) ((k : Int) + ws.getD k 0) := rfl
theorem mostTo_le (ws : List Int) (hws : ∀ i, i < ws.length → ws.getD i 0 ≤ 1000000000000000000) : ∀ k, k ≤ ws.length → mostTo ws k ≤ 1000000000000000000 + (k : Int)
  | 0, _ => by unfold mostTo; omega
  | k + 1, h => by
    have := mostTo_le ws hws k (by omega)
    have := hws k (by omega)
    rw [mostTo_step]; omega

set_option maxRecDepth 100000 in
set_option maxHeartbeats 2000000 in
theorem want_E (k n c : Int) (hk : k = 25 ∨ k = 26) (v : Value) (ws : List Int) (w : World) (hv : Ints w v ws) (hL : ws.length ≤ 1000000000000000000) (hws : ∀ i, i < ws.length → 0 ≤ ws.getD i 0 ∧ ws.getD i 0 ≤ 1000000000000000000) :
    Calls Try.prog 87 #[.agg #[.int .i64 k, .int .i64 n, .int .i64 c], v] w fun e w' => e = .returned (.int .i64 (mostTo ws ws.length)) ∧ w.grownBy w' none := by
  obtain ⟨p, cap, rfl, hel⟩ := hv
  have HW := Lib.hid hws
  clear hws
  rcases Nat.eq_zero_or_pos ws.length with h0 | h0
  · clear hel
    rw [h0]
    have hm : mostTo ws 0 = 1 := rfl
    rw [hm]
    clear h0 hm hL
    rcases hk with rfl | rfl
    all_goals
      go_enter Try.func87, Try.ntmps87
      go_wp2
      go_loop [5, 50] (fun m i => m = .int .i64 1 ∧ i = .int .i64 0) (fun m i => 0)
      case atStart => exact ⟨rfl, rfl⟩
      case round =>
        obtain ⟨rfl, rfl⟩ := hrel
        go_wp2
        go_ret
        exact ⟨rfl, World.grownBy_alloc _ _ _⟩
  · obtain ⟨b, off, rfl, hb, hcell⟩ := hel h0
    have HC := Lib.hid hcell
    clear hcell hel
    have hlen : ws.length = ws.length := rfl
    generalize hLL : ws.length = L at *
    rcases hk with rfl | rfl
    all_goals
      go_enter Try.func87, Try.ntmps87
      go_wp2
      go_loop [5, 50] (fun m i => ∃ j : Nat, j ≤ L ∧ i = .int .i64 j ∧ m = .int .i64 (mostTo ws j)) (fun m i => L - (intOf i).toNat)
      case atStart => exact ⟨0, Nat.zero_le _, rfl, rfl⟩
      case round =>
        obtain ⟨j, hj, rfl, rfl⟩ := hrel
        by_cases hlt : j < L
        · have g := HC.out j hlt
          have HB := HW.out j hlt
          have HM := Lib.hid (mostTo_step ws j)
          have hmb := mostTo_le ws (fun i hi => (HW.out i (by omega)).2) j (by omega)
          generalize ws.getD j 0 = x at *
          generalize mostTo ws j = m at *
          obtain ⟨hx0, hx1⟩ := HB
          go_wp2
          all_goals
            go_round
            case rel => exact ⟨j + 1, by omega, by go_num, by rw [HM.out] <;> congr 1 <;> omega⟩
            case measure => simp [intOf]; omega
        · have : j = L := by omega
          subst this
          go_wp2
          go_ret
          exact ⟨rfl, World.grownBy_alloc _ _ _⟩

end Go.Proofs.Ytecaolkbllbokaa.TG

namespace Go.Proofs.Ytecaolkbllbokaa.TG
open Go.RowKit Go.Great
set_option linter.unusedSimpArgs false
set_option linter.unusedVariables false

theorem sys_all (n : Nat) : ∃ (nm : ByteArray) (tk u : Int) (bb : Bool), ∀ w, Calls Try.prog 128 #[.int .i64 n] w fun e w' => e = .returned (.tuple #[.agg #[.string nm, .int .i64 0, .int .i64 tk, .int .i64 u], .bool bb]) ∧ w.grownBy w' none := by
  by_cases h : n < 5
  · exact ⟨_, _, _, _, fun w => sys_any n h w⟩
  · exact ⟨_, _, _, _, fun w => sys_out n (by omega) w⟩

set_option maxRecDepth 100000 in
set_option maxHeartbeats 2000000 in
theorem kids_k25 (n : Nat) (kc args : Int) (Bc bF oF nf cf : Nat) (hn : n < nf) (hnf : nf ≤ 1000000) (w : World) (hlt : Bc < w.heap.size) (hltF : bF < w.heap.size)
    (h1 : w.cell? ⟨Bc, 1, none⟩ = some (.slice (some ⟨bF, oF, none⟩) nf cf)) (ha : w.cell? ⟨bF, oF + n * 4 + 1, none⟩ = some (.int .i64 args)) :
    Calls Try.prog 115 #[.pointer (some ⟨Bc, 0, none⟩), .agg #[.int .i64 25, .int .i64 n, .int .i64 kc]] w fun e w' => e = .returned (.int .i64 (if kc = args then 0 else 174)) ∧ w.grownBy w' none := by
  obtain ⟨nm, tk, u, bb, S0⟩ := sys_all n
  have S := Lib.hid S0
  clear S0
  have hni : (n : Int) < (nf : Int) := by omega
  by_cases h : kc = args
  · rw [if_pos h]
    subst h
    go_enter Try.func115, Try.ntmps115
    go_wp2_with (go_at_call 128; refine (S.out _).mono ?_; rintro e w1 ⟨rfl, hg⟩; have HG := Lib.hid hg; have z0 := hg.cell (a := ⟨w.heap.size, 0, none⟩) (v := .int .i64 25) (by simp) (by simp); have z1 := hg.cell (a := ⟨w.heap.size, 1, none⟩) (v := .int .i64 n) (by simp) (by simp); have z2 := hg.cell (a := ⟨w.heap.size, 2, none⟩) (v := .int .i64 kc) (by simp) (by simp); have z3 := (grownBy_trans (World.grownBy_alloc w _ none) hg).cell h1 (by simp); have z4 := (grownBy_trans (World.grownBy_alloc w _ none) hg).cell ha (by simp); have hz := size_lt hg; have y1 := Nat.lt_trans hlt hz; have y2 := Nat.lt_trans hltF hz; clear hg)
    go_quiet (fail)
    go_wp2
    go_ret
    exact ⟨rfl, grownBy_trans (grownBy_trans (World.grownBy_alloc _ _ _) HG.out) (grownBy_quiet _ _ _)⟩
  · rw [if_neg h]
    have hb : (kc != args) = true := by simpa using h
    go_enter Try.func115, Try.ntmps115
    go_wp2_with (go_at_call 128; refine (S.out _).mono ?_; rintro e w1 ⟨rfl, hg⟩; have HG := Lib.hid hg; have z0 := hg.cell (a := ⟨w.heap.size, 0, none⟩) (v := .int .i64 25) (by simp) (by simp); have z1 := hg.cell (a := ⟨w.heap.size, 1, none⟩) (v := .int .i64 n) (by simp) (by simp); have z2 := hg.cell (a := ⟨w.heap.size, 2, none⟩) (v := .int .i64 kc) (by simp) (by simp); have z3 := (grownBy_trans (World.grownBy_alloc w _ none) hg).cell h1 (by simp); have z4 := (grownBy_trans (World.grownBy_alloc w _ none) hg).cell ha (by simp); have hz := size_lt hg; have y1 := Nat.lt_trans hlt hz; have y2 := Nat.lt_trans hltF hz; clear hg)
    go_quiet (fail)
    go_wp2
    go_ret
    exact ⟨rfl, grownBy_trans (grownBy_trans (World.grownBy_alloc _ _ _) HG.out) (grownBy_quiet _ _ _)⟩

end Go.Proofs.Ytecaolkbllbokaa.TG

namespace Go.Proofs.Ytecaolkbllbokaa.TG
open Go.RowKit Go.Great
set_option linter.unusedSimpArgs false
set_option linter.unusedVariables false

theorem calls_eq {P : Program} {f : FuncId} {args : Array Value} {w : World} {a b : Int} (h : a = b) (H : Calls P f args w fun e w' => e = .returned (.int .i64 a) ∧ w.grownBy w' none) : Calls P f args w fun e w' => e = .returned (.int .i64 b) ∧ w.grownBy w' none := h ▸ H

theorem number_any (k n kc : Int) (hk : 1 ≤ k ∧ k < 27) (Bc bf of nl cl nt ct nf cf : Nat) (pt pf pl : Option Addr) (vp : Value) (at_ loops most : Int) (w : World)
    (hC : Chk w Bc bf of (.slice pt nt ct) (.slice pf nf cf) (.slice pl nl cl) vp at_ loops most) :
    Calls Try.prog 114 #[.pointer (some ⟨Bc, 0, none⟩), .agg #[.int .i64 k, .int .i64 n, .int .i64 kc]] w fun e w' => e = .returned (.int .i64 (numE nl nt nf loops k n)) ∧ w.grownBy w' none := by
  have hcases : k = 12 ∨ (k = 2 ∨ k = 13) ∨ (k = 14 ∨ k = 15) ∨ k = 25 ∨ k = 26 ∨ (k = 7 ∨ k = 8) ∨ k = 19 ∨ k = 20 ∨ k = 21 ∨
    (k = 1 ∨ k = 3 ∨ k = 4 ∨ k = 5 ∨ k = 6 ∨ k = 9 ∨ k = 10 ∨ k = 11 ∨ k = 16 ∨ k = 17 ∨ k = 18 ∨ k = 22 ∨ k = 23 ∨ k = 24) := by omega
  rcases hcases with h | h | h | h | h | h | h | h | h | h
  · subst h; exact number_num n kc Bc w
  · refine calls_eq ?_ (number_local k n kc h Bc bf of nl cl pl w hC.lt hC.ltf hC.c2 hC.f2)
    unfold numE; rw [if_neg (by omega), if_pos h]
  · refine calls_eq ?_ (number_text k n kc h Bc nt ct pt w hC.lt hC.c0)
    unfold numE; rw [if_neg (by omega), if_neg (by omega), if_pos h]
  · subst h; exact number_call n kc Bc nf cf pf w hC.lt hC.c1
  · subst h; exact number_sys n kc Bc w
  · refine calls_eq ?_ (number_jump k n kc loops h Bc w hC.lt hC.c4)
    unfold numE; rw [if_neg (by omega), if_neg (by omega), if_neg (by omega), if_neg (by omega), if_neg (by omega), if_pos h]
  · subst h; exact number_one n kc Bc w
  · subst h; exact number_two n kc Bc w
  · subst h; exact number_turn n kc Bc w
  · refine calls_eq ?_ (number_none k n kc h Bc w)
    unfold numE; rw [if_neg (by omega), if_neg (by omega), if_neg (by omega), if_neg (by omega), if_neg (by omega), if_neg (by omega), if_neg (by omega), if_neg (by omega), if_neg (by omega)]

/-- What kids answers; args: how many arguments the called function takes. -/
def kidsE (args : Int) (k n kc : Int) : Int :=
  if k = 1 then (if 0 ≤ kc then 0 else 171) else if k = 25 then (if kc = args then 0 else 174) else if k = 26 then (if kc = sysTakes n.toNat then 0 else 174) else
  if k = 5 then (if 2 ≤ kc ∧ kc ≤ 3 then 0 else 171) else
  if k = 2 ∨ k = 9 ∨ k = 10 ∨ k = 11 ∨ k = 17 ∨ k = 18 ∨ k = 19 ∨ k = 22 then (if kc = 1 then 0 else 171) else
  if k = 3 ∨ k = 4 ∨ k = 6 ∨ k = 20 ∨ k = 21 ∨ k = 23 ∨ k = 24 then (if kc = 2 then 0 else 171) else (if kc = 0 then 0 else 171)

theorem kids_any (k n kc args : Int) (hk : 1 ≤ k ∧ k < 27) (Bc nf cf : Nat) (pf : Option Addr) (w : World) (hlt : Bc < w.heap.size) (h1 : w.cell? ⟨Bc, 1, none⟩ = some (.slice pf nf cf))
    (hF : k = 25 → ∃ bF oF : Nat, pf = some ⟨bF, oF, none⟩ ∧ bF < w.heap.size ∧ 0 ≤ n ∧ n.toNat < nf ∧ nf ≤ 1000000 ∧ w.cell? ⟨bF, oF + n.toNat * 4 + 1, none⟩ = some (.int .i64 args))
    (hS : k = 26 → 0 ≤ n ∧ n < 5) :
    Calls Try.prog 115 #[.pointer (some ⟨Bc, 0, none⟩), .agg #[.int .i64 k, .int .i64 n, .int .i64 kc]] w fun e w' => e = .returned (.int .i64 (kidsE args k n kc)) ∧ w.grownBy w' none := by
  have hcases : k = 1 ∨ k = 25 ∨ k = 26 ∨ k = 5 ∨ (k = 2 ∨ k = 9 ∨ k = 10 ∨ k = 11 ∨ k = 17 ∨ k = 18 ∨ k = 19 ∨ k = 22) ∨ (k = 3 ∨ k = 4 ∨ k = 6 ∨ k = 20 ∨ k = 21 ∨ k = 23 ∨ k = 24) ∨ (k = 7 ∨ k = 8 ∨ k = 12 ∨ k = 13 ∨ k = 14 ∨ k = 15 ∨ k = 16) := by omega
  rcases hcases with h | h | h | h | h | h | h
  · subst h; exact kids_k1 n kc Bc w
  · obtain ⟨bF, oF, rfl, hb, h0, hn, hnf, ha⟩ := hF h
    subst h
    have e : ((n.toNat : Nat) : Int) = n := Int.toNat_of_nonneg h0
    have := kids_k25 n.toNat kc args Bc bF oF nf cf hn hnf w hlt hb h1 ha
    rw [e] at this
    exact this
  · obtain ⟨h0, h5⟩ := hS h
    subst h
    have e : ((n.toNat : Nat) : Int) = n := Int.toNat_of_nonneg h0
    have := kids_k26 n.toNat (by omega) kc Bc w
    rw [e] at this
    exact this
  · subst h; exact kids_k5 n kc Bc w
  · rcases h with rfl | rfl | rfl | rfl | rfl | rfl | rfl | rfl
    · exact kids_k2 n kc Bc w
    · exact kids_k9 n kc Bc w
    · exact kids_k10 n kc Bc w
    · exact kids_k11 n kc Bc w
    · exact kids_k17 n kc Bc w
    · exact kids_k18 n kc Bc w
    · exact kids_k19 n kc Bc w
    · exact kids_k22 n kc Bc w
  · rcases h with rfl | rfl | rfl | rfl | rfl | rfl | rfl
    · exact kids_k3 n kc Bc w
    · exact kids_k4 n kc Bc w
    · exact kids_k6 n kc Bc w
    · exact kids_k20 n kc Bc w
    · exact kids_k21 n kc Bc w
    · exact kids_k23 n kc Bc w
    · exact kids_k24 n kc Bc w
  · rcases h with rfl | rfl | rfl | rfl | rfl | rfl | rfl
    · exact kids_k7 n kc Bc w
    · exact kids_k8 n kc Bc w
    · exact kids_k12 n kc Bc w
    · exact kids_k13 n kc Bc w
    · exact kids_k14 n kc Bc w
    · exact kids_k15 n kc Bc w
    · exact kids_k16 n kc Bc w

end Go.Proofs.Ytecaolkbllbokaa.TG
