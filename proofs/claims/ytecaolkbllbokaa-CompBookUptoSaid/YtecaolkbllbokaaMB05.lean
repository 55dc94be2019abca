/-
  Walk of the checker's alone: a part by itself. Conditions: as each theorem states.
  Walk of the checker's part. Conditions: as each theorem states.
  What a part wants, of whatever kind: the walks of want joined. Conditions: as each theorem states.
  The plain law of the checker's part: what it answers, as a function, and its bounds. Conditions: as each theorem states.
  What a walk of the checker's part reads and keeps. Conditions: as each theorem states.
  Walks of the checker's part: where it refuses at the part itself. Conditions: as each theorem states.
-/
import Derived.Test.YtecaolkbllbokaaMB04
import Derived.Deep.Draws
import Derived.WalkKit
import Derived.Laws.OwnMore
import Derived.OwnWalk
namespace Go.Proofs.Ytecaolkbllbokaa.TG
open Go.RowKit Go.Great
set_option linter.unusedSimpArgs false
set_option linter.unusedVariables false

theorem chk_kept {w w' : World} {Bc bf of : Nat} {vt vf vl vp : Value} {a l m : Int} (h : Chk w Bc bf of vt vf vl vp a l m) (g : w.grownBy w' none) : Chk w' Bc bf of vt vf vl vp a l m :=
  ⟨Nat.lt_of_lt_of_le h.lt g.size, Nat.lt_of_lt_of_le h.ltf g.size, h.ne, g.cell h.c0 (by simp), g.cell h.c1 (by simp), g.cell h.c2 (by simp), g.cell h.c3 (by simp), g.cell h.c4 (by simp), g.cell h.c5 (by simp), g.cell h.f2 (by simp), g.cell h.f3 (by simp)⟩

/-- The functions' arguments, as a list says them. -/
def Funs (w : World) (pf : Option Addr) (fs : List Int) : Prop := 0 < fs.length → ∃ bF oF : Nat, pf = some ⟨bF, oF, none⟩ ∧ bF < w.heap.size ∧ ∀ i, i < fs.length → w.cell? ⟨bF, oF + i * 4 + 1, none⟩ = some (.int .i64 (fs.getD i 0))

theorem funs_kept {w w' : World} {pf : Option Addr} {fs : List Int} (h : Funs w pf fs) (g : w.grownBy w' none) : Funs w' pf fs := fun h0 => by
  obtain ⟨bF, oF, e, hb, hc⟩ := h h0
  exact ⟨bF, oF, e, Nat.lt_of_lt_of_le hb g.size, fun i hi => g.cell (hc i hi) (by simp)⟩

theorem among_zero {x n e : Int} (he : e ≠ 0) (h : amongE x n e = 0) : 0 ≤ x ∧ x < n := by
  unfold amongE at h
  by_cases c : x < 0 ∨ n ≤ x
  · rw [if_pos c] at h; exact absurd h he
  · omega

theorem kids_fun (k n kc : Int) (hk : 1 ≤ k ∧ k < 27) (Bc nl nt cf : Nat) (loops : Int) (pf : Option Addr) (fs : List Int) (hfs : fs.length ≤ 1000000) (w : World) (hlt : Bc < w.heap.size) (h1 : w.cell? ⟨Bc, 1, none⟩ = some (.slice pf fs.length cf))
    (hF : Funs w pf fs) (h0 : numE nl nt fs.length loops k n = 0) :
    Calls Try.prog 115 #[.pointer (some ⟨Bc, 0, none⟩), .agg #[.int .i64 k, .int .i64 n, .int .i64 kc]] w fun e w' => e = .returned (.int .i64 (kidsE (fs.getD n.toNat 0) k n kc)) ∧ w.grownBy w' none := by
  refine kids_any k n kc _ hk Bc fs.length cf pf w hlt h1 ?_ ?_
  · intro e
    subst e
    have := among_zero (by decide) (show amongE n fs.length 173 = 0 from h0)
    obtain ⟨bF, oF, e, hb, hc⟩ := hF (by omega)
    exact ⟨bF, oF, e, hb, this.1, by omega, hfs, hc _ (by omega)⟩
  · intro e
    subst e
    exact among_zero (by decide) (show amongE n 5 171 = 0 from h0)

/-- What alone answers. -/
def aloneE (nl nt : Nat) (fs : List Int) (loops k n kc what : Int) : Int :=
  if k < 1 ∨ 27 ≤ k then 171 else if kindsE k ≠ what ∧ ¬ (kindsE k = 0 ∧ what = 1) then 171 else
  if numE nl nt fs.length loops k n ≠ 0 then numE nl nt fs.length loops k n else kidsE (fs.getD n.toNat 0) k n kc

theorem alone_out (k n kc what : Int) (hk : k < 1 ∨ 27 ≤ k) (Bc : Nat) (w : World) :
    Calls Try.prog 85 #[.pointer (some ⟨Bc, 0, none⟩), .agg #[.int .i64 k, .int .i64 n, .int .i64 kc], .int .i64 what] w fun e w' => e = .returned (.int .i64 171) ∧ w.grownBy w' none := by
  rcases hk with hk | hk
  · go_enter Try.func85, Try.ntmps85
    go_wp2
    go_ret
    exact ⟨rfl, World.grownBy_alloc _ _ _⟩
  · have hk1 : ¬ k < 1 := by omega
    go_enter Try.func85, Try.ntmps85
    go_wp2
    go_ret
    exact ⟨rfl, World.grownBy_alloc _ _ _⟩

theorem alone_bad (k n kc what : Int) (hk : 1 ≤ k ∧ k < 27) (hq : kindsE k ≠ what ∧ ¬ (kindsE k = 0 ∧ what = 1)) (Bc : Nat) (w : World) :
    Calls Try.prog 85 #[.pointer (some ⟨Bc, 0, none⟩), .agg #[.int .i64 k, .int .i64 n, .int .i64 kc], .int .i64 what] w fun e w' => e = .returned (.int .i64 171) ∧ w.grownBy w' none := by
  have K := Lib.hid (kinds_any k)
  obtain ⟨hk0, hk2⟩ := hk
  have hk1 : ¬ k < 1 := by omega
  have hk3 : ¬ 27 ≤ k := by omega
  generalize kindsE k = q at *
  obtain ⟨hq1, hq2⟩ := hq
  have b1 : (q != what) = true := by simpa using hq1
  by_cases hz : q = 0
  · subst hz
    have b2 : (what == 1) = false := by simp; exact fun h => hq2 ⟨rfl, h⟩
    clear hq2 hq1
    go_enter Try.func85, Try.ntmps85
    go_wp2_with (go_at_call 113; refine (K.out _).mono ?_; rintro e w1 ⟨rfl, rfl⟩)
    go_ret
    exact ⟨rfl, World.grownBy_alloc _ _ _⟩
  · have b2 : (q == 0) = false := by simpa using hz
    clear hq2 hq1 hz
    go_enter Try.func85, Try.ntmps85
    go_wp2_with (go_at_call 113; refine (K.out _).mono ?_; rintro e w1 ⟨rfl, rfl⟩)
    go_ret
    exact ⟨rfl, World.grownBy_alloc _ _ _⟩

theorem alone_ok (k n kc what : Int) (hk : 1 ≤ k ∧ k < 27) (hq : kindsE k = what ∨ (kindsE k = 0 ∧ what = 1)) (Bc : Nat) (w : World) (v u : Int)
    (hN : ∀ w1, w.grownBy w1 none → Calls Try.prog 114 #[.pointer (some ⟨Bc, 0, none⟩), .agg #[.int .i64 k, .int .i64 n, .int .i64 kc]] w1 fun e w' => e = .returned (.int .i64 v) ∧ w1.grownBy w' none)
    (hD : v = 0 → ∀ w1, w.grownBy w1 none → Calls Try.prog 115 #[.pointer (some ⟨Bc, 0, none⟩), .agg #[.int .i64 k, .int .i64 n, .int .i64 kc]] w1 fun e w' => e = .returned (.int .i64 u) ∧ w1.grownBy w' none) :
    Calls Try.prog 85 #[.pointer (some ⟨Bc, 0, none⟩), .agg #[.int .i64 k, .int .i64 n, .int .i64 kc], .int .i64 what] w fun e w' => e = .returned (.int .i64 (if v ≠ 0 then v else u)) ∧ w.grownBy w' none := by
  have K := Lib.hid (kinds_any k)
  have N := Lib.hid hN
  have D := Lib.hid hD
  clear hN hD
  obtain ⟨hk0, hk2⟩ := hk
  have hk1 : ¬ k < 1 := by omega
  have hk3 : ¬ 27 ≤ k := by omega
  generalize kindsE k = q at *
  have hb : ((q != what) = false) ∨ ((q != what) = true ∧ (q == 0) = true ∧ (what == 1) = true) := by
    rcases hq with h | ⟨h1, h2⟩
    · left; simp [h]
    · right; subst h1; subst h2; decide
  clear hq
  by_cases hv : v = 0
  · have V0 := Lib.hid hv
    rw [if_neg (by omega)]
    have b0 : (v != 0) = false := by simpa using hv
    clear hv
    rcases hb with h1 | ⟨h1, h2, h3⟩
    all_goals
      go_enter Try.func85, Try.ntmps85
      go_wp2_with (first | (go_at_call 113; refine (K.out _).mono ?_; rintro e w1 ⟨rfl, rfl⟩) | (go_at_call 114; refine (N.out _ (World.grownBy_alloc _ _ _)).mono ?_; rintro e w1 ⟨rfl, hg⟩; have HG := Lib.hid hg; have z0 := hg.cell (a := ⟨w.heap.size, 0, none⟩) (v := .int .i64 k) (by simp) (by simp); have z1 := hg.cell (a := ⟨w.heap.size, 1, none⟩) (v := .int .i64 n) (by simp) (by simp); have z2 := hg.cell (a := ⟨w.heap.size, 2, none⟩) (v := .int .i64 kc) (by simp) (by simp); have hz := size_lt hg; clear hg) | (go_at_call 115; refine (D.out V0.out _ (grownBy_trans (World.grownBy_alloc _ _ _) HG.out)).mono ?_; rintro e w2 ⟨rfl, hg2⟩; have HG2 := Lib.hid hg2; clear hg2))
      go_ret
      exact ⟨rfl, grownBy_trans (grownBy_trans (World.grownBy_alloc _ _ _) HG.out) HG2.out⟩
  · rw [if_pos hv]
    have b0 : (v != 0) = true := by simpa using hv
    clear hv
    rcases hb with h1 | ⟨h1, h2, h3⟩
    all_goals
      go_enter Try.func85, Try.ntmps85
      go_wp2_with (first | (go_at_call 113; refine (K.out _).mono ?_; rintro e w1 ⟨rfl, rfl⟩) | (go_at_call 114; refine (N.out _ (World.grownBy_alloc _ _ _)).mono ?_; rintro e w1 ⟨rfl, hg⟩; have HG := Lib.hid hg; have z0 := hg.cell (a := ⟨w.heap.size, 0, none⟩) (v := .int .i64 k) (by simp) (by simp); have z1 := hg.cell (a := ⟨w.heap.size, 1, none⟩) (v := .int .i64 n) (by simp) (by simp); have z2 := hg.cell (a := ⟨w.heap.size, 2, none⟩) (v := .int .i64 kc) (by simp) (by simp); have hz := size_lt hg; clear hg))
      go_ret
      exact ⟨rfl, grownBy_trans (World.grownBy_alloc _ _ _) HG.out⟩

theorem alone_any (k n kc what : Int) (Bc bf of nl cl nt ct cf : Nat) (pt pf pl : Option Addr) (fs : List Int) (hfs : fs.length ≤ 1000000) (vp : Value) (at_ loops most : Int) (w : World)
    (hC : Chk w Bc bf of (.slice pt nt ct) (.slice pf fs.length cf) (.slice pl nl cl) vp at_ loops most) (hF : Funs w pf fs) :
    Calls Try.prog 85 #[.pointer (some ⟨Bc, 0, none⟩), .agg #[.int .i64 k, .int .i64 n, .int .i64 kc], .int .i64 what] w fun e w' => e = .returned (.int .i64 (aloneE nl nt fs loops k n kc what)) ∧ w.grownBy w' none := by
  unfold aloneE
  by_cases c1 : k < 1 ∨ 27 ≤ k
  · rw [if_pos c1]; exact alone_out k n kc what c1 Bc w
  rw [if_neg c1]
  by_cases c2 : kindsE k ≠ what ∧ ¬ (kindsE k = 0 ∧ what = 1)
  · rw [if_pos c2]; exact alone_bad k n kc what (by omega) c2 Bc w
  rw [if_neg c2]
  exact alone_ok k n kc what (by omega) (by omega) Bc w _ _
    (fun w1 g => number_any k n kc (by omega) Bc bf of nl cl nt ct fs.length cf pt pf pl vp at_ loops most w1 (chk_kept hC g))
    (fun h0 w1 g => kids_fun k n kc (by omega) Bc nl nt cf loops pf fs hfs w1 (chk_kept hC g).lt (chk_kept hC g).c1 (funs_kept hF g) h0)

end Go.Proofs.Ytecaolkbllbokaa.TG

namespace Go.Proofs.Ytecaolkbllbokaa.TG
open Go.RowKit Go.Great
set_option linter.unusedSimpArgs false
set_option linter.unusedVariables false

/-- At the end of the parts. -/
theorem part_end (what deep : Int) (Bc bf of np cp : Nat) (vt vf vl : Value) (pp : Option Addr) (at_ loops most : Int) (hat : (np : Int) ≤ at_) (w : World)
    (hC : Chk w Bc bf of vt vf vl (.slice pp np cp) at_ loops most) :
    Calls Try.prog 54 #[.pointer (some ⟨Bc, 0, none⟩), .int .i64 what, .int .i64 deep] w fun e w' => e = .returned (.tuple #[.int .i64 0, .int .i64 171]) ∧ w.grownBy w' none := by
  obtain ⟨hlt, hltf, hne, c0, c1, c2, c3, c4, c5, f2, f3⟩ := hC
  go_enter Try.func54, Try.ntmps54
  go_wp2
  go_quiet (fail)
  go_wp2
  (try simp only [Exit.inBlock, Exit.then])
  refine bodyPost_ret (v := .tuple #[.int .i64 0, .int .i64 171]) ?_ rfl ⟨rfl, ?_⟩
  · rw [results_tmp2 rfl]
    go_simp
  · exact ⟨rfl, rfl, rfl, by simp, fun k hk _ => by simp⟩

end Go.Proofs.Ytecaolkbllbokaa.TG

namespace Go.Proofs.Ytecaolkbllbokaa.TG
open Go.RowKit Go.Great
set_option linter.unusedSimpArgs false
set_option linter.unusedVariables false

/-- What a part wants, by its kind and what its kids want. -/
def wantE (k : Int) (ws : List Int) : Int :=
  if k = 12 ∨ k = 13 ∨ k = 14 ∨ k = 15 ∨ k = 16 then 1
  else if k = 1 ∨ k = 7 ∨ k = 8 then 0
  else if k = 20 ∨ k = 21 ∨ k = 3 ∨ k = 4 then max (ws.getD 0 0) (ws.getD 1 0 + 1)
  else if k = 23 ∨ k = 24 then max (max (ws.getD 0 0) (ws.getD 1 0)) 2
  else if k = 22 then max (ws.getD 0 0) 2
  else if k = 25 ∨ k = 26 then mostTo ws ws.length
  else ws.getD 0 0

/-- How many kids the kinds that look at them have at least. -/
def needs (k : Int) (n : Nat) : Prop :=
  ((k = 20 ∨ k = 21 ∨ k = 3 ∨ k = 4 ∨ k = 23 ∨ k = 24) → 2 ≤ n) ∧
  ((k = 2 ∨ k = 5 ∨ k = 6 ∨ k = 9 ∨ k = 10 ∨ k = 11 ∨ k = 17 ∨ k = 18 ∨ k = 19 ∨ k = 22) → 1 ≤ n)

theorem want_any (k n c : Int) (hk : 1 ≤ k ∧ k < 27) (v : Value) (ws : List Int) (w : World) (hv : Ints w v ws) (hL : ws.length ≤ 1000000000000000000) (hws : ∀ i, i < ws.length → 0 ≤ ws.getD i 0 ∧ ws.getD i 0 ≤ 1000000000000000000) (hn : needs k ws.length) :
    Calls Try.prog 87 #[.agg #[.int .i64 k, .int .i64 n, .int .i64 c], v] w fun e w' => e = .returned (.int .i64 (wantE k ws)) ∧ w.grownBy w' none := by
  have hv0 := hv
  obtain ⟨p, cap, rfl, hel⟩ := hv
  obtain ⟨n2, n1⟩ := hn
  unfold wantE
  by_cases cA : k = 12 ∨ k = 13 ∨ k = 14 ∨ k = 15 ∨ k = 16
  · rw [if_pos cA]; exact want_A k n c cA p cap _ w
  rw [if_neg cA]
  by_cases cF : k = 1 ∨ k = 7 ∨ k = 8
  · rw [if_pos cF]; exact want_F k n c cF p cap _ w
  rw [if_neg cF]
  by_cases cB : k = 20 ∨ k = 21 ∨ k = 3 ∨ k = 4
  · rw [if_pos cB]
    have h2 := n2 (by omega)
    obtain ⟨b, off, rfl, hb, hc⟩ := hel (by omega)
    exact want_B k n c cB b off cap _ _ _ h2 hL (hws 1 (by omega)) w hb (hc 0 (by omega)) (hc 1 (by omega))
  rw [if_neg cB]
  by_cases cD : k = 23 ∨ k = 24
  · rw [if_pos cD]
    have h2 := n2 (by omega)
    obtain ⟨b, off, rfl, hb, hc⟩ := hel (by omega)
    exact want_D k n c cD b off cap _ _ _ h2 hL (hws 1 (by omega)) w hb (hc 0 (by omega)) (hc 1 (by omega))
  rw [if_neg cD]
  by_cases cC : k = 22
  · rw [if_pos cC]
    have h2 := n1 (by omega)
    obtain ⟨b, off, rfl, hb, hc⟩ := hel (by omega)
    exact want_C k n c cC b off cap _ _ h2 hL w hb (hc 0 (by omega))
  rw [if_neg cC]
  by_cases cE : k = 25 ∨ k = 26
  · rw [if_pos cE]
    exact want_E k n c cE _ ws w hv0 hL hws
  rw [if_neg cE]
  have hkG : k = 2 ∨ k = 5 ∨ k = 6 ∨ k = 9 ∨ k = 10 ∨ k = 11 ∨ k = 17 ∨ k = 18 ∨ k = 19 := by omega
  have h2 := n1 (by omega)
  obtain ⟨b, off, rfl, hb, hc⟩ := hel (by omega)
  exact want_G k n c hkG b off cap _ _ h2 hL w hb (hc 0 (by omega))

theorem mostTo_pos (ws : List Int) (hws : ∀ i, i < ws.length → 0 ≤ ws.getD i 0) : ∀ k, k ≤ ws.length → 1 ≤ mostTo ws k
  | 0, _ => by unfold mostTo; omega
  | k + 1, h => by
    have := mostTo_pos ws hws k (by omega)
    rw [mostTo_step]; omega

theorem mostTo_bound (ws : List Int) (B : Int) (hB : 0 ≤ B) (hws : ∀ i, i < ws.length → ws.getD i 0 ≤ B) : ∀ k, k ≤ ws.length → mostTo ws k ≤ B + 1 + (k : Int)
  | 0, _ => by unfold mostTo; omega
  | k + 1, h => by
    have := mostTo_bound ws B hB hws k (by omega)
    have := hws k (by omega)
    rw [mostTo_step]; omega

theorem getD_le (ws : List Int) (B : Int) (hB : 0 ≤ B) (hws : ∀ i, i < ws.length → 0 ≤ ws.getD i 0 ∧ ws.getD i 0 ≤ B) (i : Nat) : 0 ≤ ws.getD i 0 ∧ ws.getD i 0 ≤ B := by
  by_cases h : i < ws.length
  · exact hws i h
  · have : ws.getD i 0 = 0 := by simp [List.getD, List.getElem?_eq_none (by omega : ws.length ≤ i)]
    omega

theorem wantE_bound (k : Int) (ws : List Int) (B : Int) (hB : 0 ≤ B) (hws : ∀ i, i < ws.length → 0 ≤ ws.getD i 0 ∧ ws.getD i 0 ≤ B) :
    0 ≤ wantE k ws ∧ wantE k ws ≤ B + 2 + (ws.length : Int) := by
  have g0 := getD_le ws B hB hws 0
  have g1 := getD_le ws B hB hws 1
  have m0 := mostTo_pos ws (fun i h => (hws i h).1) ws.length (Nat.le_refl _)
  have m1 := mostTo_bound ws B hB (fun i h => (hws i h).2) ws.length (Nat.le_refl _)
  unfold wantE
  repeat' split
  all_goals omega

end Go.Proofs.Ytecaolkbllbokaa.TG

namespace Go.Proofs.Ytecaolkbllbokaa.TG
open Go.RowKit Go.Great
set_option linter.unusedSimpArgs false
set_option linter.unusedVariables false

/-- Where the checker stands: the next part, the loops around, the most that is wanted. -/
structure St where
  a : Nat
  l : Int
  m : Int

/-- The kids of a part, one behind the other. -/
def loopE (P : Int → St → Int × Int × St) (k : Int) : Nat → Nat → St → List Int → List Int × Int × St
  | 0, _, s, ws => (ws, 0, s)
  | r + 1, i, s, ws =>
    if (P (kidE k i) (if k = 6 ∧ i = 1 then ⟨s.a, s.l + 1, s.m⟩ else s)).2.1 ≠ 0 then (ws, (P (kidE k i) (if k = 6 ∧ i = 1 then ⟨s.a, s.l + 1, s.m⟩ else s)).2.1, (P (kidE k i) (if k = 6 ∧ i = 1 then ⟨s.a, s.l + 1, s.m⟩ else s)).2.2)
    else loopE P k r (i + 1) (if k = 6 ∧ i = 1 then ⟨(P (kidE k i) (if k = 6 ∧ i = 1 then ⟨s.a, s.l + 1, s.m⟩ else s)).2.2.a, (P (kidE k i) (if k = 6 ∧ i = 1 then ⟨s.a, s.l + 1, s.m⟩ else s)).2.2.l - 1, (P (kidE k i) (if k = 6 ∧ i = 1 then ⟨s.a, s.l + 1, s.m⟩ else s)).2.2.m⟩ else (P (kidE k i) (if k = 6 ∧ i = 1 then ⟨s.a, s.l + 1, s.m⟩ else s)).2.2) (ws ++ [(P (kidE k i) (if k = 6 ∧ i = 1 then ⟨s.a, s.l + 1, s.m⟩ else s)).1])

def stepIn (k : Int) (i : Nat) (s : St) : St := if k = 6 ∧ i = 1 then ⟨s.a, s.l + 1, s.m⟩ else s
def stepOut (k : Int) (i : Nat) (s : St) : St := if k = 6 ∧ i = 1 then ⟨s.a, s.l - 1, s.m⟩ else s

theorem loopE_zero (P : Int → St → Int × Int × St) (k : Int) (i : Nat) (s : St) (ws : List Int) : loopE P k 0 i s ws = (ws, 0, s) := rfl
theorem loopE_bad (P : Int → St → Int × Int × St) (k : Int) (r i : Nat) (s : St) (ws : List Int) (h : (P (kidE k i) (stepIn k i s)).2.1 ≠ 0) :
    loopE P k (r + 1) i s ws = (ws, (P (kidE k i) (stepIn k i s)).2.1, (P (kidE k i) (stepIn k i s)).2.2) := by
  unfold stepIn at *
  rw [loopE, if_pos h]
theorem loopE_good (P : Int → St → Int × Int × St) (k : Int) (r i : Nat) (s : St) (ws : List Int) (h : (P (kidE k i) (stepIn k i s)).2.1 = 0) :
    loopE P k (r + 1) i s ws = loopE P k r (i + 1) (stepOut k i (P (kidE k i) (stepIn k i s)).2.2) (ws ++ [(P (kidE k i) (stepIn k i s)).1]) := by
  unfold stepIn stepOut at *
  rw [loopE, if_neg (by omega)]

/-- A part with all of its own: what it wants, its fault, and where the checker stands behind it; g: how much deeper it may go. -/
def partE (nl nt : Nat) (fs : List Int) (ps : List (Int × Int × Int)) : Nat → Int → St → Int × Int × St
  | 0, what, s =>
    match ps[s.a]? with
    | none => (0, 171, s)
    | some (k, n, kc) => if aloneE nl nt fs s.l k n kc what ≠ 0 then (0, aloneE nl nt fs s.l k n kc what, s) else (0, 175, s)
  | g + 1, what, s =>
    match ps[s.a]? with
    | none => (0, 171, s)
    | some (k, n, kc) =>
      if aloneE nl nt fs s.l k n kc what ≠ 0 then (0, aloneE nl nt fs s.l k n kc what, s) else
      if (loopE (partE nl nt fs ps g) k kc.toNat 0 ⟨s.a + 1, s.l, s.m⟩ []).2.1 ≠ 0 then (0, (loopE (partE nl nt fs ps g) k kc.toNat 0 ⟨s.a + 1, s.l, s.m⟩ []).2.1, s) else
      (wantE k (loopE (partE nl nt fs ps g) k kc.toNat 0 ⟨s.a + 1, s.l, s.m⟩ []).1, 0,
        ⟨(loopE (partE nl nt fs ps g) k kc.toNat 0 ⟨s.a + 1, s.l, s.m⟩ []).2.2.a, (loopE (partE nl nt fs ps g) k kc.toNat 0 ⟨s.a + 1, s.l, s.m⟩ []).2.2.l,
          max (loopE (partE nl nt fs ps g) k kc.toNat 0 ⟨s.a + 1, s.l, s.m⟩ []).2.2.m (wantE k (loopE (partE nl nt fs ps g) k kc.toNat 0 ⟨s.a + 1, s.l, s.m⟩ []).1)⟩)

theorem partE_end (nl nt : Nat) (fs : List Int) (ps : List (Int × Int × Int)) (g : Nat) (what : Int) (s : St) (h : ps.length ≤ s.a) : partE nl nt fs ps g what s = (0, 171, s) := by
  cases g <;> rw [partE, List.getElem?_eq_none h]
theorem partE_bad (nl nt : Nat) (fs : List Int) (ps : List (Int × Int × Int)) (g : Nat) (what : Int) (s : St) (k n kc : Int) (h : ps[s.a]? = some (k, n, kc)) (he : aloneE nl nt fs s.l k n kc what ≠ 0) :
    partE nl nt fs ps g what s = (0, aloneE nl nt fs s.l k n kc what, s) := by
  cases g <;> rw [partE, h] <;> simp only [] <;> rw [if_pos he]
theorem partE_deep (nl nt : Nat) (fs : List Int) (ps : List (Int × Int × Int)) (what : Int) (s : St) (k n kc : Int) (h : ps[s.a]? = some (k, n, kc)) (he : aloneE nl nt fs s.l k n kc what = 0) :
    partE nl nt fs ps 0 what s = (0, 175, s) := by
  rw [partE, h]; simp only []; rw [if_neg (by omega)]
theorem partE_kids (nl nt : Nat) (fs : List Int) (ps : List (Int × Int × Int)) (g : Nat) (what : Int) (s : St) (k n kc : Int) (h : ps[s.a]? = some (k, n, kc)) (he : aloneE nl nt fs s.l k n kc what = 0) (r : List Int × Int × St)
    (hr : loopE (partE nl nt fs ps g) k kc.toNat 0 ⟨s.a + 1, s.l, s.m⟩ [] = r) :
    partE nl nt fs ps (g + 1) what s = if r.2.1 ≠ 0 then (0, r.2.1, s) else (wantE k r.1, 0, ⟨r.2.2.a, r.2.2.l, max r.2.2.m (wantE k r.1)⟩) := by
  rw [partE, h]; simp only []; rw [if_neg (by omega), hr]

/-- What a part leaves where it is right. -/
structure PGood (np : Nat) (g : Nat) (s : St) (q : Int × Int × St) : Prop where
  a1 : s.a < q.2.2.a
  a2 : q.2.2.a ≤ np
  l : q.2.2.l = s.l
  w0 : 0 ≤ q.1
  w1 : q.1 ≤ ((g : Int) + 1) * 70368744177664
  m : q.2.2.m = max s.m q.2.2.m
  m1 : q.2.2.m ≤ max s.m (((g : Int) + 1) * 70368744177664)

structure LGood (np : Nat) (g : Nat) (s : St) (i : Nat) (ws : List Int) (r : List Int × Int × St) (n : Nat) : Prop where
  a1 : s.a + n ≤ r.2.2.a
  a2 : r.2.2.a ≤ np
  l : r.2.2.l = s.l
  len : r.1.length = ws.length + n
  w : ∀ j, j < r.1.length → 0 ≤ r.1.getD j 0 ∧ r.1.getD j 0 ≤ (g : Int) * 70368744177664
  m : r.2.2.m = max s.m r.2.2.m
  m1 : r.2.2.m ≤ max s.m ((g : Int) * 70368744177664)

theorem snoc_bound (ws : List Int) (x B : Int) (hws : ∀ j, j < ws.length → 0 ≤ ws.getD j 0 ∧ ws.getD j 0 ≤ B) (hx : 0 ≤ x ∧ x ≤ B) : ∀ j, j < (ws ++ [x]).length → 0 ≤ (ws ++ [x]).getD j 0 ∧ (ws ++ [x]).getD j 0 ≤ B := by
  intro j hj
  by_cases h : j < ws.length
  · have : (ws ++ [x]).getD j 0 = ws.getD j 0 := by simp [List.getD, List.getElem?_append_left h]
    rw [this]; exact hws j h
  · have e : j = ws.length := by simp at hj; omega
    have : (ws ++ [x]).getD j 0 = x := by simp [List.getD, e]
    rw [this]; exact hx

theorem loopE_good_all (np g : Nat) (P : Int → St → Int × Int × St) (k : Int) (hP : ∀ what s, s.a ≤ np → (P what s).2.1 = 0 → PGood np g s (P what s)) :
    ∀ n i s ws, s.a ≤ np → (∀ j, j < ws.length → 0 ≤ ws.getD j 0 ∧ ws.getD j 0 ≤ ((g : Int) + 1) * 70368744177664) → (loopE P k n i s ws).2.1 = 0 → LGood np (g + 1) s i ws (loopE P k n i s ws) n
  | 0, i, s, ws, ha, hws, _ => by
    rw [loopE_zero]
    refine ⟨by simp, ha, rfl, by simp, ?_, by simp, by simp only []; omega⟩
    intro j hj
    have := hws j hj
    push_cast
    exact this
  | n + 1, i, s, ws, ha, hws, he => by
    by_cases hb : (P (kidE k i) (stepIn k i s)).2.1 = 0
    · rw [loopE_good P k n i s ws hb] at he ⊢
      have G := hP _ _ (by unfold stepIn; split <;> exact ha) hb
      have hl : (stepOut k i (P (kidE k i) (stepIn k i s)).2.2).l = s.l := by
        have := G.l
        generalize P (kidE k i) (stepIn k i s) = q at this
        by_cases c : k = 6 ∧ (i : Nat) = 1
        · have e1 : (stepIn k i s).l = s.l + 1 := by unfold stepIn; rw [if_pos c]
          have e2 : (stepOut k i q.2.2).l = q.2.2.l - 1 := by unfold stepOut; rw [if_pos c]
          omega
        · have e1 : (stepIn k i s).l = s.l := by unfold stepIn; rw [if_neg c]
          have e2 : (stepOut k i q.2.2).l = q.2.2.l := by unfold stepOut; rw [if_neg c]
          omega
      have haS : (stepIn k i s).a = s.a := by unfold stepIn; split <;> rfl
      have hmS : (stepIn k i s).m = s.m := by unfold stepIn; split <;> rfl
      have haO : ∀ s, (stepOut k i s).a = s.a := by intro s; unfold stepOut; split <;> rfl
      have hmO : ∀ s, (stepOut k i s).m = s.m := by intro s; unfold stepOut; split <;> rfl
      have R := loopE_good_all np g P k hP n (i + 1) _ _ (by rw [haO]; exact G.a2) (snoc_bound ws _ _ hws ⟨G.w0, G.w1⟩) he
      have g1 := G.a1
      have g2 := G.m
      have g3 := G.m1
      obtain ⟨r1, r2, r3, r4, r5, r6, r7⟩ := R
      rw [haO] at r1
      rw [hmO] at r6 r7
      rw [haS] at g1
      rw [hmS] at g2 g3
      generalize loopE P k n (i + 1) _ _ = r at *
      refine ⟨by omega, r2, by rw [r3, hl], by rw [List.length_append, List.length_singleton] at r4; omega, r5, ?_, ?_⟩
      · omega
      · push_cast at r7 ⊢; omega
    · rw [loopE_bad P k n i s ws hb] at he
      exact absurd he hb

theorem needs_of (nl nt : Nat) (fs : List Int) (l k n kc what : Int) (h : aloneE nl nt fs l k n kc what = 0) : needs k kc.toNat ∧ 1 ≤ k ∧ k < 27 := by
  unfold aloneE at h
  split at h
  · exact absurd h (by decide)
  split at h
  · exact absurd h (by decide)
  split at h
  · rename_i hx; exact absurd h hx
  refine ⟨?_, by omega, by omega⟩
  unfold kidsE at h
  unfold needs
  constructor
  · intro hk
    rw [if_neg (by omega), if_neg (by omega), if_neg (by omega), if_neg (by omega), if_neg (by omega), if_pos (by omega)] at h
    split at h
    · omega
    · exact absurd h (by decide)
  · intro hk
    by_cases h5 : k = 5
    · rw [if_neg (by omega), if_neg (by omega), if_neg (by omega), if_pos (by omega)] at h
      split at h
      · omega
      · exact absurd h (by decide)
    · by_cases h6 : k = 6
      · rw [if_neg (by omega), if_neg (by omega), if_neg (by omega), if_neg (by omega), if_neg (by omega), if_pos (by omega)] at h
        split at h
        · omega
        · exact absurd h (by decide)
      · rw [if_neg (by omega), if_neg (by omega), if_neg (by omega), if_neg (by omega), if_pos (by omega)] at h
        split at h
        · omega
        · exact absurd h (by decide)

theorem partE_good (nl nt : Nat) (fs : List Int) (ps : List (Int × Int × Int)) (hps : ps.length ≤ 17592186044416) : ∀ g what s, s.a ≤ ps.length → (partE nl nt fs ps g what s).2.1 = 0 → PGood ps.length g s (partE nl nt fs ps g what s)
  | 0, what, s, ha, he => by
    by_cases c1 : ps.length ≤ s.a
    · rw [partE_end nl nt fs ps 0 what s c1] at he; exact absurd he (by simp)
    obtain ⟨⟨k, n, kc⟩, hp⟩ : ∃ x, ps[s.a]? = some x := ⟨_, List.getElem?_eq_getElem (by omega)⟩
    by_cases c2 : aloneE nl nt fs s.l k n kc what = 0
    · rw [partE_deep nl nt fs ps what s k n kc hp c2] at he; exact absurd he (by simp)
    · rw [partE_bad nl nt fs ps 0 what s k n kc hp c2] at he; exact absurd he c2
  | g + 1, what, s, ha, he => by
    by_cases c1 : ps.length ≤ s.a
    · rw [partE_end nl nt fs ps _ what s c1] at he; exact absurd he (by simp)
    obtain ⟨⟨k, n, kc⟩, hp⟩ : ∃ x, ps[s.a]? = some x := ⟨_, List.getElem?_eq_getElem (by omega)⟩
    by_cases c2 : aloneE nl nt fs s.l k n kc what = 0
    · have L := loopE_good_all ps.length g (partE nl nt fs ps g) k (fun what s h h0 => partE_good nl nt fs ps hps g what s h h0) kc.toNat 0 ⟨s.a + 1, s.l, s.m⟩ [] (by simp only []; omega) (fun j hj => absurd hj (by simp))
      rw [partE_kids nl nt fs ps g what s k n kc hp c2 _ rfl] at he ⊢
      generalize loopE (partE nl nt fs ps g) k kc.toNat 0 ⟨s.a + 1, s.l, s.m⟩ [] = r at *
      by_cases c3 : r.2.1 = 0
      · rw [if_neg (by omega)]
        obtain ⟨r1, r2, r3, r4, r5, r6, r7⟩ := L c3
        have W := wantE_bound k r.1 _ (by omega) r5
        simp only [List.length_nil, Nat.zero_add] at r4
        simp only [] at r1 r3 r6 r7
        have hb : r.1.length ≤ 17592186044416 := by omega
        refine ⟨by simp only []; omega, r2, r3, W.1, ?_, ?_, ?_⟩
        · simp only []; push_cast at W ⊢; omega
        · simp only []; omega
        · simp only []; push_cast at W r7 ⊢; omega
      · rw [if_pos c3] at he; exact absurd he c3
    · rw [partE_bad nl nt fs ps _ what s k n kc hp c2] at he; exact absurd he c2

end Go.Proofs.Ytecaolkbllbokaa.TG

namespace Go.Proofs.Ytecaolkbllbokaa.TG
open Go.RowKit Go.Great
set_option linter.unusedSimpArgs false
set_option linter.unusedVariables false

theorem grownBy_drew {w w' : World} {row : Option Nat} (h : w.grownBy w' row) : w.grownBy w'.drew row := ⟨h.os, h.tape, h.output, h.size, h.block⟩
theorem grownBy_drewN (w : World) (n : Nat) (row : Option Nat) : w.grownBy (w.drewN n) row := ⟨rfl, rfl, rfl, by simp, fun k hk _ => by simp⟩
theorem grownBy_drewN' {w w' : World} {row : Option Nat} (h : w.grownBy w' row) (n : Nat) : w.grownBy (w'.drewN n) row := grownBy_trans h (grownBy_drewN w' n row)
theorem grownBy_set (w : World) (b o : Nat) (v : Value) : w.grownBy (w.setCell ⟨b, o, none⟩ v) (some b) := ⟨rfl, rfl, rfl, by simp, fun k hk hr => heap_setCell_other w _ k v (by intro e; exact hr (by rw [e]))⟩

theorem grow_w {w w' : World} {r : Option Nat} (h : w.grownBy w' none) : w.grownBy w' r := ⟨h.os, h.tape, h.output, h.size, fun k hk _ => h.block k hk (by simp)⟩
theorem own_ne {w : World} {base : Nat} {e : TypeId} {size n : Nat} {v : Value} {xs : List Value} {b : Nat} (h : w.ownsRow base e size v n xs) (hb : b < base) : v.ownBlock = none ∨ v.ownBlock ≠ some b := by
  cases hv : v.ownBlock with
  | none => left; rfl
  | some k => right; have := (h.lt k hv).1; intro e; injection e with e; omega

theorem one_new (w : World) (x : Value) (t : TypeId) : ∀ j u, [x][j]? = some u → (w.alloc (.cells #[x] t)).cell? ((⟨w.heap.size, 0, none⟩ : Addr).add j) = some u := by
  intro j u hj
  match j, hj with
  | 0, hj => simp at hj; subst hj; simp [Addr.add]
theorem one_set (w : World) (b o : Nat) (u0 x : Value) (t : TypeId) : ∀ j u, [x][j]? = some u → ((w.setCell ⟨b, o, none⟩ u0).alloc (.cells #[x] t)).cell? ((⟨w.heap.size, 0, none⟩ : Addr).add j) = some u := by
  have h := one_new (w.setCell ⟨b, o, none⟩ u0) x t
  rw [World.size_setCell] at h
  exact h
theorem one_cell (k : IntKind) (x : Int) : ∀ u ∈ [Value.int k x], u.oneCell' = true := by intro u hu; simp at hu; subst hu; rfl
theorem size_next {w : World} {B : Nat} (h : B < w.heap.size) (o : Obj) : B + 1 ≤ (w.alloc o).heap.size := by simp; omega

theorem own_ne2 {w : World} {base : Nat} {e : TypeId} {size n : Nat} {v : Value} {xs : List Value} {b : Nat} (h : w.ownsRow base e size v n xs) (hb : b < base) : v.ownBlock ≠ some b := by
  rcases own_ne h hb with h1 | h1
  · rw [h1]; simp
  · exact h1
theorem grow_own {w w1 w2 : World} {r : Option Nat} {base : Nat} {e : TypeId} {size n : Nat} {v : Value} {xs : List Value} {wr : World} (h : w.grownBy w1 r) (g : w1.grownBy w2 v.ownBlock) (ho : wr.ownsRow base e size v n xs) (hb : w.heap.size ≤ base) : w.grownBy w2 r :=
  ⟨g.os.trans h.os, g.tape.trans h.tape, g.output.trans h.output, Nat.le_trans h.size g.size, fun k hk hr => (g.block k (Nat.lt_of_lt_of_le hk h.size) (by intro e; have := (ho.lt k e.symm).1; omega)).trans (h.block k hk hr)⟩

/-- The checker's block. -/
def BoxW (tc : TypeId) (w : World) (Bc bf of : Nat) (vt vf : Value) (s : St) : Prop :=
  w.heap[Bc]? = some (.cells #[vt, vf, .pointer (some ⟨bf, of, none⟩), .int .i64 s.a, .int .i64 s.l, .int .i64 s.m] tc (0, 0))

theorem box_kept {tc : TypeId} {w w' : World} {Bc bf of : Nat} {vt vf : Value} {s : St} {row : Option Nat} (h : BoxW tc w Bc bf of vt vf s) (g : w.grownBy w' row) (hr : row ≠ some Bc) : BoxW tc w' Bc bf of vt vf s := by
  unfold BoxW at *
  rw [g.block Bc ?_ (by intro e; exact hr e.symm)]
  · exact h
  · exact (Array.getElem?_eq_some_iff.1 h).1
theorem box_lt {tc : TypeId} {w : World} {Bc bf of : Nat} {vt vf : Value} {s : St} (h : BoxW tc w Bc bf of vt vf s) : Bc < w.heap.size := (Array.getElem?_eq_some_iff.1 h).1
theorem box_cell {tc : TypeId} {w : World} {Bc bf of : Nat} {vt vf : Value} {s : St} (h : BoxW tc w Bc bf of vt vf s) (j : Nat) : w.cell? ⟨Bc, j, none⟩ = (#[vt, vf, .pointer (some ⟨bf, of, none⟩), .int .i64 s.a, .int .i64 s.l, .int .i64 s.m] : Array Value)[j]? :=
  cell_of_row w Bc j _ _ _ h
theorem box_frozen {tc : TypeId} {w : World} {Bc bf of : Nat} {vt vf : Value} {s : St} (h : BoxW tc w Bc bf of vt vf s) (j : Nat) : w.frozen? ⟨Bc, j, none⟩ = false := frozen_of_row w Bc j _ _ h
theorem box_set {tc : TypeId} {w : World} {Bc bf of : Nat} {vt vf : Value} {s : St} (h : BoxW tc w Bc bf of vt vf s) :
    (∀ x : Int, ∀ a : Nat, x = (a : Int) → BoxW tc (w.setCell ⟨Bc, 3, none⟩ (.int .i64 x)) Bc bf of vt vf ⟨a, s.l, s.m⟩) ∧ (∀ x : Int, BoxW tc (w.setCell ⟨Bc, 4, none⟩ (.int .i64 x)) Bc bf of vt vf ⟨s.a, x, s.m⟩) ∧
      (∀ x : Int, BoxW tc (w.setCell ⟨Bc, 5, none⟩ (.int .i64 x)) Bc bf of vt vf ⟨s.a, s.l, x⟩) := by
  refine ⟨fun x a e => ?_, fun x => ?_, fun x => ?_⟩
  · subst e
    unfold BoxW at *
    rw [heap_setCell_same w Bc _ _ _ _ h]; rfl
  · unfold BoxW at *
    rw [heap_setCell_same w Bc _ _ _ _ h]; rfl
  · unfold BoxW at *
    rw [heap_setCell_same w Bc _ _ _ _ h]; rfl

theorem box_3 {tc : TypeId} {w : World} {Bc bf of : Nat} {vt vf : Value} {s : St} (h : BoxW tc w Bc bf of vt vf s) : w.cell? ⟨Bc, 3, none⟩ = some (.int .i64 s.a) := box_cell h 3
theorem box_4 {tc : TypeId} {w : World} {Bc bf of : Nat} {vt vf : Value} {s : St} (h : BoxW tc w Bc bf of vt vf s) : w.cell? ⟨Bc, 4, none⟩ = some (.int .i64 s.l) := box_cell h 4
theorem box_5 {tc : TypeId} {w : World} {Bc bf of : Nat} {vt vf : Value} {s : St} (h : BoxW tc w Bc bf of vt vf s) : w.cell? ⟨Bc, 5, none⟩ = some (.int .i64 s.m) := box_cell h 5

/-- A part's own copy. -/
def CopyW (w : World) (B : Nat) (k n kc : Int) : Prop := w.heap[B]? = some (.cells #[.int .i64 k, .int .i64 n, .int .i64 kc] 108 (0, 0))
theorem copy_kept {w w' : World} {B : Nat} {k n kc : Int} {row : Option Nat} (h : CopyW w B k n kc) (g : w.grownBy w' row) (hr : row ≠ some B) : CopyW w' B k n kc := by
  unfold CopyW at *
  rw [g.block B ?_ (by intro e; exact hr e.symm)]
  · exact h
  · exact (Array.getElem?_eq_some_iff.1 h).1
theorem copy_lt {w : World} {B : Nat} {k n kc : Int} (h : CopyW w B k n kc) : B < w.heap.size := (Array.getElem?_eq_some_iff.1 h).1
theorem copy_cell {w : World} {B : Nat} {k n kc : Int} (h : CopyW w B k n kc) (j : Nat) : w.cell? ⟨B, j, none⟩ = (#[.int .i64 k, .int .i64 n, .int .i64 kc] : Array Value)[j]? := cell_of_row w B j _ _ _ h
theorem copy_0 {w : World} {B : Nat} {k n kc : Int} (h : CopyW w B k n kc) : w.cell? ⟨B, 0, none⟩ = some (.int .i64 k) := copy_cell h 0
theorem copy_1 {w : World} {B : Nat} {k n kc : Int} (h : CopyW w B k n kc) : w.cell? ⟨B, 1, none⟩ = some (.int .i64 n) := copy_cell h 1
theorem copy_2 {w : World} {B : Nat} {k n kc : Int} (h : CopyW w B k n kc) : w.cell? ⟨B, 2, none⟩ = some (.int .i64 kc) := copy_cell h 2
theorem copy_new (w : World) (k n kc : Int) : CopyW (w.alloc (.cells #[.int .i64 k, .int .i64 n, .int .i64 kc] 108)) w.heap.size k n kc := heap_alloc_new w _

theorem grown_copy (w0 : World) (k n kc : Int) : CopyW ((w0.alloc (.cells #[.int .i64 k, .int .i64 n, .int .i64 kc] 108)).drew) w0.heap.size k n kc := copy_new w0 k n kc

/-- The functions' arguments, below the checker's block. -/
def FunsB (w : World) (Bc : Nat) (pf : Option Addr) (fs : List Int) : Prop := 0 < fs.length → ∃ bF oF : Nat, pf = some ⟨bF, oF, none⟩ ∧ bF < Bc ∧ ∀ i, i < fs.length → w.cell? ⟨bF, oF + i * 4 + 1, none⟩ = some (.int .i64 (fs.getD i 0))

/-- The parts, below the checker's block. -/
def PartsB (w : World) (Bc : Nat) (pp : Option Addr) (ps : List (Int × Int × Int)) : Prop := 0 < ps.length → ∃ bp op : Nat, pp = some ⟨bp, op, none⟩ ∧ bp < Bc ∧ ∀ j k n kc, ps[j]? = some (k, n, kc) →
  w.cell? ⟨bp, op + j * 3, none⟩ = some (.int .i64 k) ∧ w.cell? ⟨bp, op + j * 3 + 1, none⟩ = some (.int .i64 n) ∧ w.cell? ⟨bp, op + j * 3 + 2, none⟩ = some (.int .i64 kc)

/-- What a walk of part reads beside the checker's block. -/
structure Env (w : World) (Bc bf of : Nat) (vl : Value) (pp : Option Addr) (cp : Nat) (ps : List (Int × Int × Int)) (pf : Option Addr) (fs : List Int) : Prop where
  lt : Bc < w.heap.size
  ltf : bf < Bc
  f2 : w.cell? ⟨bf, of + 2, none⟩ = some vl
  f3 : w.cell? ⟨bf, of + 3, none⟩ = some (.slice pp ps.length cp)
  pa : PartsB w Bc pp ps
  fu : FunsB w Bc pf fs

theorem env_kept {w w' : World} {Bc bf of cp : Nat} {vl : Value} {pp pf : Option Addr} {ps : List (Int × Int × Int)} {fs : List Int} (h : Env w Bc bf of vl pp cp ps pf fs) (g : w.grownBy w' (some Bc)) : Env w' Bc bf of vl pp cp ps pf fs := by
  have hb := h.ltf
  refine ⟨Nat.lt_of_lt_of_le h.lt g.size, h.ltf, g.cell h.f2 (by simp; omega), g.cell h.f3 (by simp; omega), fun h0 => ?_, fun h0 => ?_⟩
  · obtain ⟨bp, op, e, hp, hc⟩ := h.pa h0
    refine ⟨bp, op, e, hp, fun j k n kc hj => ?_⟩
    obtain ⟨h1, h2, h3⟩ := hc j k n kc hj
    exact ⟨g.cell h1 (by simp; omega), g.cell h2 (by simp; omega), g.cell h3 (by simp; omega)⟩
  · obtain ⟨bp, op, e, hp, hc⟩ := h.fu h0
    exact ⟨bp, op, e, hp, fun i hi => g.cell (hc i hi) (by simp; omega)⟩

theorem env_chk {tc : TypeId} {w : World} {Bc bf of cp : Nat} {vt vf vl : Value} {pp pf : Option Addr} {ps : List (Int × Int × Int)} {fs : List Int} {s : St} (h : Env w Bc bf of vl pp cp ps pf fs) (b : BoxW tc w Bc bf of vt vf s) :
    Chk w Bc bf of vt vf vl (.slice pp ps.length cp) s.a s.l s.m :=
  ⟨h.lt, Nat.lt_trans h.ltf h.lt, Nat.ne_of_lt h.ltf, box_cell b 0, box_cell b 1, box_cell b 2, box_cell b 3, box_cell b 4, box_cell b 5, h.f2, h.f3⟩
theorem env_funs {w : World} {Bc bf of cp : Nat} {vl : Value} {pp pf : Option Addr} {ps : List (Int × Int × Int)} {fs : List Int} (h : Env w Bc bf of vl pp cp ps pf fs) : Funs w pf fs := fun h0 => by
  obtain ⟨bF, oF, e, hb, hc⟩ := h.fu h0
  exact ⟨bF, oF, e, Nat.lt_trans hb h.lt, hc⟩

/-- What a call of part leaves. -/
def PartPost (tc : TypeId) (w : World) (Bc bf of : Nat) (vt vf : Value) (q : Int × Int × St) (e : Ending) (w' : World) : Prop :=
  e = .returned (.tuple #[.int .i64 q.1, .int .i64 q.2.1]) ∧ w.grownBy w' (some Bc) ∧ (q.2.1 = 0 → BoxW tc w' Bc bf of vt vf q.2.2)

theorem ints_own {w : World} {base cap : Nat} {e : TypeId} {v : Value} {ws : List Int} (h : w.ownsRow base e 1 v ws.length (ws.map (Value.int .i64))) : Ints w v ws := by
  rcases h with ⟨hl, ⟨rfl, h0⟩ | ⟨g, cap, cur, rfl, hb, hg, hn, hc, hs, ht⟩⟩
  · exact ⟨none, 0, by rw [h0], fun h => by omega⟩
  · refine ⟨_, cap, rfl, fun h => ⟨g, 0, rfl, (Array.getElem?_eq_some_iff.1 hg).1, fun i hi => ?_⟩⟩
    rw [Nat.zero_add, cell_of_row w g i _ _ _ hg]
    have e1 : (cur.toList.take (ws.length * 1))[i]? = (ws.map (Value.int .i64))[i]? := by rw [ht]
    rw [Nat.mul_one, List.getElem?_take_of_lt hi, Array.getElem?_toList] at e1
    rw [e1, List.getElem?_map, List.getElem?_eq_getElem hi]
    simp [List.getD, List.getElem?_eq_getElem hi]

theorem ints_kept {w w' : World} {v : Value} {ws : List Int} (h : Ints w v ws) (g : w.grownBy w' none) : Ints w' v ws := by
  obtain ⟨p, cap, e, hc⟩ := h
  refine ⟨p, cap, e, fun h0 => ?_⟩
  obtain ⟨b, off, e2, hb, hc2⟩ := hc h0
  exact ⟨b, off, e2, Nat.lt_of_lt_of_le hb g.size, fun i hi => g.cell (hc2 i hi) (by simp)⟩

/-- Where the loop over a part's kids stands. -/
structure LRel (tc : TypeId) (w wr : World) (Bc bf of B : Nat) (vt vf : Value) (k n kc : Int) (P : Int → St → Int × Int × St) (np g : Nat) (s0 : St) (l0 : Int) (q : Nat) (v : Value) (t : St) (ws : List Int) : Prop where
  own : wr.ownsRow (B + 1) 3 1 v ws.length (ws.map (Value.int .i64))
  box : BoxW tc wr Bc bf of vt vf t
  copy : CopyW wr B k n kc
  gr : w.grownBy wr (some Bc)
  eq : loopE P k kc.toNat 0 s0 [] = loopE P k (kc.toNat - q) q t ws
  a : t.a ≤ np
  len : ws.length + 1 ≤ t.a
  lenq : ws.length = q
  l : t.l = l0
  m0 : 0 ≤ t.m
  m1 : t.m ≤ 10000000000000000
  w : ∀ j, j < ws.length → 0 ≤ ws.getD j 0 ∧ ws.getD j 0 ≤ ((g : Int) + 1) * 70368744177664
  q : q ≤ kc.toNat

theorem stepIn_a (k : Int) (q : Nat) (t : St) : (stepIn k q t).a = t.a := by unfold stepIn; split <;> rfl
theorem stepIn_m (k : Int) (q : Nat) (t : St) : (stepIn k q t).m = t.m := by unfold stepIn; split <;> rfl
theorem stepOut_a (k : Int) (q : Nat) (t : St) : (stepOut k q t).a = t.a := by unfold stepOut; split <;> rfl
theorem stepOut_m (k : Int) (q : Nat) (t : St) : (stepOut k q t).m = t.m := by unfold stepOut; split <;> rfl
theorem stepIn_l (k : Int) (q : Nat) (t : St) : t.l ≤ (stepIn k q t).l ∧ (stepIn k q t).l ≤ t.l + 1 := by unfold stepIn; split <;> (constructor <;> (try simp only []) <;> omega)
theorem step_l (k : Int) (q : Nat) (t u : St) (h : u.l = (stepIn k q t).l) : (stepOut k q u).l = t.l := by
  by_cases c : k = 6 ∧ q = 1
  · have e1 : (stepIn k q t).l = t.l + 1 := by unfold stepIn; rw [if_pos c]
    have e2 : (stepOut k q u).l = u.l - 1 := by unfold stepOut; rw [if_pos c]
    omega
  · have e1 : (stepIn k q t).l = t.l := by unfold stepIn; rw [if_neg c]
    have e2 : (stepOut k q u).l = u.l := by unfold stepOut; rw [if_neg c]
    omega

theorem lrel_step {tc : TypeId} {w wr w4 : World} {Bc bf of B : Nat} {vt vf : Value} {k n kc : Int} {P : Int → St → Int × Int × St} {np g : Nat} {s0 : St} {l0 : Int} {q : Nat} {v v' : Value} {t us : St} {ws : List Int} {uw : Int}
    (h : LRel tc w wr Bc bf of B vt vf k n kc P np g s0 l0 q v t ws) (hlt : (q : Int) < kc) (hu : P (kidE k q) (stepIn k q t) = (uw, 0, us)) (pg : PGood np g (stepIn k q t) (uw, 0, us)) (hg : g ≤ 64)
    (own : w4.ownsRow (B + 1) 3 1 v' (ws.length + 1) (ws.map (Value.int .i64) ++ [.int .i64 uw])) (box : BoxW tc w4 Bc bf of vt vf (stepOut k q us)) (copy : CopyW w4 B k n kc) (gr : w.grownBy w4 (some Bc)) :
    LRel tc w w4 Bc bf of B vt vf k n kc P np g s0 l0 (q + 1) v' (stepOut k q us) (ws ++ [uw]) := by
  obtain ⟨a1, a2, l, w0, w1, m, m1⟩ := pg
  have i1 := stepIn_a k q t
  have i2 := stepIn_m k q t
  have o1 := stepOut_a k q us
  have o2 := stepOut_m k q us
  have hl := h.len
  have hm0 := h.m0
  have hm1 := h.m1
  simp only [] at a1 a2 l w0 w1 m m1
  refine ⟨?_, box, copy, gr, ?_, by omega, ?_, by rw [List.length_append, List.length_singleton, h.lenq], by rw [step_l k q t us l]; exact h.l, by omega, by omega, snoc_bound ws uw _ h.w ⟨w0, w1⟩, by have := h.q; omega⟩
  · rw [List.length_append, List.length_singleton, List.map_append]; exact own
  · rw [h.eq]
    have e : kc.toNat - q = (kc.toNat - (q + 1)) + 1 := by omega
    rw [e, loopE_good P k _ q t ws (by rw [hu])]
    rw [hu]
  · rw [List.length_append, List.length_singleton]; omega

theorem lrel_bad {tc : TypeId} {w wr : World} {Bc bf of B : Nat} {vt vf : Value} {k n kc : Int} {P : Int → St → Int × Int × St} {np g : Nat} {s0 : St} {l0 : Int} {q : Nat} {v : Value} {t : St} {ws : List Int} {u : Int × Int × St}
    (h : LRel tc w wr Bc bf of B vt vf k n kc P np g s0 l0 q v t ws) (hlt : (q : Int) < kc) (hu : P (kidE k q) (stepIn k q t) = u) (he : u.2.1 ≠ 0) : (loopE P k kc.toNat 0 s0 []).2.1 = u.2.1 := by
  rw [h.eq]
  have e : kc.toNat - q = (kc.toNat - (q + 1)) + 1 := by omega
  rw [e, loopE_bad P k _ q t ws (by rw [hu]; exact he)]
  rw [hu]

theorem lrel_end {tc : TypeId} {w wr : World} {Bc bf of B : Nat} {vt vf : Value} {k n kc : Int} {P : Int → St → Int × Int × St} {np g : Nat} {s0 : St} {l0 : Int} {q : Nat} {v : Value} {t : St} {ws : List Int}
    (h : LRel tc w wr Bc bf of B vt vf k n kc P np g s0 l0 q v t ws) (hlt : ¬ (q : Int) < kc) : loopE P k kc.toNat 0 s0 [] = (ws, 0, t) := by
  rw [h.eq]
  have e : kc.toNat - q = 0 := by omega
  rw [e, loopE_zero]

theorem int_und : Try.prog.underlying 47 = some (.slice 3) := by kernel_rfl
theorem int_info : (Try.prog.info? 3).map (fun i => (i.zero, i.size, i.bytes)) = some (some (.int .i64 0), 1, 8) := by kernel_rfl

end Go.Proofs.Ytecaolkbllbokaa.TG

namespace Go.Proofs.Ytecaolkbllbokaa.TG
open Go.RowKit Go.Great
set_option linter.unusedSimpArgs false
set_option linter.unusedVariables false

set_option maxRecDepth 100000 in
set_option maxHeartbeats 2000000 in
theorem part_bad (deep : Int) (tc : TypeId) (what : Int) (Bc bf of cp cf nl cl nt ct : Nat) (pt pf pl pp : Option Addr) (fs : List Int) (hfs : fs.length ≤ 1000000) (ps : List (Int × Int × Int)) (hnp : ps.length ≤ 17592186044415) (s : St) (k n kc : Int) (hp : ps[s.a]? = some (k, n, kc)) (he : aloneE nl nt fs s.l k n kc what ≠ 0) (w : World)
    (hE : Env w Bc bf of (.slice pl nl cl) pp cp ps pf fs) (hB : BoxW tc w Bc bf of (.slice pt nt ct) (.slice pf fs.length cf) s) :
    Calls Try.prog 54 #[.pointer (some ⟨Bc, 0, none⟩), .int .i64 what, .int .i64 deep] w fun e w' => e = .returned (.tuple #[.int .i64 0, .int .i64 (aloneE nl nt fs s.l k n kc what)]) ∧ w.grownBy w' none := by
  have hja : s.a < ps.length := (List.getElem?_eq_some_iff.1 hp).1
  obtain ⟨bp, op, rfl, hpB, hpc⟩ := hE.pa (by omega)
  obtain ⟨p0, p1, p2⟩ := hpc _ _ _ _ hp
  have hbp : bp < w.heap.size := Nat.lt_trans hpB hE.lt
  have A := Lib.hid (fun w1 (g : w.grownBy w1 none) => alone_any k n kc what Bc bf of nl cl nt ct cf pt pf pl fs hfs _ _ _ _ w1 (chk_kept (env_chk hE hB) g) (funs_kept (env_funs hE) g))
  have EE := Lib.hid hE
  have BB := Lib.hid hB
  obtain ⟨hlt, hltf, hne, c0, c1, c2, c3, c4, c5, f2, f3⟩ := env_chk hE hB
  clear hE hB hpc hp
  have hji : (s.a : Int) < (ps.length : Int) := by omega
  generalize hea : aloneE nl nt fs s.l k n kc what = e0 at *
  go_enter Try.func54, Try.ntmps54
  go_wp2
  go_quiet (fail)
  go_wp2
  have hs : w.heap.size = (w.drewN nq).heap.size := by simp
  have g0 : w.grownBy (w.drewN nq) none := ⟨rfl, rfl, rfl, by simp, fun k hk _ => by simp⟩
  have GG := Lib.hid g0
  replace c0 := g0.cell c0 (by simp)
  replace c1 := g0.cell c1 (by simp)
  replace c2 := g0.cell c2 (by simp)
  replace c3 := g0.cell c3 (by simp)
  replace f3 := g0.cell f3 (by simp)
  replace p0 := g0.cell p0 (by simp)
  replace p1 := g0.cell p1 (by simp)
  replace p2 := g0.cell p2 (by simp)
  have hlt' : Bc < (w.drewN nq).heap.size := by rw [← hs]; exact hlt
  have hltf' : bf < (w.drewN nq).heap.size := by rw [← hs]; exact hltf
  have hbp' : bp < (w.drewN nq).heap.size := by rw [← hs]; exact hbp
  have HS := Lib.hid hs
  clear hs g0
  generalize w.drewN nq = w0 at *
  clear c4 c5 f2
  go_region
  have g1 : w.grownBy ((w0.alloc (.cells #[.int .i64 k, .int .i64 n, .int .i64 kc] 108)).drew) none := grownBy_trans GG.out (grownBy_drew (World.grownBy_alloc w0 _ none))
  have G1 := Lib.hid g1
  clear g1
  have b0 : (e0 != 0) = true := by simpa using he
  clear he
  go_wp2_with (go_at_call 85; refine (A.out _ G1.out).mono ?_; rintro e w1 ⟨rfl, hg⟩; have HG := Lib.hid hg; clear hg)
  refine bodyPost_ret (v := .tuple #[.int .i64 0, .int .i64 e0]) ?_ rfl ⟨rfl, ?_⟩
  · rw [results_tmp2 rfl]
    go_simp
  · exact grownBy_trans G1.out HG.out

set_option maxRecDepth 100000 in
set_option maxHeartbeats 2000000 in
theorem part_deep (deep : Int) (hd : 64 < deep) (tc : TypeId) (what : Int) (Bc bf of cp cf nl cl nt ct : Nat) (pt pf pl pp : Option Addr) (fs : List Int) (hfs : fs.length ≤ 1000000) (ps : List (Int × Int × Int)) (hnp : ps.length ≤ 17592186044415) (s : St) (k n kc : Int) (hp : ps[s.a]? = some (k, n, kc)) (he : aloneE nl nt fs s.l k n kc what = 0) (w : World)
    (hE : Env w Bc bf of (.slice pl nl cl) pp cp ps pf fs) (hB : BoxW tc w Bc bf of (.slice pt nt ct) (.slice pf fs.length cf) s) :
    Calls Try.prog 54 #[.pointer (some ⟨Bc, 0, none⟩), .int .i64 what, .int .i64 deep] w fun e w' => e = .returned (.tuple #[.int .i64 0, .int .i64 175]) ∧ w.grownBy w' none := by
  have hja : s.a < ps.length := (List.getElem?_eq_some_iff.1 hp).1
  obtain ⟨bp, op, rfl, hpB, hpc⟩ := hE.pa (by omega)
  obtain ⟨p0, p1, p2⟩ := hpc _ _ _ _ hp
  have hbp : bp < w.heap.size := Nat.lt_trans hpB hE.lt
  have A := Lib.hid (fun w1 (g : w.grownBy w1 none) => alone_any k n kc what Bc bf of nl cl nt ct cf pt pf pl fs hfs _ _ _ _ w1 (chk_kept (env_chk hE hB) g) (funs_kept (env_funs hE) g))
  have EE := Lib.hid hE
  have BB := Lib.hid hB
  obtain ⟨hlt, hltf, hne, c0, c1, c2, c3, c4, c5, f2, f3⟩ := env_chk hE hB
  clear hE hB hpc hp
  have hji : (s.a : Int) < (ps.length : Int) := by omega
  generalize hea : aloneE nl nt fs s.l k n kc what = e0 at *
  go_enter Try.func54, Try.ntmps54
  go_wp2
  go_quiet (fail)
  go_wp2
  have hs : w.heap.size = (w.drewN nq).heap.size := by simp
  have g0 : w.grownBy (w.drewN nq) none := ⟨rfl, rfl, rfl, by simp, fun k hk _ => by simp⟩
  have GG := Lib.hid g0
  replace c0 := g0.cell c0 (by simp)
  replace c1 := g0.cell c1 (by simp)
  replace c2 := g0.cell c2 (by simp)
  replace c3 := g0.cell c3 (by simp)
  replace f3 := g0.cell f3 (by simp)
  replace p0 := g0.cell p0 (by simp)
  replace p1 := g0.cell p1 (by simp)
  replace p2 := g0.cell p2 (by simp)
  have hlt' : Bc < (w.drewN nq).heap.size := by rw [← hs]; exact hlt
  have hltf' : bf < (w.drewN nq).heap.size := by rw [← hs]; exact hltf
  have hbp' : bp < (w.drewN nq).heap.size := by rw [← hs]; exact hbp
  have HS := Lib.hid hs
  clear hs g0
  generalize w.drewN nq = w0 at *
  clear c4 c5 f2
  go_region
  have g1 : w.grownBy ((w0.alloc (.cells #[.int .i64 k, .int .i64 n, .int .i64 kc] 108)).drew) none := grownBy_trans GG.out (grownBy_drew (World.grownBy_alloc w0 _ none))
  have G1 := Lib.hid g1
  clear g1
  subst he
  go_wp2_with (go_at_call 85; refine (A.out _ G1.out).mono ?_; rintro e w1 ⟨rfl, hg⟩; have HG := Lib.hid hg; clear hg)
  refine bodyPost_ret (v := .tuple #[.int .i64 0, .int .i64 175]) ?_ rfl ⟨rfl, ?_⟩
  · rw [results_tmp2 rfl]
    go_simp
  · exact grownBy_trans G1.out HG.out

end Go.Proofs.Ytecaolkbllbokaa.TG
