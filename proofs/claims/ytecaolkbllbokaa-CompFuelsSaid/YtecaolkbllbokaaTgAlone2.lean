/-
  Walk of the checker's alone: a part by itself. Conditions: as each theorem states.
-/
import Derived.Test.YtecaolkbllbokaaTgAlone
import Derived.Test.YtecaolkbllbokaaTgKind
namespace Go.Proofs.Ytecaolkbllbokaa.TG
open Go.RowKit Go.Great
set_option linter.unusedSimpArgs false
set_option linter.unusedVariables false

theorem chk_kept {w w' : World} {Bc bf of : Nat} {vt vf vl vp : Value} {a l m : Int} (h : Chk w Bc bf of vt vf vl vp a l m) (g : w.grownBy w' none) : Chk w' Bc bf of vt vf vl vp a l m :=
  ⟨Nat.lt_of_lt_of_le h.lt g.size, Nat.lt_of_lt_of_le h.ltf g.size, h.ne, g.cell h.c0 (by simp), g.cell h.c1 (by simp), g.cell h.c2 (by simp), g.cell h.c3 (by simp), g.cell h.c4 (by simp), g.cell h.c5 (by simp), g.cell h.f2 (by simp), g.cell h.f3 (by simp)⟩

/-- The functions' arguments, as a list says them. -/
def Funs (w : World) (pf : Option Addr) (fs : List Int) : Prop := 0 < fs.length → ∃ bF oF : Nat, pf = some ⟨bF, oF, none⟩ ∧ bF < w.heap.size ∧ ∀ i, i < fs.length → w.cell? ⟨bF, oF + i * 4 + 1, none⟩ = some (.int .i64 (fs.getD i 0))

theorem funs_kept {w w' : World} {pf : Option Addr} {fs : List Int} (h : Funs w pf fs) (g : w.grownBy w' none) : Funs w' pf fs := fun h0 => by
  obtain ⟨bF, oF, e, hb, hc⟩ := h h0
  exact ⟨bF, oF, e, Nat.lt_of_lt_of_le hb g.size, fun i hi => g.cell (hc i hi) (by simp)⟩

theorem among_zero {x n e : Int} (he : e ≠ 0) (h : amongE x n e = 0) : 0 ≤ x ∧ x < n := by
  unfold amongE at h
  by_cases c : x < 0 ∨ n ≤ x
  · rw [if_pos c] at h; exact absurd h he
  · omega

theorem kids_fun (k n kc : Int) (hk : 1 ≤ k ∧ k < 27) (Bc nl nt cf : Nat) (loops : Int) (pf : Option Addr) (fs : List Int) (hfs : fs.length ≤ 1000000) (w : World) (hlt : Bc < w.heap.size) (h1 : w.cell? ⟨Bc, 1, none⟩ = some (.slice pf fs.length cf))
    (hF : Funs w pf fs) (h0 : numE nl nt fs.length loops k n = 0) :
    Calls Try.prog 115 #[.pointer (some ⟨Bc, 0, none⟩), .agg #[.int .i64 k, .int .i64 n, .int .i64 kc]] w fun e w' => e = .returned (.int .i64 (kidsE (fs.getD n.toNat 0) k n kc)) ∧ w.grownBy w' none := by
  refine kids_any k n kc _ hk Bc fs.length cf pf w hlt h1 ?_ ?_
  · intro e
    subst e
    have := among_zero (by decide) (show amongE n fs.length 173 = 0 from h0)
    obtain ⟨bF, oF, e, hb, hc⟩ := hF (by omega)
    exact ⟨bF, oF, e, hb, this.1, by omega, hfs, hc _ (by omega)⟩
  · intro e
    subst e
    exact among_zero (by decide) (show amongE n 5 171 = 0 from h0)

/-- What alone answers. -/
def aloneE (nl nt : Nat) (fs : List Int) (loops k n kc what : Int) : Int :=
  if k < 1 ∨ 27 ≤ k then 171 else if kindsE k ≠ what ∧ ¬ (kindsE k = 0 ∧ what = 1) then 171 else
  if numE nl nt fs.length loops k n ≠ 0 then numE nl nt fs.length loops k n else kidsE (fs.getD n.toNat 0) k n kc

theorem alone_out (k n kc what : Int) (hk : k < 1 ∨ 27 ≤ k) (Bc : Nat) (w : World) :
    Calls Try.prog 85 #[.pointer (some ⟨Bc, 0, none⟩), .agg #[.int .i64 k, .int .i64 n, .int .i64 kc], .int .i64 what] w fun e w' => e = .returned (.int .i64 171) ∧ w.grownBy w' none := by
  rcases hk with hk | hk
  · go_enter Try.func85, Try.ntmps85
    go_wp2
    go_ret
    exact ⟨rfl, World.grownBy_alloc _ _ _⟩
  · have hk1 : ¬ k < 1 := by omega
    go_enter Try.func85, Try.ntmps85
    go_wp2
    go_ret
    exact ⟨rfl, World.grownBy_alloc _ _ _⟩

theorem alone_bad (k n kc what : Int) (hk : 1 ≤ k ∧ k < 27) (hq : kindsE k ≠ what ∧ ¬ (kindsE k = 0 ∧ what = 1)) (Bc : Nat) (w : World) :
    Calls Try.prog 85 #[.pointer (some ⟨Bc, 0, none⟩), .agg #[.int .i64 k, .int .i64 n, .int .i64 kc], .int .i64 what] w fun e w' => e = .returned (.int .i64 171) ∧ w.grownBy w' none := by
  have K := Lib.hid (kinds_any k)
  obtain ⟨hk0, hk2⟩ := hk
  have hk1 : ¬ k < 1 := by omega
  have hk3 : ¬ 27 ≤ k := by omega
  generalize kindsE k = q at *
  obtain ⟨hq1, hq2⟩ := hq
  have b1 : (q != what) = true := by simpa using hq1
  by_cases hz : q = 0
  · subst hz
    have b2 : (what == 1) = false := by simp; exact fun h => hq2 ⟨rfl, h⟩
    clear hq2 hq1
    go_enter Try.func85, Try.ntmps85
    go_wp2_with (go_at_call 113; refine (K.out _).mono ?_; rintro e w1 ⟨rfl, rfl⟩)
    go_ret
    exact ⟨rfl, World.grownBy_alloc _ _ _⟩
  · have b2 : (q == 0) = false := by simpa using hz
    clear hq2 hq1 hz
    go_enter Try.func85, Try.ntmps85
    go_wp2_with (go_at_call 113; refine (K.out _).mono ?_; rintro e w1 ⟨rfl, rfl⟩)
    go_ret
    exact ⟨rfl, World.grownBy_alloc _ _ _⟩

theorem alone_ok (k n kc what : Int) (hk : 1 ≤ k ∧ k < 27) (hq : kindsE k = what ∨ (kindsE k = 0 ∧ what = 1)) (Bc : Nat) (w : World) (v u : Int)
    (hN : ∀ w1, w.grownBy w1 none → Calls Try.prog 114 #[.pointer (some ⟨Bc, 0, none⟩), .agg #[.int .i64 k, .int .i64 n, .int .i64 kc]] w1 fun e w' => e = .returned (.int .i64 v) ∧ w1.grownBy w' none)
    (hD : v = 0 → ∀ w1, w.grownBy w1 none → Calls Try.prog 115 #[.pointer (some ⟨Bc, 0, none⟩), .agg #[.int .i64 k, .int .i64 n, .int .i64 kc]] w1 fun e w' => e = .returned (.int .i64 u) ∧ w1.grownBy w' none) :
    Calls Try.prog 85 #[.pointer (some ⟨Bc, 0, none⟩), .agg #[.int .i64 k, .int .i64 n, .int .i64 kc], .int .i64 what] w fun e w' => e = .returned (.int .i64 (if v ≠ 0 then v else u)) ∧ w.grownBy w' none := by
  have K := Lib.hid (kinds_any k)
  have N := Lib.hid hN
  have D := Lib.hid hD
  clear hN hD
  obtain ⟨hk0, hk2⟩ := hk
  have hk1 : ¬ k < 1 := by omega
  have hk3 : ¬ 27 ≤ k := by omega
  generalize kindsE k = q at *
  have hb : ((q != what) = false) ∨ ((q != what) = true ∧ (q == 0) = true ∧ (what == 1) = true) := by
    rcases hq with h | ⟨h1, h2⟩
    · left; simp [h]
    · right; subst h1; subst h2; decide
  clear hq
  by_cases hv : v = 0
  · have V0 := Lib.hid hv
    rw [if_neg (by omega)]
    have b0 : (v != 0) = false := by simpa using hv
    clear hv
    rcases hb with h1 | ⟨h1, h2, h3⟩
    all_goals
      go_enter Try.func85, Try.ntmps85
      go_wp2_with (first | (go_at_call 113; refine (K.out _).mono ?_; rintro e w1 ⟨rfl, rfl⟩) | (go_at_call 114; refine (N.out _ (World.grownBy_alloc _ _ _)).mono ?_; rintro e w1 ⟨rfl, hg⟩; have HG := Lib.hid hg; have z0 := hg.cell (a := ⟨w.heap.size, 0, none⟩) (v := .int .i64 k) (by simp) (by simp); have z1 := hg.cell (a := ⟨w.heap.size, 1, none⟩) (v := .int .i64 n) (by simp) (by simp); have z2 := hg.cell (a := ⟨w.heap.size, 2, none⟩) (v := .int .i64 kc) (by simp) (by simp); have hz := size_lt hg; clear hg) | (go_at_call 115; refine (D.out V0.out _ (grownBy_trans (World.grownBy_alloc _ _ _) HG.out)).mono ?_; rintro e w2 ⟨rfl, hg2⟩; have HG2 := Lib.hid hg2; clear hg2))
      go_ret
      exact ⟨rfl, grownBy_trans (grownBy_trans (World.grownBy_alloc _ _ _) HG.out) HG2.out⟩
  · rw [if_pos hv]
    have b0 : (v != 0) = true := by simpa using hv
    clear hv
    rcases hb with h1 | ⟨h1, h2, h3⟩
    all_goals
      go_enter Try.func85, Try.ntmps85
      go_wp2_with (first | (go_at_call 113; refine (K.out _).mono ?_; rintro e w1 ⟨rfl, rfl⟩) | (go_at_call 114; refine (N.out _ (World.grownBy_alloc _ _ _)).mono ?_; rintro e w1 ⟨rfl, hg⟩; have HG := Lib.hid hg; have z0 := hg.cell (a := ⟨w.heap.size, 0, none⟩) (v := .int .i64 k) (by simp) (by simp); have z1 := hg.cell (a := ⟨w.heap.size, 1, none⟩) (v := .int .i64 n) (by simp) (by simp); have z2 := hg.cell (a := ⟨w.heap.size, 2, none⟩) (v := .int .i64 kc) (by simp) (by simp); have hz := size_lt hg; clear hg))
      go_ret
      exact ⟨rfl, grownBy_trans (World.grownBy_alloc _ _ _) HG.out⟩

theorem alone_any (k n kc what : Int) (Bc bf of nl cl nt ct cf : Nat) (pt pf pl : Option Addr) (fs : List Int) (hfs : fs.length ≤ 1000000) (vp : Value) (at_ loops most : Int) (w : World)
    (hC : Chk w Bc bf of (.slice pt nt ct) (.slice pf fs.length cf) (.slice pl nl cl) vp at_ loops most) (hF : Funs w pf fs) :
    Calls Try.prog 85 #[.pointer (some ⟨Bc, 0, none⟩), .agg #[.int .i64 k, .int .i64 n, .int .i64 kc], .int .i64 what] w fun e w' => e = .returned (.int .i64 (aloneE nl nt fs loops k n kc what)) ∧ w.grownBy w' none := by
  unfold aloneE
  by_cases c1 : k < 1 ∨ 27 ≤ k
  · rw [if_pos c1]; exact alone_out k n kc what c1 Bc w
  rw [if_neg c1]
  by_cases c2 : kindsE k ≠ what ∧ ¬ (kindsE k = 0 ∧ what = 1)
  · rw [if_pos c2]; exact alone_bad k n kc what (by omega) c2 Bc w
  rw [if_neg c2]
  exact alone_ok k n kc what (by omega) (by omega) Bc w _ _
    (fun w1 g => number_any k n kc (by omega) Bc bf of nl cl nt ct fs.length cf pt pf pl vp at_ loops most w1 (chk_kept hC g))
    (fun h0 w1 g => kids_fun k n kc (by omega) Bc nl nt cf loops pf fs hfs w1 (chk_kept hC g).lt (chk_kept hC g).c1 (funs_kept hF g) h0)

end Go.Proofs.Ytecaolkbllbokaa.TG
