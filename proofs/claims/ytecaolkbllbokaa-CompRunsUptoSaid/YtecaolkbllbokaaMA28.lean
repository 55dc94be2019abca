/-
  The reference's compiler: own, of PTurn; of any part. Conditions: as each theorem states.
  The reference's compiler: where its state lies; next out of part. Conditions: as each theorem states.
  The reference's compiler: part, of PIf, PWhile, PAnd, POr, PBreak, PContinue. Conditions: as each theorem states.
-/
import Derived.Test.YtecaolkbllbokaaMA27
import Derived.Test.YtecaolkbllbokaaMA26
import Derived.Deep.QuietTactic
import Derived.BigQuiet
import Derived.Deep.RegionHeld3
import Derived.StillTailTactics
namespace Go.Proofs.Ytecaolkbllbokaa.TG
open Go.RowKit Go.Great
set_option linter.unusedSimpArgs false
set_option linter.unusedVariables false

def K21 (w : World) (N : Nat) (n : Int) (W' : World) : Prop := w.grownBy W' none ∧ W'.cell? ⟨N, 1, none⟩ = some (.int .i64 n) ∧ N < W'.heap.size
theorem k21_call {w W' W2 : World} {N : Nat} {n : Int} (K : w.grownBy W' none ∧ W'.cell? ⟨N, 1, none⟩ = some (.int .i64 n) ∧ N < W'.heap.size) (g : W'.grownBy W2 none) : w.grownBy W2 none ∧ W2.cell? ⟨N, 1, none⟩ = some (.int .i64 n) ∧ N < W2.heap.size :=
  ⟨grownBy_trans K.1 g, g.cell K.2.1 (by simp), Nat.lt_of_lt_of_le K.2.2 g.size⟩
theorem k21_drew {w W' : World} {N : Nat} {n : Int} (K : w.grownBy W' none ∧ W'.cell? ⟨N, 1, none⟩ = some (.int .i64 n) ∧ N < W'.heap.size) : w.grownBy W'.drew none ∧ W'.drew.cell? ⟨N, 1, none⟩ = some (.int .i64 n) ∧ N < W'.drew.heap.size :=
  ⟨grownBy_drew K.1, K.2.1, K.2.2⟩
theorem k21_alloc {w W' : World} {o : Obj} {N : Nat} {n : Int} (K : w.grownBy W' none ∧ W'.cell? ⟨N, 1, none⟩ = some (.int .i64 n) ∧ N < W'.heap.size) : w.grownBy (W'.alloc o) none ∧ (W'.alloc o).cell? ⟨N, 1, none⟩ = some (.int .i64 n) ∧ N < (W'.alloc o).heap.size :=
  k21_call K (World.grownBy_alloc _ _ none)

set_option maxRecDepth 100000 in
set_option maxHeartbeats 4000000 in
theorem own_k21 (u : Un) (me n kc : Int) (pt pf : Option Addr) (ct cf B : Nat) (w : World) :
    Calls Try.prog 111 #[.agg #[.slice pt u.texts.length ct, .slice pf u.funcs.length cf], .int .i64 me, .agg #[.int .i64 21, .int .i64 n, .int .i64 kc]] w (LnsPost w (ownL u.texts me 21 n)) := by
  have G0 := Lib.hid (rgrow_two w (.cells #[.slice pt u.texts.length ct, .slice pf u.funcs.length cf] 25) (.cells #[.int .i64 21, .int .i64 n, .int .i64 kc] 108))
  have c1 : ((w.alloc (.cells #[.slice pt u.texts.length ct, .slice pf u.funcs.length cf] 25)).alloc (.cells #[.int .i64 21, .int .i64 n, .int .i64 kc] 108)).cell? ⟨w.heap.size + 1, 1, none⟩ = some (.int .i64 n) := by
    have := copy_new (w.alloc (.cells #[.slice pt u.texts.length ct, .slice pf u.funcs.length cf] 25)) 21 n kc
    rw [World.size_alloc] at this
    exact copy_1 this
  have c2 : w.heap.size + 1 < ((w.alloc (.cells #[.slice pt u.texts.length ct, .slice pf u.funcs.length cf] 25)).alloc (.cells #[.int .i64 21, .int .i64 n, .int .i64 kc] 108)).heap.size := World.block_lt_of_cell? _ _ c1
  have KK := Lib.hid (And.intro G0.out (And.intro c1 c2))
  clear c1 c2 G0
  go_enter Try.func111, Try.ntmps111
  go_wp2
  generalize (w.alloc (.cells #[.slice pt u.texts.length ct, .slice pf u.funcs.length cf] 25)).alloc (.cells #[.int .i64 21, .int .i64 n, .int .i64 kc] 108) = W at *
  have K0 := KK.out
  have S0 := Lib.hid (Nat.le_succ w.heap.size)
  generalize w.heap.size + 1 = N at *
  obtain ⟨K01, K02, K03⟩ := K0
  go_region_held3 (fun W' => w.grownBy W' none ∧ W'.cell? ⟨N, 1, none⟩ = some (.int .i64 n) ∧ N < W'.heap.size) (first | assumption | exact ⟨by assumption, by assumption, by assumption⟩ | exact k21_drew (by first | assumption | exact ⟨by assumption, by assumption, by assumption⟩) | exact k21_alloc (by first | assumption | exact ⟨by assumption, by assumption, by assumption⟩)) (first | (go_at_call 50; refine (line_raw _ _ _ _).mono ?_; rintro e wj ⟨rfl, hg⟩; have K9 := k21_call (by first | assumption | exact ⟨by assumption, by assumption, by assumption⟩ | exact k21_drew (by first | assumption | exact ⟨by assumption, by assumption, by assumption⟩)) hg; obtain ⟨K91, K92, K93⟩ := K9; have GJ := Lib.hid K91; clear hg))
  all_goals (go_wp2; go_ret; exact own_post2 GJ.out _ rfl rfl)

theorem own_any (u : Un) (hu : UnWF u) (hnt : u.texts.length ≤ 1024) (me k n kc : Int) (hk : 1 ≤ k ∧ k ≤ 26) (h5 : k ≠ 5) (h6 : k ≠ 6) (h7 : ¬ (k = 7 ∨ k = 8)) (h23 : k ≠ 23) (h24 : k ≠ 24) (ht : k = 14 ∨ k = 15 → 0 ≤ n ∧ n < u.texts.length) (pt pf : Option Addr) (ct cf B : Nat) (w : World) (hU : UnitAt w B pt pf u) :
    Calls Try.prog 111 #[.agg #[.slice pt u.texts.length ct, .slice pf u.funcs.length cf], .int .i64 me, .agg #[.int .i64 k, .int .i64 n, .int .i64 kc]] w (LnsPost w (ownL u.texts me k n)) := by
  have hc : k = 1 ∨ k = 2 ∨ k = 3 ∨ k = 4 ∨ k = 9 ∨ k = 10 ∨ k = 11 ∨ k = 12 ∨ k = 13 ∨ k = 14 ∨ k = 15 ∨ k = 16 ∨ k = 17 ∨ k = 18 ∨ k = 19 ∨ k = 20 ∨ k = 21 ∨ k = 22 ∨ k = 25 ∨ k = 26 := by omega
  rcases hc with rfl | rfl | rfl | rfl | rfl | rfl | rfl | rfl | rfl | rfl | rfl | rfl | rfl | rfl | rfl | rfl | rfl | rfl | rfl | rfl
  · exact own_k1 u hu hnt me n kc pt pf ct cf B w hU
  · exact own_k2 u hu hnt me n kc pt pf ct cf B w hU
  · exact own_k3 u hu hnt me n kc pt pf ct cf B w hU
  · exact own_k4 u hu hnt me n kc pt pf ct cf B w hU
  · exact own_k9 u hu hnt me n kc pt pf ct cf B w hU
  · exact own_k10 u hu hnt me n kc pt pf ct cf B w hU
  · exact own_k11 u hu hnt me n kc pt pf ct cf B w hU
  · exact own_k12 u hu hnt me n kc pt pf ct cf B w hU
  · exact own_k13 u hu hnt me n kc pt pf ct cf B w hU
  · exact own_k14 u hu hnt me n kc (ht (by omega)).1 (ht (by omega)).2 pt pf ct cf B w hU
  · exact own_k15 u hu hnt me n kc (ht (by omega)).1 (ht (by omega)).2 pt pf ct cf B w hU
  · exact own_k16 u hu hnt me n kc pt pf ct cf B w hU
  · exact own_k17 u hu hnt me n kc pt pf ct cf B w hU
  · exact own_k18 u hu hnt me n kc pt pf ct cf B w hU
  · exact own_k19 u hu hnt me n kc pt pf ct cf B w hU
  · exact own_k20 u hu hnt me n kc pt pf ct cf B w hU
  · exact own_k21 u me n kc pt pf ct cf B w
  · exact own_k22 u hu hnt me n kc pt pf ct cf B w hU
  · exact own_k25 u hu hnt me n kc pt pf ct cf B w hU
  · exact own_k26 u hu hnt me n kc pt pf ct cf B w hU

end Go.Proofs.Ytecaolkbllbokaa.TG

namespace Go.Proofs.Ytecaolkbllbokaa.TG
open Go.RowKit Go.Great
set_option linter.unusedSimpArgs false
set_option linter.unusedVariables false

/-- The unit, the function's parts, and where they and the compiler's state lie. -/
structure Lx where
  u : Un
  pt : Option Addr
  pf : Option Addr
  ct : Nat
  cf : Nat
  B : Nat
  Bc : Nat
  pp : Option Addr
  cp : Nat
  ps : List (Int × Int × Int)

def Lx.P (x : Lx) (g : Nat) : Nat → Rs := partR x.u.texts x.ps g

structure LxAt (x : Lx) (w : World) : Prop where
  un : UnitAt w x.B x.pt x.pf x.u
  pa : PartsB w x.B x.pp x.ps
  lb : x.B ≤ x.Bc

def CodR (x : Lx) (w : World) (a : Nat) (ov : Bool) : Prop := w.heap[x.Bc]? = some (.cells #[.slice x.pt x.u.texts.length x.ct, .slice x.pf x.u.funcs.length x.cf, .slice x.pp x.ps.length x.cp, .int .i64 (a : Int), .bool ov] 121 (0, 0))

theorem cod_lt {x : Lx} {w : World} {a : Nat} {ov : Bool} (h : CodR x w a ov) : x.Bc < w.heap.size := (Array.getElem?_eq_some_iff.1 h).1
theorem cod_cell {x : Lx} {w : World} {a : Nat} {ov : Bool} (h : CodR x w a ov) (j : Nat) : w.cell? ⟨x.Bc, j, none⟩ = (#[.slice x.pt x.u.texts.length x.ct, .slice x.pf x.u.funcs.length x.cf, .slice x.pp x.ps.length x.cp, .int .i64 (a : Int), .bool ov] : Array Value)[j]? := cell_of_row w x.Bc j _ _ _ h
theorem cod_0 {x : Lx} {w : World} {a : Nat} {ov : Bool} (h : CodR x w a ov) : w.cell? ⟨x.Bc, 0, none⟩ = some (.slice x.pt x.u.texts.length x.ct) := cod_cell h 0
theorem cod_1 {x : Lx} {w : World} {a : Nat} {ov : Bool} (h : CodR x w a ov) : w.cell? ⟨x.Bc, 1, none⟩ = some (.slice x.pf x.u.funcs.length x.cf) := cod_cell h 1
theorem cod_2 {x : Lx} {w : World} {a : Nat} {ov : Bool} (h : CodR x w a ov) : w.cell? ⟨x.Bc, 2, none⟩ = some (.slice x.pp x.ps.length x.cp) := cod_cell h 2
theorem cod_3 {x : Lx} {w : World} {a : Nat} {ov : Bool} (h : CodR x w a ov) : w.cell? ⟨x.Bc, 3, none⟩ = some (.int .i64 (a : Int)) := cod_cell h 3
theorem cod_4 {x : Lx} {w : World} {a : Nat} {ov : Bool} (h : CodR x w a ov) : w.cell? ⟨x.Bc, 4, none⟩ = some (.bool ov) := cod_cell h 4
theorem cod_z {x : Lx} {w : World} {a : Nat} {ov : Bool} (h : CodR x w a ov) (j : Nat) : w.frozen? ⟨x.Bc, j, none⟩ = false := frozen_of_row w x.Bc j _ _ h
theorem cod_kept {x : Lx} {w w' : World} {a : Nat} {ov : Bool} (h : CodR x w a ov) (g : w.grownBy w' none) : CodR x w' a ov := by
  unfold CodR at *
  rw [g.block x.Bc (cod_lt h) (by simp)]; exact h
theorem cod_at {x : Lx} {w : World} {a : Nat} {ov : Bool} (h : CodR x w a ov) (a' : Nat) : CodR x (w.setCell ⟨x.Bc, 3, none⟩ (.int .i64 ((a : Int) + 1))) (a + 1) ov := by
  unfold CodR at *
  rw [heap_setCell_same w x.Bc _ _ _ _ h]; simp
theorem cod_over {x : Lx} {w : World} {a : Nat} {ov : Bool} (h : CodR x w a ov) (b : Bool) : CodR x (w.setCell ⟨x.Bc, 4, none⟩ (.bool b)) a b := by
  unfold CodR at *
  rw [heap_setCell_same w x.Bc _ _ _ _ h]; rfl

theorem lx_kept {x : Lx} {w w' : World} {row : Option Nat} (h : LxAt x w) (g : w.grownBy w' row) (hr : ∀ r, row = some r → x.B ≤ r) : LxAt x w' := ⟨unitAt_kept h.un g hr, partsB_kept h.pa g hr, h.lb⟩
theorem lx_kept' {x : Lx} {w w' : World} (h : LxAt x w) (g : w.grownBy w' (some x.Bc)) : LxAt x w' := lx_kept h g fun r e => by injection e with e; have := h.lb; omega

/-- What part and next leave. -/
def NPost (x : Lx) (w : World) (r : Rs) (e : Ending) (w' : World) : Prop := ∃ v, e = .returned v ∧ LnsAt w' w.heap.size v r.1 ∧ w.grownBy w' (some x.Bc) ∧ CodR x w' r.2.2 r.2.1

theorem lns_keepB {w w' : World} {b Bc : Nat} {v : Value} {R : List Ln} (h : LnsAt w b v R) (g : w.grownBy w' (some Bc)) (hb : Bc < b) : LnsAt w' b v R :=
  h.kept g (by
    cases hv : v.ownBlock with
    | none => exact Or.inl rfl
    | some k => exact Or.inr (by have := (h.lt k hv).1; simp; omega))

/-- The contracts, as deep as g. -/
def PCon (x : Lx) (g : Nat) : Prop := ∀ (m a : Nat) (w : World), okP x.u.texts.length x.ps g m a → m ≤ 1000 → LxAt x w → CodR x w a false → Calls Try.prog 81 #[.pointer (some ⟨x.Bc, 0, none⟩)] w (NPost x w (x.P g a))
def NCon (x : Lx) (g : Nat) : Prop := ∀ (m a : Nat) (ov : Bool) (w : World), (ov = false → okP x.u.texts.length x.ps g m a) → m ≤ 1000 → LxAt x w → CodR x w a ov → Calls Try.prog 49 #[.pointer (some ⟨x.Bc, 0, none⟩)] w (NPost x w (nextR (x.P g) ov a))

theorem npost_nil {x : Lx} {w : World} {a : Nat} {P : Nat → Rs} (h : CodR x w a true) (e : Ending) (he : e = .returned (.slice none 0 0)) : NPost x w (nextR P true a) e w :=
  ⟨_, he, lns_nil _ _, grownBy_refl _ _, h⟩
theorem npost_over {x : Lx} {w w' : World} {r : Rs} {v : Value} (hl : LnsAt w' w.heap.size v r.1) (g : w.grownBy w' (some x.Bc)) (hc : CodR x w' r.2.2 r.2.1) (b : Bool) (hb : b = (r.2.1 || decide (4096 < r.1.length))) (hlt : x.Bc < w.heap.size) (e : Ending) (he : e = .returned v) :
    NPost x w (r.1, r.2.1 || decide (4096 < r.1.length), r.2.2) e (w'.setCell ⟨x.Bc, 4, none⟩ (.bool b)) := by
  subst hb
  exact ⟨_, he, lns_keepB hl (grownBy_set w' x.Bc 4 _) hlt, grownBy_trans g (grownBy_set w' x.Bc 4 _), cod_over hc _⟩

set_option maxRecDepth 100000 in
set_option maxHeartbeats 4000000 in
theorem next_con (x : Lx) (g : Nat) (hP : PCon x g) : NCon x g := by
  intro m a ov w hok hm hx hc
  have HC := Lib.hid hc
  have c4 := cod_4 hc
  have lt := cod_lt hc
  cases ov with
  | true =>
    clear hc hok hx
    go_enter Try.func49, Try.ntmps49
    go_wp2
    go_ret
    exact npost_nil HC.out _ rfl
  | false =>
    have PC := Lib.hid (hP m a w (hok rfl) hm hx hc)
    have HL := Lib.hid lt
    clear hc hok hx
    unfold nextR
    simp only [cond_false]
    generalize x.P g a = r at *
    cases hr : r.2.1 with
    | true =>
      have HR := Lib.hid hr
      clear hr
      go_enter Try.func49, Try.ntmps49
      go_wp2_with (go_at_call 81; refine PC.out.mono ?_; intro e w1 hq; obtain ⟨v, rfl, hl, hg, hcc⟩ := hq; obtain ⟨pv, cv, rfl⟩ := lns_slice hl; have L1 := Lib.hid hl; have G1 := Lib.hid hg; have C1 := Lib.hid hcc; have d4 := cod_4 hcc; rw [HR.out] at d4; have z4 := cod_z hcc 4; have lt1 := cod_lt hcc; clear hl hg hcc)
      go_ret
      have := npost_over L1.out G1.out C1.out true (by rw [HR.out]; rfl) HL.out _ rfl
      rw [HR.out] at this
      exact this
    | false =>
      have HR := Lib.hid hr
      clear hr
      go_enter Try.func49, Try.ntmps49
      go_wp2_with (go_at_call 81; refine PC.out.mono ?_; intro e w1 hq; obtain ⟨v, rfl, hl, hg, hcc⟩ := hq; obtain ⟨pv, cv, rfl⟩ := lns_slice hl; have L1 := Lib.hid hl; have G1 := Lib.hid hg; have C1 := Lib.hid hcc; have d4 := cod_4 hcc; rw [HR.out] at d4; have z4 := cod_z hcc 4; have lt1 := cod_lt hcc; clear hl hg hcc)
      go_ret
      have := npost_over L1.out G1.out C1.out (decide ((4096 : Int) < (r.1.length : Int))) (by rw [HR.out, Bool.false_or]; exact decide_eq_decide.2 (by omega)) HL.out _ rfl
      rw [HR.out] at this
      exact this

end Go.Proofs.Ytecaolkbllbokaa.TG

namespace Go.Proofs.Ytecaolkbllbokaa.TG
open Go.RowKit Go.Great
set_option linter.unusedSimpArgs false
set_option linter.unusedVariables false

structure LxWF (x : Lx) : Prop where
  hu : UnWF x.u
  nt : x.u.texts.length ≤ 1024
  np : x.ps.length ≤ 17592186044415

/-- Where the walk of part stands: r what came last. -/
structure Stp (x : Lx) (w w1 : World) (k n kc : Int) (r : Rs) : Prop where
  at_ : LxAt x w1
  cod : CodR x w1 r.2.2 r.2.1
  sp : w.grownBy w1 (some x.Bc)
  copy : CopyW w1 w.heap.size k n kc
  lt : x.Bc < w.heap.size

theorem stp_first {x : Lx} {w : World} {a : Nat} {k n kc : Int} (hx : LxAt x w) (hc : CodR x w a false) :
    Stp x w ((w.setCell ⟨x.Bc, 3, none⟩ (.int .i64 ((a : Int) + 1))).alloc (.cells #[.int .i64 k, .int .i64 n, .int .i64 kc] 108)) k n kc ([], false, a + 1) := by
  have g1 := grownBy_set w x.Bc 3 (.int .i64 ((a : Int) + 1))
  have g := grownBy_trans g1 (World.grownBy_alloc (w.setCell ⟨x.Bc, 3, none⟩ (.int .i64 ((a : Int) + 1))) (.cells #[.int .i64 k, .int .i64 n, .int .i64 kc] 108) (some x.Bc))
  have lt := cod_lt hc
  have cp := copy_new (w.setCell ⟨x.Bc, 3, none⟩ (.int .i64 ((a : Int) + 1))) k n kc
  have e : (w.setCell ⟨x.Bc, 3, none⟩ (.int .i64 ((a : Int) + 1))).heap.size = w.heap.size := by simp
  rw [e] at cp
  exact ⟨lx_kept' hx g, cod_kept (cod_at hc 0) (World.grownBy_alloc _ _ none), g, cp, lt⟩

theorem stp_call {x : Lx} {w w1 w2 : World} {k n kc : Int} {r : Rs} {P : Nat → Rs} {e : Ending} (h : Stp x w w1 k n kc r) (hq : NPost x w1 (nextR P r.2.1 r.2.2) e w2) :
    ∃ v, e = .returned v ∧ LnsAt w2 w.heap.size v (nx P r).1 ∧ Stp x w w2 k n kc (nx P r) ∧ w1.grownBy w2 (some x.Bc) := by
  obtain ⟨v, e1, l, g, c⟩ := hq
  have lt := h.lt
  exact ⟨v, e1, lns_base l h.sp.size, ⟨lx_kept' h.at_ g, c, grownBy_trans h.sp g, copy_kept h.copy g (by simp; omega), lt⟩, g⟩

theorem stp_end {x : Lx} {w w1 w2 : World} {k n kc : Int} {r : Rs} {R : List Ln} {e : Ending} (h : Stp x w w1 k n kc r) (hq : LnsPost w1 R e w2) : NPost x w (R, r.2) e w2 := by
  obtain ⟨v, e1, l, g⟩ := hq
  exact ⟨v, e1, lns_base l h.sp.size, grownBy_trans h.sp (grow_w g), cod_kept h.cod g⟩
theorem stp_end' {x : Lx} {w w1 w2 : World} {k n kc : Int} {r r' : Rs} {e : Ending} (h : Stp x w w1 k n kc r) (hq : LnsPost w1 r'.1 e w2) (hr : r'.2 = r.2) : NPost x w r' e w2 := by
  have := stp_end h hq
  rw [← hr] at this
  exact this

theorem stp_keep {x : Lx} {w w1 w2 : World} {v : Value} {R : List Ln} (h : LnsAt w1 w.heap.size v R) (g : w1.grownBy w2 (some x.Bc)) (lt : x.Bc < w.heap.size) : LnsAt w2 w.heap.size v R := lns_keepB h g lt

theorem p_len (x : Lx) (g : Nat) (hg : g ≤ 65) : ∀ a, (x.P g a).1.length ≤ 594000 := fun a => by
  have := part_len x.u.texts x.ps g a
  show (partR _ _ _ _).1.length ≤ _
  omega
theorem nx_len (x : Lx) (g : Nat) (hg : g ≤ 65) (r : Rs) : (nx (x.P g) r).1.length ≤ 10000000 := by
  have := (next_len (r := r) (p_len x g hg)).1; omega

theorem stp_grow {x : Lx} {w w1 w2 : World} {k n kc : Int} {r : Rs} (h : Stp x w w1 k n kc r) (g : w1.grownBy w2 none) : Stp x w w2 k n kc r :=
  ⟨lx_kept' h.at_ (grow_w g), cod_kept h.cod g, grownBy_trans h.sp (grow_w g), copy_kept h.copy g (by simp), h.lt⟩

theorem leave_npost {x : Lx} {w w1 : World} {k n kc : Int} {a : Nat} {op b part out : Int} {j ag : Bool} {o : Obj} (h : Stp x w w1 k n kc ([], false, a)) (e : Ending) (he : e = .returned (.slice (some ⟨w1.heap.size + 1, 0, none⟩) 1 1)) :
    NPost x w ([⟨op, b, part, j, out, ag⟩], false, a) e ((w1.alloc o).alloc (.cells #[.int .i64 op, .int .i64 b, .int .i64 part, .bool j, .int .i64 out, .bool ag] 86)) := by
  have s2 := stp_grow h (World.grownBy_alloc w1 o none)
  have s3 := stp_grow s2 (World.grownBy_alloc (w1.alloc o) (.cells #[.int .i64 op, .int .i64 b, .int .i64 part, .bool j, .int .i64 out, .bool ag] 86) none)
  have hl := lns_lit' (w1.alloc o) (w1.alloc o) (grownBy_refl _ _) [⟨op, b, part, j, out, ag⟩] _ rfl (by simp)
  rw [World.size_alloc] at hl
  refine ⟨_, he, lns_base hl ?_, s3.sp, s3.cod⟩
  have := h.sp.size
  omega

set_option maxRecDepth 100000 in
set_option maxHeartbeats 4000000 in
theorem part_if2 (x : Lx) (hwf : LxWF x) (g : Nat) (hg : g ≤ 65) (hN : NCon x g) (m a : Nat) (hm : m ≤ 1000) (n : Int) (hp : x.ps[a]? = some (5, n, 2)) (w : World) (hx : LxAt x w) (hc : CodR x w a false)
    (o1 : okP x.u.texts.length x.ps g m (a + 1)) (o2 : (nx (x.P g) ([], false, a + 1)).2.1 = false → okP x.u.texts.length x.ps g m (nx (x.P g) ([], false, a + 1)).2.2) :
    Calls Try.prog 81 #[.pointer (some ⟨x.Bc, 0, none⟩)] w (NPost x w (if2R (x.P g) a (nx (x.P g) ([], false, a + 1)))) := by
  (
    have hja := (List.getElem?_eq_some_iff.1 hp).1
    obtain ⟨bp, op, hpp, hbp, hpc⟩ := hx.pa (by omega)
    obtain ⟨p0, p1, p2⟩ := hpc _ _ _ _ hp
    have c2 := cod_2 hc
    rw [hpp] at c2
    have c3 := cod_3 hc
    have z3 := cod_z hc 3
    have lt := cod_lt hc
    have hul := hx.un.le
    have lb : bp < w.heap.size := by have := hx.lb; omega
    have i1 : (a : Int) < ((x.ps.length : Nat) : Int) := by omega
    have hnp := hwf.np
    have HX := Lib.hid hx
    have HC := Lib.hid hc
    have HW := Lib.hid hwf
    clear hx hc hpc hp hwf hbp hpp hul)
  have O1 := Lib.hid o1
  have O2 := Lib.hid o2
  have NX := Lib.hid hN
  have S0 := Lib.hid (stp_first (k := 5) (n := n) (kc := 2) HX.out HC.out)
  obtain ⟨m2, hm2, em2⟩ : ∃ m2, m2 ≤ 1000 ∧ m2 = m := ⟨m, hm, rfl⟩
  rw [← em2] at O2
  clear o1 o2 hN em2
  go_enter Try.func81, Try.ntmps81
  go_wp2_with (first
    | (go_at_call 49; first | (refine (NX.out m2 _ _ _ O2.out hm2 S1.out.at_ S1.out.cod).mono ?_; intro e w2 hq; obtain ⟨v2, rfl, l2, s2, g2⟩ := stp_call S1.out hq; have S2 := Lib.hid s2; have L2 := Lib.hid l2; have L1' := Lib.hid (stp_keep L1.out g2 s2.lt); have q0 := copy_0 s2.copy; have q1 := copy_1 s2.copy; have q2 := copy_2 s2.copy; have ql := copy_lt s2.copy; clear hq l2 s2 g2 S1 L1) | (refine (NX.out m (a + 1) false _ (fun _ => O1.out) hm S0.out.at_ S0.out.cod).mono ?_; intro e w1 hq; obtain ⟨v1, rfl, l1, s1, g1⟩ := stp_call S0.out hq; have S1 := Lib.hid s1; have L1 := Lib.hid l1; have q0 := copy_0 s1.copy; have q1 := copy_1 s1.copy; have q2 := copy_2 s1.copy; have ql := copy_lt s1.copy; clear hq l1 s1 g1 S0))
    | (go_at_call 108; refine (chosen_one _ _ _ _ _ _ _ _ _ L1'.out L2.out (nx_len x g hg _) (nx_len x g hg _)).mono ?_; intro e w3 hq; have E3 := Lib.hid (stp_end' (r' := if2R (x.P g) a (nx (x.P g) ([], false, a + 1))) S2.out hq rfl); obtain ⟨v3, rfl, -⟩ := hq; clear S2 L1' L2))
  go_ret
  exact E3.out

set_option maxRecDepth 100000 in
set_option maxHeartbeats 4000000 in
theorem part_if3 (x : Lx) (hwf : LxWF x) (g : Nat) (hg : g ≤ 65) (hN : NCon x g) (m a : Nat) (hm : m ≤ 1000) (n : Int) (hp : x.ps[a]? = some (5, n, 3)) (w : World) (hx : LxAt x w) (hc : CodR x w a false)
    (o1 : okP x.u.texts.length x.ps g m (a + 1)) (o2 : (nx (x.P g) ([], false, a + 1)).2.1 = false → okP x.u.texts.length x.ps g m (nx (x.P g) ([], false, a + 1)).2.2)
    (o3 : (nx (x.P g) (nx (x.P g) ([], false, a + 1))).2.1 = false → okP x.u.texts.length x.ps g m (nx (x.P g) (nx (x.P g) ([], false, a + 1))).2.2) :
    Calls Try.prog 81 #[.pointer (some ⟨x.Bc, 0, none⟩)] w (NPost x w (if3R (x.P g) a (nx (x.P g) ([], false, a + 1)))) := by
  (
    have hja := (List.getElem?_eq_some_iff.1 hp).1
    obtain ⟨bp, op, hpp, hbp, hpc⟩ := hx.pa (by omega)
    obtain ⟨p0, p1, p2⟩ := hpc _ _ _ _ hp
    have c2 := cod_2 hc
    rw [hpp] at c2
    have c3 := cod_3 hc
    have z3 := cod_z hc 3
    have lt := cod_lt hc
    have hul := hx.un.le
    have lb : bp < w.heap.size := by have := hx.lb; omega
    have i1 : (a : Int) < ((x.ps.length : Nat) : Int) := by omega
    have hnp := hwf.np
    have HX := Lib.hid hx
    have HC := Lib.hid hc
    have HW := Lib.hid hwf
    clear hx hc hpc hp hwf hbp hpp hul)
  have O1 := Lib.hid o1
  have O2 := Lib.hid o2
  have O3 := Lib.hid o3
  have NX := Lib.hid hN
  have S0 := Lib.hid (stp_first (k := 5) (n := n) (kc := 3) HX.out HC.out)
  obtain ⟨m2, hm2, em2⟩ : ∃ m2, m2 ≤ 1000 ∧ m2 = m := ⟨m, hm, rfl⟩
  rw [← em2] at O2
  clear o1 o2 o3 hN em2
  go_enter Try.func81, Try.ntmps81
  go_wp2_with (first
    | (go_at_call 49; first | (refine (NX.out m _ _ _ O3.out hm S2.out.at_ S2.out.cod).mono ?_; intro e w3 hq; obtain ⟨v3, rfl, l3, s3, g3⟩ := stp_call S2.out hq; have S3 := Lib.hid s3; have L3 := Lib.hid l3; have L1'' := Lib.hid (stp_keep L1'.out g3 s3.lt); have L2' := Lib.hid (stp_keep L2.out g3 s3.lt); have q0 := copy_0 s3.copy; have q1 := copy_1 s3.copy; have q2 := copy_2 s3.copy; have ql := copy_lt s3.copy; clear hq l3 s3 g3 S2 L2 L1') | (refine (NX.out m2 _ _ _ O2.out hm2 S1.out.at_ S1.out.cod).mono ?_; intro e w2 hq; obtain ⟨v2, rfl, l2, s2, g2⟩ := stp_call S1.out hq; have S2 := Lib.hid s2; have L2 := Lib.hid l2; have L1' := Lib.hid (stp_keep L1.out g2 s2.lt); have q0 := copy_0 s2.copy; have q1 := copy_1 s2.copy; have q2 := copy_2 s2.copy; have ql := copy_lt s2.copy; clear hq l2 s2 g2 S1 L1) | (refine (NX.out m (a + 1) false _ (fun _ => O1.out) hm S0.out.at_ S0.out.cod).mono ?_; intro e w1 hq; obtain ⟨v1, rfl, l1, s1, g1⟩ := stp_call S0.out hq; have S1 := Lib.hid s1; have L1 := Lib.hid l1; have q0 := copy_0 s1.copy; have q1 := copy_1 s1.copy; have q2 := copy_2 s1.copy; have ql := copy_lt s1.copy; clear hq l1 s1 g1 S0))
    | (go_at_call 108; refine (chosen_two _ _ _ _ _ _ _ _ _ _ _ L1''.out L2'.out L3.out (nx_len x g hg _) (nx_len x g hg _) (nx_len x g hg _)).mono ?_; intro e w4 hq; have E3 := Lib.hid (stp_end' (r' := if3R (x.P g) a (nx (x.P g) ([], false, a + 1))) S3.out hq rfl); obtain ⟨v4, rfl, -⟩ := hq; clear S3 L1'' L2' L3))
  go_ret
  exact E3.out

set_option maxRecDepth 100000 in
set_option maxHeartbeats 4000000 in
theorem part_wh (x : Lx) (hwf : LxWF x) (g : Nat) (hg : g ≤ 65) (hN : NCon x g) (m a : Nat) (hm : m + 1 ≤ 1000) (n kc : Int) (hp : x.ps[a]? = some (6, n, kc)) (w : World) (hx : LxAt x w) (hc : CodR x w a false)
    (o1 : okP x.u.texts.length x.ps g m (a + 1)) (o2 : (nx (x.P g) ([], false, a + 1)).2.1 = false → okP x.u.texts.length x.ps g (m + 1) (nx (x.P g) ([], false, a + 1)).2.2)
    (ho : ∀ y ∈ (nx (x.P g) (nx (x.P g) ([], false, a + 1))).1, 0 ≤ y.out ∧ y.out ≤ 1000000000000000) :
    Calls Try.prog 81 #[.pointer (some ⟨x.Bc, 0, none⟩)] w (NPost x w (whR (x.P g) a (nx (x.P g) ([], false, a + 1)))) := by
  (
    have hja := (List.getElem?_eq_some_iff.1 hp).1
    obtain ⟨bp, op, hpp, hbp, hpc⟩ := hx.pa (by omega)
    obtain ⟨p0, p1, p2⟩ := hpc _ _ _ _ hp
    have c2 := cod_2 hc
    rw [hpp] at c2
    have c3 := cod_3 hc
    have z3 := cod_z hc 3
    have lt := cod_lt hc
    have hul := hx.un.le
    have lb : bp < w.heap.size := by have := hx.lb; omega
    have i1 : (a : Int) < ((x.ps.length : Nat) : Int) := by omega
    have hnp := hwf.np
    have HX := Lib.hid hx
    have HC := Lib.hid hc
    have HW := Lib.hid hwf
    clear hx hc hpc hp hwf hbp hpp hul)
  have O1 := Lib.hid o1
  have O2 := Lib.hid o2
  have HO := Lib.hid ho
  have NX := Lib.hid hN
  have S0 := Lib.hid (stp_first (k := 6) (n := n) (kc := kc) HX.out HC.out)
  obtain ⟨m2, hm2, em2⟩ : ∃ m2, m2 ≤ 1000 ∧ m2 = m + 1 := ⟨m + 1, hm, rfl⟩
  rw [← em2] at O2
  replace hm : m ≤ 1000 := by omega
  clear o1 o2 ho hN em2
  go_enter Try.func81, Try.ntmps81
  go_wp2_with (first
    | (go_at_call 49; first | (refine (NX.out m2 _ _ _ O2.out hm2 S1.out.at_ S1.out.cod).mono ?_; intro e w2 hq; obtain ⟨v2, rfl, l2, s2, g2⟩ := stp_call S1.out hq; have S2 := Lib.hid s2; have L2 := Lib.hid l2; have L1' := Lib.hid (stp_keep L1.out g2 s2.lt); have q0 := copy_0 s2.copy; have q1 := copy_1 s2.copy; have q2 := copy_2 s2.copy; have ql := copy_lt s2.copy; clear hq l2 s2 g2 S1 L1) | (refine (NX.out m (a + 1) false _ (fun _ => O1.out) hm S0.out.at_ S0.out.cod).mono ?_; intro e w1 hq; obtain ⟨v1, rfl, l1, s1, g1⟩ := stp_call S0.out hq; have S1 := Lib.hid s1; have L1 := Lib.hid l1; have q0 := copy_0 s1.copy; have q1 := copy_1 s1.copy; have q2 := copy_2 s1.copy; have ql := copy_lt s1.copy; clear hq l1 s1 g1 S0))
    | (go_at_call 109; refine (loop_any _ _ _ _ _ _ _ _ L1'.out L2.out (nx_len x g hg _) (nx_len x g hg _) HO.out).mono ?_; intro e w4 hq; have E3 := Lib.hid (stp_end' (r' := whR (x.P g) a (nx (x.P g) ([], false, a + 1))) S2.out hq rfl); obtain ⟨v4, rfl, -⟩ := hq; clear S2 L1' L2))
  go_ret
  exact E3.out

set_option maxRecDepth 100000 in
set_option maxHeartbeats 4000000 in
theorem part_and (x : Lx) (hwf : LxWF x) (g : Nat) (hg : g ≤ 65) (hN : NCon x g) (m a : Nat) (hm : m ≤ 1000) (n kc : Int) (hp : x.ps[a]? = some (23, n, kc)) (w : World) (hx : LxAt x w) (hc : CodR x w a false)
    (o1 : okP x.u.texts.length x.ps g m (a + 1)) (o2 : (nx (x.P g) ([], false, a + 1)).2.1 = false → okP x.u.texts.length x.ps g m (nx (x.P g) ([], false, a + 1)).2.2) :
    Calls Try.prog 81 #[.pointer (some ⟨x.Bc, 0, none⟩)] w (NPost x w (twoR (x.P g) a 15 0 (nx (x.P g) ([], false, a + 1)))) := by
  (
    have hja := (List.getElem?_eq_some_iff.1 hp).1
    obtain ⟨bp, op, hpp, hbp, hpc⟩ := hx.pa (by omega)
    obtain ⟨p0, p1, p2⟩ := hpc _ _ _ _ hp
    have c2 := cod_2 hc
    rw [hpp] at c2
    have c3 := cod_3 hc
    have z3 := cod_z hc 3
    have lt := cod_lt hc
    have hul := hx.un.le
    have lb : bp < w.heap.size := by have := hx.lb; omega
    have i1 : (a : Int) < ((x.ps.length : Nat) : Int) := by omega
    have hnp := hwf.np
    have HX := Lib.hid hx
    have HC := Lib.hid hc
    have HW := Lib.hid hwf
    clear hx hc hpc hp hwf hbp hpp hul)
  have O1 := Lib.hid o1
  have O2 := Lib.hid o2
  have NX := Lib.hid hN
  have S0 := Lib.hid (stp_first (k := 23) (n := n) (kc := kc) HX.out HC.out)
  obtain ⟨m2, hm2, em2⟩ : ∃ m2, m2 ≤ 1000 ∧ m2 = m := ⟨m, hm, rfl⟩
  rw [← em2] at O2
  clear o1 o2 hN em2
  go_enter Try.func81, Try.ntmps81
  go_wp2_with (first
    | (go_at_call 49; first | (refine (NX.out m2 _ _ _ O2.out hm2 S1.out.at_ S1.out.cod).mono ?_; intro e w2 hq; obtain ⟨v2, rfl, l2, s2, g2⟩ := stp_call S1.out hq; have S2 := Lib.hid s2; have L2 := Lib.hid l2; have L1' := Lib.hid (stp_keep L1.out g2 s2.lt); have q0 := copy_0 s2.copy; have q1 := copy_1 s2.copy; have q2 := copy_2 s2.copy; have ql := copy_lt s2.copy; clear hq l2 s2 g2 S1 L1) | (refine (NX.out m (a + 1) false _ (fun _ => O1.out) hm S0.out.at_ S0.out.cod).mono ?_; intro e w1 hq; obtain ⟨v1, rfl, l1, s1, g1⟩ := stp_call S0.out hq; have S1 := Lib.hid s1; have L1 := Lib.hid l1; have q0 := copy_0 s1.copy; have q1 := copy_1 s1.copy; have q2 := copy_2 s1.copy; have ql := copy_lt s1.copy; clear hq l1 s1 g1 S0))
    | (go_at_call 110; refine (whether_any _ _ _ _ _ _ _ _ _ _ L1'.out L2.out (nx_len x g hg _) (nx_len x g hg _)).mono ?_; intro e w4 hq; have E3 := Lib.hid (stp_end' (r' := twoR (x.P g) a 15 0 (nx (x.P g) ([], false, a + 1))) S2.out hq rfl); obtain ⟨v4, rfl, -⟩ := hq; clear S2 L1' L2))
  go_ret
  exact E3.out

set_option maxRecDepth 100000 in
set_option maxHeartbeats 4000000 in
theorem part_or (x : Lx) (hwf : LxWF x) (g : Nat) (hg : g ≤ 65) (hN : NCon x g) (m a : Nat) (hm : m ≤ 1000) (n kc : Int) (hp : x.ps[a]? = some (24, n, kc)) (w : World) (hx : LxAt x w) (hc : CodR x w a false)
    (o1 : okP x.u.texts.length x.ps g m (a + 1)) (o2 : (nx (x.P g) ([], false, a + 1)).2.1 = false → okP x.u.texts.length x.ps g m (nx (x.P g) ([], false, a + 1)).2.2) :
    Calls Try.prog 81 #[.pointer (some ⟨x.Bc, 0, none⟩)] w (NPost x w (twoR (x.P g) a 16 1 (nx (x.P g) ([], false, a + 1)))) := by
  (
    have hja := (List.getElem?_eq_some_iff.1 hp).1
    obtain ⟨bp, op, hpp, hbp, hpc⟩ := hx.pa (by omega)
    obtain ⟨p0, p1, p2⟩ := hpc _ _ _ _ hp
    have c2 := cod_2 hc
    rw [hpp] at c2
    have c3 := cod_3 hc
    have z3 := cod_z hc 3
    have lt := cod_lt hc
    have hul := hx.un.le
    have lb : bp < w.heap.size := by have := hx.lb; omega
    have i1 : (a : Int) < ((x.ps.length : Nat) : Int) := by omega
    have hnp := hwf.np
    have HX := Lib.hid hx
    have HC := Lib.hid hc
    have HW := Lib.hid hwf
    clear hx hc hpc hp hwf hbp hpp hul)
  have O1 := Lib.hid o1
  have O2 := Lib.hid o2
  have NX := Lib.hid hN
  have S0 := Lib.hid (stp_first (k := 24) (n := n) (kc := kc) HX.out HC.out)
  obtain ⟨m2, hm2, em2⟩ : ∃ m2, m2 ≤ 1000 ∧ m2 = m := ⟨m, hm, rfl⟩
  rw [← em2] at O2
  clear o1 o2 hN em2
  go_enter Try.func81, Try.ntmps81
  go_wp2_with (first
    | (go_at_call 49; first | (refine (NX.out m2 _ _ _ O2.out hm2 S1.out.at_ S1.out.cod).mono ?_; intro e w2 hq; obtain ⟨v2, rfl, l2, s2, g2⟩ := stp_call S1.out hq; have S2 := Lib.hid s2; have L2 := Lib.hid l2; have L1' := Lib.hid (stp_keep L1.out g2 s2.lt); have q0 := copy_0 s2.copy; have q1 := copy_1 s2.copy; have q2 := copy_2 s2.copy; have ql := copy_lt s2.copy; clear hq l2 s2 g2 S1 L1) | (refine (NX.out m (a + 1) false _ (fun _ => O1.out) hm S0.out.at_ S0.out.cod).mono ?_; intro e w1 hq; obtain ⟨v1, rfl, l1, s1, g1⟩ := stp_call S0.out hq; have S1 := Lib.hid s1; have L1 := Lib.hid l1; have q0 := copy_0 s1.copy; have q1 := copy_1 s1.copy; have q2 := copy_2 s1.copy; have ql := copy_lt s1.copy; clear hq l1 s1 g1 S0))
    | (go_at_call 110; refine (whether_any _ _ _ _ _ _ _ _ _ _ L1'.out L2.out (nx_len x g hg _) (nx_len x g hg _)).mono ?_; intro e w4 hq; have E3 := Lib.hid (stp_end' (r' := twoR (x.P g) a 16 1 (nx (x.P g) ([], false, a + 1))) S2.out hq rfl); obtain ⟨v4, rfl, -⟩ := hq; clear S2 L1' L2))
  go_ret
  exact E3.out

set_option maxRecDepth 100000 in
set_option maxHeartbeats 4000000 in
theorem part_break (x : Lx) (hwf : LxWF x) (a : Nat) (n kc : Int) (hn : 0 ≤ n ∧ n ≤ 1000) (hp : x.ps[a]? = some (7, n, kc)) (w : World) (hx : LxAt x w) (hc : CodR x w a false) :
    Calls Try.prog 81 #[.pointer (some ⟨x.Bc, 0, none⟩)] w (NPost x w ([⟨14, 0, a, false, n + 1, false⟩], false, a + 1)) := by
  (
    have hja := (List.getElem?_eq_some_iff.1 hp).1
    obtain ⟨bp, op, hpp, hbp, hpc⟩ := hx.pa (by omega)
    obtain ⟨p0, p1, p2⟩ := hpc _ _ _ _ hp
    have c2 := cod_2 hc
    rw [hpp] at c2
    have c3 := cod_3 hc
    have z3 := cod_z hc 3
    have lt := cod_lt hc
    have hul := hx.un.le
    have lb : bp < w.heap.size := by have := hx.lb; omega
    have i1 : (a : Int) < ((x.ps.length : Nat) : Int) := by omega
    have hnp := hwf.np
    have HX := Lib.hid hx
    have HC := Lib.hid hc
    have HW := Lib.hid hwf
    clear hx hc hpc hp hwf hbp hpp hul)
  have S0 := Lib.hid (stp_first (k := 7) (n := n) (kc := kc) HX.out HC.out)
  obtain ⟨hn0, hn1⟩ := hn
  go_enter Try.func81, Try.ntmps81
  go_wp2_with (go_at_call 50; refine (line_raw _ _ _ _).mono ?_; rintro e w1 ⟨rfl, hg⟩; have S1 := Lib.hid (stp_grow S0.out hg); have q0 := copy_0 S1.out.copy; have q1 := copy_1 S1.out.copy; have q2 := copy_2 S1.out.copy; have ql := copy_lt S1.out.copy; have hsz := Lib.hid (Nat.le_of_lt ql); clear hg S0)
  go_ret
  exact leave_npost S1.out _ rfl

set_option maxRecDepth 100000 in
set_option maxHeartbeats 4000000 in
theorem part_cont (x : Lx) (hwf : LxWF x) (a : Nat) (n kc : Int) (hn : 0 ≤ n ∧ n ≤ 1000) (hp : x.ps[a]? = some (8, n, kc)) (w : World) (hx : LxAt x w) (hc : CodR x w a false) :
    Calls Try.prog 81 #[.pointer (some ⟨x.Bc, 0, none⟩)] w (NPost x w ([⟨14, 0, a, false, n + 1, true⟩], false, a + 1)) := by
  (
    have hja := (List.getElem?_eq_some_iff.1 hp).1
    obtain ⟨bp, op, hpp, hbp, hpc⟩ := hx.pa (by omega)
    obtain ⟨p0, p1, p2⟩ := hpc _ _ _ _ hp
    have c2 := cod_2 hc
    rw [hpp] at c2
    have c3 := cod_3 hc
    have z3 := cod_z hc 3
    have lt := cod_lt hc
    have hul := hx.un.le
    have lb : bp < w.heap.size := by have := hx.lb; omega
    have i1 : (a : Int) < ((x.ps.length : Nat) : Int) := by omega
    have hnp := hwf.np
    have HX := Lib.hid hx
    have HC := Lib.hid hc
    have HW := Lib.hid hwf
    clear hx hc hpc hp hwf hbp hpp hul)
  have S0 := Lib.hid (stp_first (k := 8) (n := n) (kc := kc) HX.out HC.out)
  obtain ⟨hn0, hn1⟩ := hn
  go_enter Try.func81, Try.ntmps81
  go_wp2_with (go_at_call 50; refine (line_raw _ _ _ _).mono ?_; rintro e w1 ⟨rfl, hg⟩; have S1 := Lib.hid (stp_grow S0.out hg); have q0 := copy_0 S1.out.copy; have q1 := copy_1 S1.out.copy; have q2 := copy_2 S1.out.copy; have ql := copy_lt S1.out.copy; have hsz := Lib.hid (Nat.le_of_lt ql); clear hg S0)
  go_ret
  exact leave_npost S1.out _ rfl

end Go.Proofs.Ytecaolkbllbokaa.TG
