/-
  Compile and Origin of package comp, for any unit. Conditions: as each theorem states.
  Walks of Compile and Origin of package comp, for any unit. Conditions: as each theorem states.
  Lines of the reference's compiler; walks of line, jump, whether. Conditions: as each theorem states.
  The reference's compiler: lists of lines that are put together: whether (PAnd, POr), chosen (PIf). Conditions: as each theorem states.
  The reference's compiler: loop (PWhile). Conditions: as each theorem states.
  Walks of the leaves of the reference's checker: letters, tails, words. Conditions: as each theorem states.
  Walk of the reference's Word. Conditions: as each theorem states.
-/
import Derived.Test.YtecaolkbllbokaaMB16
import Derived.Test.YtecaolkbllbokaaMB10
import Derived.Test.YtecaolkbllbokaaMB07
import Derived.Maps.AppendAt
import Derived.Laws.OwnMore
import Derived.Laws.ResultCell
import Derived.Lib.Hide
import Derived.Test.YtecaolkbllbokaaMB13
import Derived.Test.YtecaolkbllbokaaMB00
namespace Go.Proofs.Ytecaolkbllbokaa.TG
open Go.RowKit Go.Great
set_option linter.unusedSimpArgs false
set_option linter.unusedVariables false

/-- What a unit must be beside its cells: sizes such as a machine bears, no room behind nil. -/
structure UnOK (w : World) (pt : Option Addr) (ct : Nat) (u : Un) : Prop where
  wf : UnWF u
  np : ∀ f ∈ u.funcs, f.parts.length ≤ 100000000000
  nct : u.texts.length ≤ ct
  mct : ct ≤ maxLen
  cap : CapT w pt u

theorem capT_kept {w w' : World} {B : Nat} {pt pf : Option Addr} {u : Un} (h : CapT w pt u) (hU : UnitAt w B pt pf u) (g : w.grownBy w' none) : CapT w' pt u := by
  intro i pd n cd b o hp hi hc hn
  obtain ⟨b', o', e, hb, hcc⟩ := hU.texts (by omega)
  rw [hp] at e
  injection e with e; injection e with e1 e2 _; subst e1; subst e2
  obtain ⟨⟨nm, d⟩, hx⟩ : ∃ x, u.texts[i]? = some x := ⟨_, List.getElem?_eq_getElem hi⟩
  obtain ⟨_, pd', cd', h1, _⟩ := hcc i nm d hx
  have h2 := g.cell h1 (by simp)
  rw [h2] at hc
  injection hc with hc
  injection hc with c1 c2 c3
  subst c1; subst c3
  exact h i pd' d.length cd' b o hp hi h1 hn
theorem unOK_kept {w w' : World} {B ct : Nat} {pt pf : Option Addr} {u : Un} (h : UnOK w pt ct u) (hU : UnitAt w B pt pf u) (g : w.grownBy w' none) : UnOK w' pt ct u :=
  ⟨h.wf, h.np, h.nct, h.mct, capT_kept h.cap hU g⟩

def AnyPost (w : World) (u : Un) (mem : Int) (e : Ending) (w' : World) : Prop :=
  if compE u mem = 0 then ∃ vd vF v rows, e = .returned (.tuple #[.agg #[.int .i64 mem, vd, vF], v, .int .i64 0]) ∧ CRes w w' u vd vF v rows else BadPost w (compE u mem) e w'

theorem compile_any (u : Un) (mem : Int) (pt pf : Option Addr) (ct cf B : Nat) (w : World) (hU : UnitAt w B pt pf u) (hO : UnOK w pt ct u) :
    Calls Try.prog 27 #[.agg #[.slice pt u.texts.length ct, .slice pf u.funcs.length cf], .int .i64 mem] w (AnyPost w u mem) := by
  by_cases hb : checkE u ≠ 0 ∨ (mem < 0 ∨ 65536 < mem) ∨ mem < bytesTo u.texts u.texts.length
  · refine (compile_bad u hO.wf mem pt pf ct cf B w hU hb).mono ?_
    intro e w' hp
    have hne : compE u mem ≠ 0 := by
      unfold compE
      by_cases h1 : checkE u = 0
      · rw [if_neg (by omega)]
        by_cases h2 : mem < 0 ∨ 65536 < mem
        · rw [if_pos h2]; omega
        · rw [if_neg h2, if_pos (by omega)]; omega
      · rw [if_pos h1]; exact h1
    unfold AnyPost
    rw [if_neg hne]
    exact hp
  · refine (compile_main u hO.wf (by omega) mem (by omega) (by omega) (by omega) hO.np pt pf ct cf B w hU hO.nct hO.mct hO.cap).mono ?_
    intro e w' hp
    have hce : compE u mem = if bigF u then 181 else 0 := by
      unfold compE
      rw [if_neg (by omega), if_neg (by omega), if_neg (by omega)]
    unfold AnyPost
    rw [hce]
    unfold MainPost at hp
    by_cases hbig : bigF u = true
    · rw [if_pos hbig] at hp ⊢
      rw [if_neg (by decide)]
      exact hp
    · rw [if_neg hbig] at hp ⊢
      rw [if_pos rfl]
      exact hp

/-- What Compile leaves. -/
def CompileP (w : World) (u : Un) (mem : Int) (e : Ending) (w' : World) : Prop :=
  if compE u mem = 0 then ∃ vd vF v rows, e = .returned (.tuple #[.agg #[.int .i64 mem, vd, vF], .int .i64 0]) ∧ CRes w w' u vd vF v rows else e = .returned (.tuple #[.agg #[.int .i64 0, .slice none 0 0, .slice none 0 0], .int .i64 (compE u mem)]) ∧ w.grownBy w' none
/-- What Origin leaves. -/
def OriginP (w : World) (u : Un) (e : Ending) (w' : World) : Prop :=
  if compE u 65536 = 0 then ∃ vd vF v rows, e = .returned (.tuple #[v, .int .i64 0]) ∧ CRes w w' u vd vF v rows else e = .returned (.tuple #[.slice none 0 0, .int .i64 (compE u 65536)]) ∧ w.grownBy w' none

end Go.Proofs.Ytecaolkbllbokaa.TG

namespace Go.Proofs.Ytecaolkbllbokaa.TG
open Go.RowKit Go.Great
set_option linter.unusedSimpArgs false
set_option linter.unusedVariables false

theorem cres_base {w w2 w' : World} {u : Un} {vd vF v : Value} {rows : List (Value × Value)} (h : CRes w2 w' u vd vF v rows) (g : w.grownBy w2 none) : CRes w w' u vd vF v rows := by
  have hz := g.size
  refine ⟨h.len, grownBy_trans g h.gr, own_lower h.dt hz, own_lower h.fr hz, own_lower h.or hz, fun i vo vg f hi hf => ?_, h.ord⟩
  obtain ⟨e1, e2⟩ := h.each i vo vg f hi hf
  exact ⟨own_lower e1 hz, own_lower e2 hz⟩

theorem comp_end {w w1 : World} {u : Un} {vd vF v : Value} {rows : List (Value × Value)} {o o' : Obj} {a b c : Value} (h : CRes w w1 u vd vF v rows) (hR : w1.heap[w.heap.size + 1]? = some (.cells #[.int .i64 0, .slice none 0 0, .slice none 0 0] 32 (0, 0))) :
    CRes w ((((w1.setCell ⟨w.heap.size + 1, 0, none⟩ a).setCell ⟨w.heap.size + 1, 1, none⟩ b).setCell ⟨w.heap.size + 1, 2, none⟩ c).alloc o) u vd vF v rows := by
  have hT : w1.grownBy ((((w1.setCell ⟨w.heap.size + 1, 0, none⟩ a).setCell ⟨w.heap.size + 1, 1, none⟩ b).setCell ⟨w.heap.size + 1, 2, none⟩ c).alloc o) (some (w.heap.size + 1)) := grownBy_trans (grownBy_trans (grownBy_trans (grownBy_set w1 _ 0 _) (grownBy_set _ _ 1 _)) (grownBy_set _ _ 2 _)) (World.grownBy_alloc _ _ _)
  refine cres_kept (P := fun k => k = w.heap.size + 1) h (sp_grown hT fun k _ e => by injection e with e; exact e.symm) (fun k e => by omega) ?_
  intro e size n x xs ho he k hk hk2
  refine own_not_box ho hR ?_ (by rw [hk, hk2])
  rcases he with rfl | rfl | rfl | rfl | rfl <;> decide

theorem cres_alloc {w w1 : World} {u : Un} {vd vF v : Value} {rows : List (Value × Value)} (h : CRes w w1 u vd vF v rows) (o : Obj) : CRes w (w1.alloc o) u vd vF v rows :=
  cres_kept (P := fun _ => False) h (sp_grown (World.grownBy_alloc w1 o none) (by simp)) (fun k e => e.elim) (fun _ _ _ _ _ _ _ _ _ e => e)

theorem grow_two (w : World) (o o' : Obj) : w.grownBy ((w.alloc o).alloc o') none := grownBy_trans (World.grownBy_alloc w o none) (World.grownBy_alloc _ o' none)

set_option maxRecDepth 100000 in
set_option maxHeartbeats 4000000 in
theorem comp_any (u : Un) (mem : Int) (pt pf : Option Addr) (ct cf B : Nat) (w : World) (hU : UnitAt w B pt pf u) (hO : UnOK w pt ct u) :
    Calls Try.prog 11 #[.agg #[.slice pt u.texts.length ct, .slice pf u.funcs.length cf], .int .i64 mem] w (CompileP w u mem) := by
  have CO := Lib.hid (fun o o' => compile_any u mem pt pf ct cf B ((w.alloc o).alloc o') (unitAt_kept hU (grow_two w o o') (by simp)) (unOK_kept hO hU (grow_two w o o')))
  by_cases h0 : compE u mem = 0
  · have H0 := Lib.hid h0
    clear hU hO h0
    go_enter Try.func11, Try.ntmps11
    go_wp2_with (go_at_call 27; refine (CO.out _ _).mono ?_; intro e w1 hp; unfold AnyPost at hp; rw [if_pos H0.out] at hp; obtain ⟨vd, vF, v, rows, rfl, hC⟩ := hp; obtain ⟨p1, k1, hv1⟩ := own_slice hC.dt; obtain ⟨p2, k2, hv2⟩ := own_slice hC.fr; subst hv1; subst hv2; have hR := box_moved (box_two w _ _) hC.gr (by simp); have r0 := cell_of_row w1 _ 0 _ _ _ hR; have r1 := cell_of_row w1 _ 1 _ _ _ hR; have r2 := cell_of_row w1 _ 2 _ _ _ hR; have z0 := frozen_of_row w1 _ 0 _ _ hR; have z1 := frozen_of_row w1 _ 1 _ _ hR; have z2 := frozen_of_row w1 _ 2 _ _ hR; have hlR := (Array.getElem?_eq_some_iff.1 hR).1; have HC := Lib.hid hC; have HR := Lib.hid hR; clear hC hR)
    refine bodyPost_ret (v := .tuple #[.agg #[.int .i64 mem, .slice p1 (dataE u).length k1, .slice p2 u.funcs.length k2], .int .i64 0]) ?_ rfl ?_
    · rw [results_cell_tmp rfl]
      go_simp
    · unfold CompileP
      rw [if_pos H0.out]
      exact ⟨_, _, v, rows, rfl, comp_end (o' := .cells #[] 0) (cres_base HC.out (grow_two w _ _)) HR.out⟩
  · have H0 := Lib.hid h0
    clear hU hO h0
    go_enter Try.func11, Try.ntmps11
    go_wp2_with (go_at_call 27; refine (CO.out _ _).mono ?_; intro e w1 hp; unfold AnyPost at hp; rw [if_neg H0.out] at hp; obtain ⟨rfl, hg⟩ := hp; have hR := box_moved (box_two w _ _) hg (by simp); have r0 := cell_of_row w1 _ 0 _ _ _ hR; have r1 := cell_of_row w1 _ 1 _ _ _ hR; have r2 := cell_of_row w1 _ 2 _ _ _ hR; have z0 := frozen_of_row w1 _ 0 _ _ hR; have z1 := frozen_of_row w1 _ 1 _ _ hR; have z2 := frozen_of_row w1 _ 2 _ _ hR; have hlR := (Array.getElem?_eq_some_iff.1 hR).1; have HG := Lib.hid hg; clear hg hR)
    refine bodyPost_ret (v := .tuple #[.agg #[.int .i64 0, .slice none 0 0, .slice none 0 0], .int .i64 (compE u mem)]) ?_ rfl ?_
    · rw [results_cell_tmp rfl]
      go_simp
    · unfold CompileP
      rw [if_neg H0.out]
      refine ⟨rfl, ?_⟩
      have hT : w1.grownBy ((((w1.setCell ⟨w.heap.size + 1, 0, none⟩ (.int .i64 0)).setCell ⟨w.heap.size + 1, 1, none⟩ (.slice none 0 0)).setCell ⟨w.heap.size + 1, 2, none⟩ (.slice none 0 0)).alloc (.cells #[.int .i64 0, .slice none 0 0, .slice none 0 0] 32)) (some (w.heap.size + 1)) :=
        grownBy_trans (grownBy_trans (grownBy_trans (grownBy_set w1 _ 0 _) (grownBy_set _ _ 1 _)) (grownBy_set _ _ 2 _)) (World.grownBy_alloc _ _ _)
      exact grow_new (grownBy_trans (grow_two w _ _) HG.out) hT (by omega)

set_option maxRecDepth 100000 in
set_option maxHeartbeats 4000000 in
theorem orig_any (u : Un) (pt pf : Option Addr) (ct cf B : Nat) (w : World) (hU : UnitAt w B pt pf u) (hO : UnOK w pt ct u) :
    Calls Try.prog 15 #[.agg #[.slice pt u.texts.length ct, .slice pf u.funcs.length cf]] w (OriginP w u) := by
  have CO := Lib.hid (fun o => compile_any u 65536 pt pf ct cf B (w.alloc o) (unitAt_kept hU (World.grownBy_alloc w o none) (by simp)) (unOK_kept hO hU (World.grownBy_alloc w o none)))
  by_cases h0 : compE u 65536 = 0
  · have H0 := Lib.hid h0
    clear hU hO h0
    go_enter Try.func15, Try.ntmps15
    go_wp2_with (go_at_call 27; refine (CO.out _).mono ?_; intro e w1 hp; unfold AnyPost at hp; rw [if_pos H0.out] at hp; obtain ⟨vd, vF, v, rows, rfl, hC⟩ := hp; obtain ⟨p1, k1, hv1⟩ := own_slice hC.dt; obtain ⟨p2, k2, hv2⟩ := own_slice hC.fr; subst hv1; subst hv2; have HC := Lib.hid hC; clear hC)
    refine bodyPost_ret (v := .tuple #[v, .int .i64 0]) ?_ rfl ?_
    · rw [results_tmp2 rfl]
      go_simp
    · unfold OriginP
      rw [if_pos H0.out]
      exact ⟨_, _, v, rows, rfl, cres_alloc (cres_base HC.out (World.grownBy_alloc w _ none)) _⟩
  · have H0 := Lib.hid h0
    clear hU hO h0
    go_enter Try.func15, Try.ntmps15
    go_wp2_with (go_at_call 27; refine (CO.out _).mono ?_; intro e w1 hp; unfold AnyPost at hp; rw [if_neg H0.out] at hp; obtain ⟨rfl, hg⟩ := hp; have HG := Lib.hid hg; clear hg)
    refine bodyPost_ret (v := .tuple #[.slice none 0 0, .int .i64 (compE u 65536)]) ?_ rfl ?_
    · rw [results_tmp2 rfl]
      go_simp
    · unfold OriginP
      rw [if_neg H0.out]
      exact ⟨rfl, grownBy_trans (grownBy_trans (World.grownBy_alloc w _ none) HG.out) (World.grownBy_alloc _ _ none)⟩

end Go.Proofs.Ytecaolkbllbokaa.TG

namespace Go.Proofs.Ytecaolkbllbokaa.TG
open Go.RowKit Go.Great
set_option linter.unusedSimpArgs false
set_option linter.unusedVariables false

/-- A line. -/
structure Ln where
  op : Int
  a : Int
  part : Int
  j : Bool
  out : Int
  ag : Bool

def Ln.cells (x : Ln) : List Value := [.int .i64 x.op, .int .i64 x.a, .int .i64 x.part, .bool x.j, .int .i64 x.out, .bool x.ag]
def Ln.agg (x : Ln) : Value := .agg #[.int .i64 x.op, .int .i64 x.a, .int .i64 x.part, .bool x.j, .int .i64 x.out, .bool x.ag]
def flatLn : List Ln → List Value
  | [] => []
  | x :: r => x.cells ++ flatLn r
theorem flatLn_append : ∀ (a b : List Ln), flatLn (a ++ b) = flatLn a ++ flatLn b
  | [], b => rfl
  | x :: r, b => by simp [flatLn, flatLn_append r b]
theorem flatLn_length : ∀ (a : List Ln), (flatLn a).length = a.length * 6
  | [] => rfl
  | x :: r => by simp [flatLn, flatLn_length r, Ln.cells]; omega
theorem flatLn_cell : ∀ (a : List Ln), ∀ u ∈ flatLn a, u.oneCell' = true
  | [], u, h => by cases h
  | x :: r, u, h => by
    rw [flatLn] at h
    rcases List.mem_append.1 h with h | h
    · simp [Ln.cells] at h
      rcases h with rfl | rfl | rfl | rfl | rfl | rfl <;> rfl
    · exact flatLn_cell r u h

/-- A line that does not jump; one that does. -/
def lineL (part op a : Int) : Ln := ⟨op, a, part, false, 0, false⟩
def jumpL (part op a : Int) : Ln := ⟨op, a, part, true, 0, false⟩

theorem line_info : (Try.prog.info? 86).map (fun i => (i.zero, i.size, i.bytes)) = some (some (.agg #[.int .i64 0, .int .i64 0, .int .i64 0, .bool false, .int .i64 0, .bool false]), 6, 48) := by kernel_rfl
theorem line_und : Try.prog.underlying 82 = some (.slice 86) := by kernel_rfl

/-- A list of lines lies in memory. -/
abbrev LnsAt (w : World) (base : Nat) (v : Value) (R : List Ln) : Prop := w.ownsRow base 86 6 v R.length (flatLn R)

theorem lns_nil (w : World) (base : Nat) : LnsAt w base (.slice none 0 0) [] := World.ownsRow_nil _ _ _ _

theorem lns_slice {w : World} {base : Nat} {v : Value} {R : List Ln} (h : LnsAt w base v R) : ∃ (p : Option Addr) (cap : Nat), v = .slice p R.length cap := by
  rcases h.2 with ⟨rfl, h0⟩ | ⟨g, cap, cur, hv, _⟩
  · exact ⟨_, _, by rw [h0]⟩
  · exact ⟨_, _, hv⟩

theorem lns_lit (w : World) (R : List Ln) (cs : Array Value) (hcs : cs.toList = flatLn R) (hR : R.length ≤ 1000) : LnsAt (w.alloc (.cells cs 86)) 0 (.slice (some ⟨w.heap.size, 0, none⟩) R.length R.length) R := by
  have h := World.ownsRow_lit (base := 0) (e := 86) (size := 6) w cs R.length (Nat.zero_le _) (by unfold maxLen; omega) (by
    have := flatLn_length R
    rw [← hcs] at this
    simpa using this)
  rw [hcs] at h
  exact h

/-- One list of lines put behind another. -/
theorem wpList_append_ln {ops : Array Oper} {rest : List Oper} {o : Oper} {a : Act} {Q : Exit → Act → World → Prop} {w : World} (hgd : o.guard = none) (s x : Operand)
    (ho : o.op = .call { callee := .builtin .append, args := #[s, x], argTypes := #[82, 82] })
    (base : Nat) (v v2 : Value) (R R2 : List Ln) (base2 : Nat) (hs : a.eval s = v) (hx : a.eval x = v2) (hown : LnsAt w base v R) (hown2 : LnsAt w base2 v2 R2)
    (hb : R.length + R2.length ≤ 1000000000000) (hbase : base ≤ w.heap.size)
    (h : ∀ v' w', LnsAt w' base v' (R ++ R2) → w.grownBy w' v.ownBlock → (v'.ownBlock = v.ownBlock ∨ v'.ownBlock = some w.heap.size) → wpList Try.prog ops Q rest (a.put o.dst v') w') :
    wpList Try.prog ops Q (o :: rest) a w := by
  obtain ⟨li, li0, li1, li2, li3⟩ := info_parts line_info
  rcases hown2.2 with ⟨h2, h0⟩ | ⟨g2, cap2, cur2, h2, hb2, hg2, hn2, hc2, hsz2, ht2⟩
  · have hR2 : R2 = [] := List.length_eq_zero_iff.1 h0
    subst hR2
    refine wpList_plain hgd fun K hK => ?_
    have hr := run_append_owned_none (P := Try.prog) (w := w) base 82 o.type 86 li 6 line_und li0 v R.length (flatLn R) hown
    unfold Oper.wp execOp
    simp only [ho, resolve, invoke, builtin, Sem.run_bind, Sem.run_pure, Result.andThen_ok, List.map_toArray, List.map_cons, List.map_nil, hs, hx, h2, hr]
    exact hK _ _ (h v w (by simpa using hown) (grow_w (grownBy_refl w none)) (Or.inl rfl))
  · subst h2
    refine wpList_append_own_at w hgd s x 82 ho base 86 li (.agg #[.int .i64 0, .int .i64 0, .int .i64 0, .bool false, .int .i64 0, .bool false]) 6 48 line_und li0 li1 li2 li3 rfl (by decide) v R.length (flatLn R) hs hown ⟨g2, 0, none⟩ R2.length cap2 (flatLn R2) hx (flatLn_length R2) (fun j u hj => hown2.cells rfl j u hj) (flatLn_cell R2) (by unfold maxLen; omega) (by omega) hbase ?_
    intro v' w' ho' hg' _ hat'
    refine h v' w' ?_ hg' hat'
    show w'.ownsRow _ _ _ _ (R ++ R2).length (flatLn (R ++ R2))
    rw [flatLn_append, List.length_append]; exact ho'

set_option maxHeartbeats 1000000 in
theorem line_any (part op a : Int) (w : World) : Calls Try.prog 50 #[.int .i64 part, .int .i64 op, .int .i64 a] w fun e w' => e = .returned (lineL part op a).agg ∧ w.grownBy w' none := by
  go_enter Try.func50, Try.ntmps50
  go_wp2
  refine bodyPost_ret (v := (lineL part op a).agg) ?_ rfl ⟨rfl, World.grownBy_alloc _ _ none⟩
  rw [results_cell1 rfl]; unfold lineL Ln.agg; go_simp

set_option maxHeartbeats 1000000 in
theorem jump_any (part op a : Int) (w : World) : Calls Try.prog 133 #[.int .i64 part, .int .i64 op, .int .i64 a] w fun e w' => e = .returned (jumpL part op a).agg ∧ w.grownBy w' none := by
  go_enter Try.func133, Try.ntmps133
  go_wp2
  refine bodyPost_ret (v := (jumpL part op a).agg) ?_ rfl ⟨rfl, World.grownBy_alloc _ _ none⟩
  rw [results_cell1 rfl]; unfold jumpL Ln.agg; go_simp

end Go.Proofs.Ytecaolkbllbokaa.TG

namespace Go.Proofs.Ytecaolkbllbokaa.TG
open Go.RowKit Go.Great
set_option linter.unusedSimpArgs false
set_option linter.unusedVariables false

/-- What is put together: a row of lines in blocks beyond those of w0, which stay. -/
structure Acc (w0 w : World) (v : Value) (R : List Ln) : Prop where
  own : LnsAt w w0.heap.size v R
  sp : w0.grownBy w none

theorem acc_nil (w : World) : Acc w w (.slice none 0 0) [] := ⟨lns_nil _ _, grownBy_refl _ _⟩
theorem lns_grow {w w' : World} {b : Nat} {v : Value} {R : List Ln} (h : LnsAt w b v R) (g : w.grownBy w' none) : LnsAt w' b v R :=
  h.kept g (by
    cases hv : v.ownBlock with
    | none => exact Or.inl rfl
    | some k => exact Or.inr (by simp))
theorem acc_grow {w0 w w' : World} {v : Value} {R : List Ln} (A : Acc w0 w v R) (g : w.grownBy w' none) : Acc w0 w' v R := ⟨lns_grow A.own g, A.sp.trans g⟩
theorem acc_alloc {w0 w : World} {v : Value} {R : List Ln} (A : Acc w0 w v R) (o : Obj) : Acc w0 (w.alloc o) v R := acc_grow A (World.grownBy_alloc _ _ _)
theorem acc_app {w0 w w' : World} {v v' : Value} {R R' : List Ln} (A : Acc w0 w v R) (g : w.grownBy w' v.ownBlock) (o : LnsAt w' w0.heap.size v' R') : Acc w0 w' v' R' := by
  refine ⟨o, ?_⟩
  cases hv : v.ownBlock with
  | none => rw [hv] at g; exact A.sp.trans g
  | some k => rw [hv] at g; exact grow_new A.sp g (A.own.lt k hv).1

theorem wpList_acc {ops : Array Oper} {rest : List Oper} {o : Oper} {a : Act} {Q : Exit → Act → World → Prop} {w : World} (hgd : o.guard = none) (s x : Operand)
    (ho : o.op = .call { callee := .builtin .append, args := #[s, x], argTypes := #[82, 82] })
    {w0 : World} {v v2 : Value} {R R2 : List Ln} {base2 : Nat} (hs : a.eval s = v) (hx : a.eval x = v2) (A : Acc w0 w v R) (hown2 : LnsAt w base2 v2 R2)
    (hb : R.length + R2.length ≤ 1000000000000)
    (h : ∀ v' w', Acc w0 w' v' (R ++ R2) → wpList Try.prog ops Q rest (a.put o.dst v') w') :
    wpList Try.prog ops Q (o :: rest) a w :=
  wpList_append_ln hgd s x ho w0.heap.size v v2 R R2 base2 hs hx A.own hown2 hb A.sp.size fun v' w' ho' hg' _ => h v' w' (acc_app A hg' ho')

/-- What such a function answers. -/
def LnsPost (w : World) (R : List Ln) (e : Ending) (w' : World) : Prop := ∃ v, e = .returned v ∧ LnsAt w' w.heap.size v R ∧ w.grownBy w' none

theorem lns_post {w w' : World} {v : Value} {R : List Ln} (A : Acc w w' v R) {e : Ending} (he : e = .returned v) : LnsPost w R e w' := ⟨v, he, A.own, A.sp⟩

theorem line_raw (part op a : Int) (w : World) : Calls Try.prog 50 #[.int .i64 part, .int .i64 op, .int .i64 a] w fun e w' => e = Ending.returned (.agg #[.int .i64 op, .int .i64 a, .int .i64 part, .bool false, .int .i64 0, .bool false]) ∧ w.grownBy w' none := line_any part op a w
theorem jump_raw (part op a : Int) (w : World) : Calls Try.prog 133 #[.int .i64 part, .int .i64 op, .int .i64 a] w fun e w' => e = Ending.returned (.agg #[.int .i64 op, .int .i64 a, .int .i64 part, .bool true, .int .i64 0, .bool false]) ∧ w.grownBy w' none := jump_any part op a w

theorem lns_of {w0 w1 : World} {b : Nat} {v : Value} {R : List Ln} (h : LnsAt w0 b v R) (A : w0.grownBy w1 none) : LnsAt w1 b v R := lns_grow h A
theorem lit1 (w : World) (op a part : Int) (j : Bool) : LnsAt (w.alloc (.cells #[.int .i64 op, .int .i64 a, .int .i64 part, .bool j, .int .i64 0, .bool false] 86)) 0 (.slice (some ⟨w.heap.size, 0, none⟩) 1 1) [⟨op, a, part, j, 0, false⟩] :=
  lns_lit w [⟨op, a, part, j, 0, false⟩] _ rfl (by simp)
theorem lit2 (w : World) (op a part : Int) (j : Bool) (op2 a2 part2 : Int) (j2 : Bool) : LnsAt (w.alloc (.cells #[.int .i64 op, .int .i64 a, .int .i64 part, .bool j, .int .i64 0, .bool false, .int .i64 op2, .int .i64 a2, .int .i64 part2, .bool j2, .int .i64 0, .bool false] 86)) 0 (.slice (some ⟨w.heap.size, 0, none⟩) 2 2) [⟨op, a, part, j, 0, false⟩, ⟨op2, a2, part2, j2, 0, false⟩] :=
  lns_lit w [⟨op, a, part, j, 0, false⟩, ⟨op2, a2, part2, j2, 0, false⟩] _ rfl (by simp)
theorem lit4 (w : World) (op a part : Int) (j : Bool) (op2 a2 part2 : Int) (j2 : Bool) (op3 a3 part3 : Int) (j3 : Bool) (op4 a4 part4 : Int) (j4 : Bool) : LnsAt (w.alloc (.cells #[.int .i64 op, .int .i64 a, .int .i64 part, .bool j, .int .i64 0, .bool false, .int .i64 op2, .int .i64 a2, .int .i64 part2, .bool j2, .int .i64 0, .bool false, .int .i64 op3, .int .i64 a3, .int .i64 part3, .bool j3, .int .i64 0, .bool false, .int .i64 op4, .int .i64 a4, .int .i64 part4, .bool j4, .int .i64 0, .bool false] 86)) 0 (.slice (some ⟨w.heap.size, 0, none⟩) 4 4) [⟨op, a, part, j, 0, false⟩, ⟨op2, a2, part2, j2, 0, false⟩, ⟨op3, a3, part3, j3, 0, false⟩, ⟨op4, a4, part4, j4, 0, false⟩] :=
  lns_lit w [⟨op, a, part, j, 0, false⟩, ⟨op2, a2, part2, j2, 0, false⟩, ⟨op3, a3, part3, j3, 0, false⟩, ⟨op4, a4, part4, j4, 0, false⟩] _ rfl (by simp)

/-- PAnd, POr. -/
def whetherL (part op : Int) (one two : List Ln) (non : Int) : List Ln :=
  ((([] ++ one) ++ [jumpL part op (two.length + 6)] ++ two) ++ [lineL part 3 0, lineL part 31 0, lineL part 3 0, lineL part 31 0]) ++ [jumpL part 14 2, lineL part 3 non]

set_option maxRecDepth 100000 in
set_option maxHeartbeats 4000000 in
theorem whether_any (part op non : Int) (v1 v2 : Value) (R1 R2 : List Ln) (b1 b2 : Nat) (w : World) (h1 : LnsAt w b1 v1 R1) (h2 : LnsAt w b2 v2 R2) (hb1 : R1.length ≤ 10000000) (hb2 : R2.length ≤ 10000000) :
    Calls Try.prog 110 #[.int .i64 part, .int .i64 op, v1, v2, .int .i64 non] w (LnsPost w (whetherL part op R1 R2 non)) := by
  obtain ⟨p2, c2, rfl⟩ := lns_slice h2
  have H1 := Lib.hid h1
  have H2 := Lib.hid h2
  clear h1 h2
  have hbi : (R2.length : Int) ≤ 10000000 := by omega
  go_enter Try.func110, Try.ntmps110
  go_wp2_with (first
    | (go_at_call 133; refine (jump_raw _ _ _ _).mono ?_; rintro e wj ⟨rfl, hg⟩; first | (have A2 := Lib.hid (acc_grow A1.out hg); clear A1 hg) | (have A9 := Lib.hid (acc_grow A8.out hg); clear A8 hg))
    | (go_at_call 50; refine (line_raw _ _ _ _).mono ?_; rintro e wj ⟨rfl, hg⟩; first | (have A5 := Lib.hid (acc_grow A4.out hg); clear A4 hg) | (have A6 := Lib.hid (acc_grow A5.out hg); clear A5 hg) | (have A61 := Lib.hid (acc_grow A6.out hg); clear A6 hg) | (have A7 := Lib.hid (acc_grow A61.out hg); clear A61 hg) | (have A10 := Lib.hid (acc_grow A9.out hg); clear A9 hg))
    | (at_builtin; refine wpList_acc rfl _ _ rfl rfl rfl (acc_nil w) H1.out (by simp only [List.length_append, List.length_cons, List.length_nil] <;> omega) ?_; intro v w1 A; have A1 := Lib.hid A; clear A)
    | (at_builtin; refine wpList_acc rfl _ _ rfl rfl rfl (acc_alloc A2.out _) (lit1 _ _ _ _ _) (by simp only [List.length_append, List.length_cons, List.length_nil] <;> omega) ?_; intro v w1 A; have A3 := Lib.hid A; clear A A2)
    | (at_builtin; refine wpList_acc rfl _ _ rfl rfl rfl A3.out (lns_of H2.out A3.out.sp) (by simp only [List.length_append, List.length_cons, List.length_nil] <;> omega) ?_; intro v w1 A; have A4 := Lib.hid A; clear A A3)
    | (at_builtin; refine wpList_acc rfl _ _ rfl rfl rfl (acc_alloc A7.out _) (lit4 _ _ _ _ _ _ _ _ _ _ _ _ _ _ _ _ _) (by simp only [List.length_append, List.length_cons, List.length_nil] <;> omega) ?_; intro v w1 A; have A8 := Lib.hid A; clear A A7)
    | (at_builtin; refine wpList_acc rfl _ _ rfl rfl rfl (acc_alloc A10.out _) (lit2 _ _ _ _ _ _ _ _ _) (by simp only [List.length_append, List.length_cons, List.length_nil] <;> omega) ?_; intro v w1 A; have A11 := Lib.hid A; clear A A10))
  go_ret
  exact lns_post A11.out rfl

/-- PIf. -/
def chosenL (part : Int) (k one two : List Ln) (both : Bool) : List Ln :=
  bif both then (([] ++ k) ++ [jumpL part 15 (one.length + 2)] ++ one ++ [jumpL part 14 (two.length + 1)]) ++ two
  else ([] ++ k) ++ [jumpL part 15 (one.length + 1)] ++ one

set_option maxRecDepth 100000 in
set_option maxHeartbeats 4000000 in
theorem chosen_two (part : Int) (vk v1 v2 : Value) (K R1 R2 : List Ln) (bk b1 b2 : Nat) (w : World) (hk : LnsAt w bk vk K) (h1 : LnsAt w b1 v1 R1) (h2 : LnsAt w b2 v2 R2) (hbk : K.length ≤ 10000000) (hb1 : R1.length ≤ 10000000) (hb2 : R2.length ≤ 10000000) :
    Calls Try.prog 108 #[.int .i64 part, vk, v1, v2, .bool true] w (LnsPost w (chosenL part K R1 R2 true)) := by
  obtain ⟨p1, c1, rfl⟩ := lns_slice h1
  obtain ⟨p2, c2, rfl⟩ := lns_slice h2
  have HK := Lib.hid hk
  have H1 := Lib.hid h1
  have H2 := Lib.hid h2
  clear hk h1 h2
  have hbi : (R1.length : Int) ≤ 10000000 := by omega
  have hbj : (R2.length : Int) ≤ 10000000 := by omega
  go_enter Try.func108, Try.ntmps108
  go_wp2_with (first
    | (go_at_call 133; refine (jump_raw _ _ _ _).mono ?_; rintro e wj ⟨rfl, hg⟩; first | (have A2 := Lib.hid (acc_grow A1.out hg); clear A1 hg) | (have A5 := Lib.hid (acc_grow A4.out hg); clear A4 hg))
    | (at_builtin; refine wpList_acc rfl _ _ rfl rfl rfl (acc_nil w) HK.out (by simp only [List.length_append, List.length_cons, List.length_nil] <;> omega) ?_; intro v w1 A; have A1 := Lib.hid A; clear A)
    | (at_builtin; refine wpList_acc rfl _ _ rfl rfl rfl (acc_alloc A2.out _) (lit1 _ _ _ _ _) (by simp only [List.length_append, List.length_cons, List.length_nil] <;> omega) ?_; intro v w1 A; have A3 := Lib.hid A; clear A A2)
    | (at_builtin; refine wpList_acc rfl _ _ rfl rfl rfl A3.out (lns_of H1.out A3.out.sp) (by simp only [List.length_append, List.length_cons, List.length_nil] <;> omega) ?_; intro v w1 A; have A4 := Lib.hid A; clear A A3)
    | (at_builtin; refine wpList_acc rfl _ _ rfl rfl rfl (acc_alloc A5.out _) (lit1 _ _ _ _ _) (by simp only [List.length_append, List.length_cons, List.length_nil] <;> omega) ?_; intro v w1 A; have A6 := Lib.hid A; clear A A5)
    | (at_builtin; refine wpList_acc rfl _ _ rfl rfl rfl A6.out (lns_of H2.out A6.out.sp) (by simp only [List.length_append, List.length_cons, List.length_nil] <;> omega) ?_; intro v w1 A; have A7 := Lib.hid A; clear A A6))
  go_ret
  exact lns_post A7.out rfl

set_option maxRecDepth 100000 in
set_option maxHeartbeats 4000000 in
theorem chosen_one (part : Int) (vk v1 v2 : Value) (K R1 : List Ln) (bk b1 : Nat) (w : World) (hk : LnsAt w bk vk K) (h1 : LnsAt w b1 v1 R1) (hbk : K.length ≤ 10000000) (hb1 : R1.length ≤ 10000000) :
    Calls Try.prog 108 #[.int .i64 part, vk, v1, v2, .bool false] w (LnsPost w (chosenL part K R1 [] false)) := by
  obtain ⟨p1, c1, rfl⟩ := lns_slice h1
  have HK := Lib.hid hk
  have H1 := Lib.hid h1
  clear hk h1
  have hbi : (R1.length : Int) ≤ 10000000 := by omega
  go_enter Try.func108, Try.ntmps108
  go_wp2_with (first
    | (go_at_call 133; refine (jump_raw _ _ _ _).mono ?_; rintro e wj ⟨rfl, hg⟩; first | (have A2 := Lib.hid (acc_grow A1.out hg); clear A1 hg))
    | (at_builtin; refine wpList_acc rfl _ _ rfl rfl rfl (acc_nil w) HK.out (by simp only [List.length_append, List.length_cons, List.length_nil] <;> omega) ?_; intro v w1 A; have A1 := Lib.hid A; clear A)
    | (at_builtin; refine wpList_acc rfl _ _ rfl rfl rfl (acc_alloc A2.out _) (lit1 _ _ _ _ _) (by simp only [List.length_append, List.length_cons, List.length_nil] <;> omega) ?_; intro v w1 A; have A3 := Lib.hid A; clear A A2)
    | (at_builtin; refine wpList_acc rfl _ _ rfl rfl rfl A3.out (lns_of H1.out A3.out.sp) (by simp only [List.length_append, List.length_cons, List.length_nil] <;> omega) ?_; intro v w1 A; have A4 := Lib.hid A; clear A A3))
  go_ret
  exact lns_post A4.out rfl

end Go.Proofs.Ytecaolkbllbokaa.TG

namespace Go.Proofs.Ytecaolkbllbokaa.TG
open Go.RowKit Go.Great
set_option linter.unusedSimpArgs false
set_option linter.unusedVariables false

/-- A line of a loop's block, at place i of b, behind k of the condition. -/
def fillL (k b i : Nat) (x : Ln) : Ln :=
  if x.out = 1 then { x with j := true, a := bif x.ag then -(k : Int) - 1 - (i : Int) else (b : Int) + 1 - (i : Int), out := 0 }
  else if 0 < x.out then { x with out := x.out - 1 } else x
def loopFill (k b : Nat) : Nat → List Ln → List Ln
  | _, [] => []
  | i, x :: r => fillL k b i x :: loopFill k b (i + 1) r
theorem loopFill_append (k b : Nat) : ∀ (i : Nat) (r s : List Ln), loopFill k b i (r ++ s) = loopFill k b i r ++ loopFill k b (i + r.length) s
  | i, [], s => by simp [loopFill]
  | i, x :: r, s => by simp only [List.cons_append, loopFill, loopFill_append k b (i + 1) r s, List.length_cons]; congr 2; congr 1; omega
theorem loopFill_length (k b : Nat) : ∀ (i : Nat) (r : List Ln), (loopFill k b i r).length = r.length
  | i, [] => rfl
  | i, x :: r => by simp [loopFill, loopFill_length k b (i + 1) r]
theorem loopFill_take (k b : Nat) (r : List Ln) (i : Nat) (x : Ln) (h : r[i]? = some x) : loopFill k b 0 (r.take (i + 1)) = loopFill k b 0 (r.take i) ++ [fillL k b i x] := by
  obtain ⟨hl, rfl⟩ := List.getElem?_eq_some_iff.1 h
  rw [List.take_succ_eq_append_getElem hl, loopFill_append]
  simp [loopFill, Nat.min_eq_left (Nat.le_of_lt hl)]

/-- PWhile. -/
def loopL (part : Int) (k block : List Ln) : List Ln :=
  (([] ++ k) ++ [jumpL part 15 (block.length + 2)] ++ loopFill k.length block.length 0 block) ++ [jumpL part 14 (-(k.length : Int) - 1 - (block.length : Int))]

theorem flatLn_get : ∀ (R : List Ln) (i : Nat) (x : Ln), R[i]? = some x → ∀ j, j < 6 → (flatLn R)[i * 6 + j]? = x.cells[j]?
  | [], i, x, h, j, hj => by simp at h
  | y :: r, 0, x, h, j, hj => by
    simp at h; subst h
    rw [flatLn, Nat.zero_mul, Nat.zero_add, List.getElem?_append_left (by simpa [Ln.cells] using hj)]
  | y :: r, i + 1, x, h, j, hj => by
    have h' : r[i]? = some x := by simpa using h
    have := flatLn_get r i x h' j hj
    rw [flatLn, List.getElem?_append_right (by simp [Ln.cells]; omega)]
    have e : (i + 1) * 6 + j - y.cells.length = i * 6 + j := by simp [Ln.cells]; omega
    rw [e]; exact this

theorem ln_some {w : World} {b : Nat} {p : Option Addr} {n c : Nat} {R : List Ln} (h : LnsAt w b (.slice p n c) R) (h0 : 0 < R.length) : ∃ g, p = some ⟨g, 0, none⟩ ∧ g < w.heap.size := by
  rcases h.2 with ⟨_, h1⟩ | ⟨g, cap, cur, hv, hb, hg, _⟩
  · omega
  · injection hv with e1 e2 e3
    exact ⟨g, e1, (Array.getElem?_eq_some_iff.1 hg).1⟩

theorem ln_cells {w : World} {b g c : Nat} {R : List Ln} (h : LnsAt w b (.slice (some ⟨g, 0, none⟩) R.length c) R) {i : Nat} {x : Ln} (hx : R[i]? = some x) :
    w.cell? ⟨g, i * 6, none⟩ = some (.int .i64 x.op) ∧ w.cell? ⟨g, i * 6 + 1, none⟩ = some (.int .i64 x.a) ∧ w.cell? ⟨g, i * 6 + 2, none⟩ = some (.int .i64 x.part) ∧ w.cell? ⟨g, i * 6 + 3, none⟩ = some (.bool x.j) ∧ w.cell? ⟨g, i * 6 + 4, none⟩ = some (.int .i64 x.out) ∧ w.cell? ⟨g, i * 6 + 5, none⟩ = some (.bool x.ag) := by
  have hl := (List.getElem?_eq_some_iff.1 hx).1
  have hf := flatLn_get R i x hx
  refine ⟨?_, ?_, ?_, ?_, ?_, ?_⟩
  · rw [h.cellAt _ (by omega)]; exact hf 0 (by omega)
  · rw [h.cellAt _ (by omega)]; exact hf 1 (by omega)
  · rw [h.cellAt _ (by omega)]; exact hf 2 (by omega)
  · rw [h.cellAt _ (by omega)]; exact hf 3 (by omega)
  · rw [h.cellAt _ (by omega)]; exact hf 4 (by omega)
  · rw [h.cellAt _ (by omega)]; exact hf 5 (by omega)

theorem litL (w : World) (op a part : Int) (j : Bool) (out : Int) (ag : Bool) : LnsAt (w.alloc (.cells #[.int .i64 op, .int .i64 a, .int .i64 part, .bool j, .int .i64 out, .bool ag] 86)) 0 (.slice (some ⟨w.heap.size, 0, none⟩) 1 1) [⟨op, a, part, j, out, ag⟩] :=
  lns_lit w [⟨op, a, part, j, out, ag⟩] _ rfl (by simp)

theorem litL2 (w : World) (o : Obj) (op a part : Int) (j : Bool) (out : Int) (ag : Bool) : LnsAt ((w.alloc o).alloc (.cells #[.int .i64 op, .int .i64 a, .int .i64 part, .bool j, .int .i64 out, .bool ag] 86)) 0 (.slice (some ⟨w.heap.size + 1, 0, none⟩) 1 1) [⟨op, a, part, j, out, ag⟩] := by
  have h := litL (w.alloc o) op a part j out ag
  rw [World.size_alloc] at h
  exact h

theorem fill_brk (k b i : Nat) (op a part : Int) (j : Bool) : fillL k b i ⟨op, a, part, j, 1, false⟩ = ⟨op, (b : Int) + 1 - (i : Int), part, true, 0, false⟩ := rfl
theorem fill_con (k b i : Nat) (op a part : Int) (j : Bool) : fillL k b i ⟨op, a, part, j, 1, true⟩ = ⟨op, -(k : Int) - 1 - (i : Int), part, true, 0, true⟩ := rfl
theorem fill_out (k b i : Nat) (op a part out : Int) (j ag : Bool) (h1 : out ≠ 1) (h : 0 < out) : fillL k b i ⟨op, a, part, j, out, ag⟩ = ⟨op, a, part, j, out - 1, ag⟩ := by
  unfold fillL; rw [if_neg h1, if_pos h]
theorem fill_zero (k b i : Nat) (op a part : Int) (j ag : Bool) : fillL k b i ⟨op, a, part, j, 0, ag⟩ = ⟨op, a, part, j, 0, ag⟩ := rfl

theorem acc_next {w wr : World} {v : Value} {P R : List Ln} {k b i : Nat} {x y : Ln} (h : R[i]? = some x) (e : fillL k b i x = y) (A : Acc w wr v (P ++ loopFill k b 0 (R.take i) ++ [y])) : Acc w wr v (P ++ loopFill k b 0 (R.take (i + 1))) := by
  rw [loopFill_take k b R i x h, e, ← List.append_assoc]; exact A

set_option maxRecDepth 100000 in
set_option maxHeartbeats 8000000 in
theorem loop_any (part : Int) (vk v2 : Value) (K R : List Ln) (bk b2 : Nat) (w : World) (hk : LnsAt w bk vk K) (h2 : LnsAt w b2 v2 R) (hbk : K.length ≤ 10000000) (hb2 : R.length ≤ 10000000) (ho : ∀ x ∈ R, 0 ≤ x.out ∧ x.out ≤ 1000000000000000) :
    Calls Try.prog 109 #[.int .i64 part, vk, v2] w (LnsPost w (loopL part K R)) := by
  obtain ⟨pk, ck, rfl⟩ := lns_slice hk
  obtain ⟨p2, c2, rfl⟩ := lns_slice h2
  have HK := Lib.hid hk
  have H2 := Lib.hid h2
  have HO := Lib.hid ho
  clear hk h2 ho
  have hbi : (K.length : Int) ≤ 10000000 := by omega
  have hbj : (R.length : Int) ≤ 10000000 := by omega
  go_enter Try.func109, Try.ntmps109
  go_wp2_with (first
    | (go_at_call 133; refine (jump_raw _ _ _ _).mono ?_; rintro e wj ⟨rfl, hg⟩; have A2 := Lib.hid (acc_grow A1.out hg); clear A1 hg)
    | (at_builtin; refine wpList_acc rfl _ _ rfl rfl rfl (acc_nil w) HK.out (by simp only [List.length_append, List.length_cons, List.length_nil] <;> omega) ?_; intro v w1 A; have A1 := Lib.hid A; clear A)
    | (at_builtin; refine wpList_acc rfl _ _ rfl rfl rfl (acc_alloc A2.out _) (lit1 _ _ _ _ _) (by simp only [List.length_append, List.length_cons, List.length_nil] <;> omega) ?_; intro v3 w3 A; have A3 := Lib.hid A; clear A A2))
  have hA0 : Acc w w3 v3 (([] ++ K) ++ [jumpL part 15 (R.length + 2)] ++ loopFill K.length R.length 0 (R.take 0)) := by simpa [loopFill, jumpL] using A3.out
  have A0 := Lib.hid hA0
  clear hA0 A3
  go_loopw [7, 8] (fun v i wr => ∃ q : Nat, i = .int .i64 q ∧ q ≤ R.length ∧ Acc w wr v (([] ++ K) ++ [jumpL part 15 (R.length + 2)] ++ loopFill K.length R.length 0 (R.take q))) (fun _ i _ => R.length - (intOf i).toNat)
  case atStart => exact ⟨0, rfl, Nat.zero_le _, A0.out⟩
  case round =>
    obtain ⟨q, rfl, hq, hA⟩ := hrel
    have A := Lib.hid hA
    clear hA A0
    by_cases hlt : (q : Int) < (R.length : Int)
    · obtain ⟨g, rfl, -⟩ := ln_some H2.out (by omega)
      obtain ⟨⟨op, a, pt, jj, out, ag⟩, hqx⟩ : ∃ x, R[q]? = some x := ⟨_, List.getElem?_eq_getElem (by omega)⟩
      have hH := lns_of H2.out A.out.sp
      obtain ⟨e0, e1, e2, e3, e4, e5⟩ := ln_cells hH hqx
      have gl := World.block_lt_of_cell? _ _ e0
      obtain ⟨ho1, ho2⟩ := HO.out _ (List.mem_of_getElem? hqx)
      have HQ := Lib.hid hqx
      simp only [] at e0 e1 e2 e3 e4 e5 ho1 ho2
      clear hH hqx
      by_cases h1 : out = 1
      · subst h1
        cases ag
        · (
            go_wp2_with (at_builtin; go_loud (refine wpList_acc rfl _ _ rfl rfl rfl (acc_alloc (acc_alloc A.out _) _) (litL2 _ _ _ _ _ _ _ _) (by simp only [List.length_append, List.length_cons, List.length_nil, loopFill_length, List.length_take] <;> omega) ?_; intro v3 w3 A3'; have A3 := Lib.hid A3'; clear A3'))
            go_roundw)
          case rel => exact ⟨q + 1, by go_num, by omega, acc_next HQ.out (fill_brk _ _ _ _ _ _ _) A3.out⟩
          case measure => simp [intOf]; omega
        · (
            go_wp2_with (at_builtin; go_loud (refine wpList_acc rfl _ _ rfl rfl rfl (acc_alloc (acc_alloc A.out _) _) (litL2 _ _ _ _ _ _ _ _) (by simp only [List.length_append, List.length_cons, List.length_nil, loopFill_length, List.length_take] <;> omega) ?_; intro v3 w3 A3'; have A3 := Lib.hid A3'; clear A3'))
            go_roundw)
          case rel => exact ⟨q + 1, by go_num, by omega, acc_next HQ.out (fill_con _ _ _ _ _ _ _) A3.out⟩
          case measure => simp [intOf]; omega
      · by_cases h0 : out = 0
        · subst h0
          (
            go_wp2_with (at_builtin; go_loud (refine wpList_acc rfl _ _ rfl rfl rfl (acc_alloc (acc_alloc A.out _) _) (litL2 _ _ _ _ _ _ _ _) (by simp only [List.length_append, List.length_cons, List.length_nil, loopFill_length, List.length_take] <;> omega) ?_; intro v3 w3 A3'; have A3 := Lib.hid A3'; clear A3'))
            go_roundw)
          case rel => exact ⟨q + 1, by go_num, by omega, acc_next HQ.out (fill_zero _ _ _ _ _ _ _ _) A3.out⟩
          case measure => simp [intOf]; omega
        · have h00 : 0 < out := by omega
          (
            go_wp2_with (at_builtin; go_loud (refine wpList_acc rfl _ _ rfl rfl rfl (acc_alloc (acc_alloc A.out _) _) (litL2 _ _ _ _ _ _ _ _) (by simp only [List.length_append, List.length_cons, List.length_nil, loopFill_length, List.length_take] <;> omega) ?_; intro v3 w3 A3'; have A3 := Lib.hid A3'; clear A3'))
            go_roundw)
          case rel => exact ⟨q + 1, by go_num, by omega, acc_next HQ.out (fill_out _ _ _ _ _ _ _ _ _ h1 h00) A3.out⟩
          case measure => simp [intOf]; omega
    · have hqe : q = R.length := by omega
      subst hqe
      rw [List.take_length] at A
      go_wp2_with (first
        | (go_at_call 133; refine (jump_raw _ _ _ _).mono ?_; rintro e wj ⟨rfl, hg⟩; have A4 := Lib.hid (acc_grow A.out hg); clear A hg)
        | (at_builtin; refine wpList_acc rfl _ _ rfl rfl rfl (acc_alloc A4.out _) (lit1 _ _ _ _ _) (by simp only [List.length_append, List.length_cons, List.length_nil, loopFill_length] <;> omega) ?_; intro v5 w5 A5'; have A5 := Lib.hid A5'; clear A5' A4))
      go_ret
      exact lns_post A5.out rfl

end Go.Proofs.Ytecaolkbllbokaa.TG

namespace Go.Proofs.Ytecaolkbllbokaa.TG
open Go.RowKit Go.Great
set_option linter.unusedSimpArgs false
set_option linter.unusedVariables false

theorem rletter_any (c : Int) (w : World) : Calls Try.prog 100 #[.int .u8 c] w fun e w' => e = .returned (.bool (letterB c)) ∧ w = w' := by
  rcases letter_cases c with ⟨rfl, h⟩ | ⟨h1, h2, h3, h⟩ | ⟨h1, h2, h3, h⟩ | ⟨h1, h2, h3, h4, h⟩ | ⟨h1, h2, h3, h4, h⟩ | ⟨h1, h2, h⟩
  · rw [h]; clear h
    go_enter Try.func100, Try.ntmps100
    go_wp2
    go_ret
    exact ⟨rfl, rfl⟩
  · rw [h]; clear h
    go_enter Try.func100, Try.ntmps100
    go_wp2
    go_ret
    exact ⟨rfl, rfl⟩
  · have h4 : ¬ c ≤ 122 := by omega
    have h5 : ¬ c ≤ 90 := by omega
    have h6 : 65 ≤ c := by omega
    rw [h]; clear h
    go_enter Try.func100, Try.ntmps100
    go_wp2
    go_ret
    exact ⟨rfl, rfl⟩
  · have h5 : ¬ 97 ≤ c := by omega
    rw [h]; clear h
    go_enter Try.func100, Try.ntmps100
    go_wp2
    go_ret
    exact ⟨rfl, rfl⟩
  · have h5 : ¬ 97 ≤ c := by omega
    have h6 : ¬ c ≤ 90 := by omega
    rw [h]; clear h
    go_enter Try.func100, Try.ntmps100
    go_wp2
    go_ret
    exact ⟨rfl, rfl⟩
  · have h5 : ¬ 97 ≤ c := by omega
    have h6 : ¬ 65 ≤ c := by omega
    rw [h]; clear h
    go_enter Try.func100, Try.ntmps100
    go_wp2
    go_ret
    exact ⟨rfl, rfl⟩

theorem rtail_any (c : Int) (w : World) : Calls Try.prog 99 #[.int .u8 c] w fun e w' => e = .returned (.bool (tailB c)) ∧ w = w' := by
  unfold tailB
  have L := Lib.hid (rletter_any c w)
  cases h : letterB c with
  | true =>
    rw [h] at L
    have e : (true || digitB c) = true := rfl
    rw [e]; clear e h
    go_enter Try.func99, Try.ntmps99
    go_wp2_with (go_at_call 100; refine L.out.mono ?_; rintro e w' ⟨rfl, rfl⟩)
    go_ret
    exact ⟨rfl, rfl⟩
  | false =>
    rw [h] at L
    have e : (false || digitB c) = digitB c := rfl
    rw [e]; clear e h
    by_cases h1 : 48 ≤ c
    · have h2 : digitB c = decide (c ≤ 57) := by unfold digitB; simp [h1]
      rw [h2]; clear h2
      go_enter Try.func99, Try.ntmps99
      go_wp2_with (go_at_call 100; refine L.out.mono ?_; rintro e w' ⟨rfl, rfl⟩)
      go_ret
      exact ⟨rfl, rfl⟩
    · have h2 : digitB c = false := by unfold digitB; simp [h1]
      rw [h2]; clear h2
      go_enter Try.func99, Try.ntmps99
      go_wp2_with (go_at_call 100; refine L.out.mono ?_; rintro e w' ⟨rfl, rfl⟩)
      go_ret
      exact ⟨rfl, rfl⟩

/-- The words of a text with a blank behind each, from a place on; f: where the word at hand begins. -/
def pieces (ws : ByteArray) : Nat → Nat → Nat → List ByteArray
  | 0, _, _ => []
  | n + 1, f, i => if ws.data.toList.getD i 0 = 32 then ws.extract f i :: pieces ws n (i + 1) (i + 1) else pieces ws n f (i + 1)

theorem getD_at (ws : ByteArray) (i : Nat) (h : i < ws.size) : ws.data.toList.getD i 0 = ws[i] := by
  have h2 : i < ws.data.toList.length := by simpa using h
  rw [List.getD_eq_getElem?_getD, List.getElem?_eq_getElem h2]
  rfl

theorem u8_is (x : UInt8) : ((x.toNat : Int) == 32) = decide (x = 32) := by
  by_cases h : x = 32
  · subst h; rfl
  · have : x.toNat ≠ 32 := fun e => h (by apply UInt8.toNat_inj.1; exact e)
    rw [decide_eq_false h, beq_eq_false_iff_ne]
    omega

set_option maxHeartbeats 1000000 in
theorem rhas_any (ws s : ByteArray) (hs : ws.size ≤ 1000000) (w : World) : Calls Try.prog 101 #[.string ws, .string s] w fun e w' => e = .returned (.bool ((pieces ws ws.size 0 0).any fun v => v.toList == s.toList)) ∧ w = w' := by
  generalize hv : ((pieces ws ws.size 0 0).any fun v => v.toList == s.toList) = v
  go_enter Try.func101, Try.ntmps101
  go_wp2
  go_loop [5, 6] (fun f i => ∃ a b : Nat, f = .int .i64 a ∧ i = .int .i64 b ∧ a ≤ b ∧ b ≤ ws.size ∧ v = (pieces ws (ws.size - b) a b).any fun v => v.toList == s.toList) (fun _ i => ws.size - (intOf i).toNat)
  case atStart => exact ⟨0, 0, rfl, rfl, Nat.le_refl _, Nat.zero_le _, hv.symm⟩
  case round =>
    obtain ⟨a, b, rfl, rfl, hab, hb, hvb⟩ := hrel
    by_cases hlt : b < ws.size
    · have e : ws.size - b = (ws.size - (b + 1)) + 1 := by omega
      rw [e, pieces, getD_at ws b hlt] at hvb
      have hx := u8_is (ws[b]'hlt)
      by_cases h32 : ws[b]'hlt = 32
      · rw [decide_eq_true h32] at hx
        rw [if_pos h32, List.any_cons] at hvb
        cases hq : ((ws.extract a b).toList == s.toList) with
        | true =>
          rw [hq, Bool.true_or] at hvb
          have HV := Lib.hid hvb
          clear hv hvb e
          go_wp2
          go_ret
          exact ⟨by rw [HV.out]; rfl, rfl⟩
        | false =>
          rw [hq, Bool.false_or] at hvb
          have HV := Lib.hid hvb
          clear hv hvb e
          go_wp2
          go_round
          case rel => exact ⟨b + 1, b + 1, by go_num, by go_num, by omega, by omega, HV.out⟩
          case measure => simp [intOf]; omega
      · rw [decide_eq_false h32] at hx
        rw [if_neg h32] at hvb
        have HV := Lib.hid hvb
        clear hv hvb e
        go_wp2
        go_round
        case rel => exact ⟨a, b + 1, rfl, by go_num, by omega, by omega, HV.out⟩
        case measure => simp [intOf]; omega
    · have hbe : b = ws.size := by omega
      have hv0 : v = false := by rw [hvb, hbe, Nat.sub_self, pieces]; rfl
      have HV := Lib.hid hv0
      subst hbe
      clear hv hvb hv0
      go_wp2
      go_ret
      exact ⟨by rw [HV.out]; rfl, rfl⟩

/-- The kept words, a blank behind each. -/
def keptS : ByteArray := { data := ([116, 101, 120, 116, 32, 102, 117, 110, 99, 32, 105, 102, 32, 101, 108, 115, 101, 32, 119, 104, 105, 108, 101, 32, 98, 114, 101, 97, 107, 32, 99, 111, 110, 116, 105, 110, 117, 101, 32, 114, 101, 116, 117, 114, 110, 32, 97, 98, 111, 114, 116, 32, 100, 111, 32, 119, 111, 114, 100, 32, 98, 121, 116, 101, 32, 115, 105, 122, 101, 32, 114, 111, 111, 116, 32, 102, 108, 111, 97, 116, 32, 105, 110, 116, 32, 111, 112, 101, 110, 32, 114, 101, 97, 100, 32, 119, 114, 105, 116, 101, 32, 108, 105, 115, 116, 32, 99, 108, 111, 115, 101, 32] : List UInt8).toArray }
theorem kept_size : keptS.size = 112 := by decide
theorem kept_pieces : pieces keptS keptS.size 0 0 = kwords := by kernel_rfl

theorem kept_same (s : ByteArray) : ((pieces keptS keptS.size 0 0).any fun v => v.toList == s.toList) = among kwords s := by
  rw [kept_pieces]
  unfold among
  congr 1
  funext v
  exact Bool.eq_iff_iff.2 ⟨fun h => by simpa using (beq_iff_eq.1 h).symm, fun h => by simpa using (beq_iff_eq.1 h).symm⟩

theorem rkept_any (s : ByteArray) (w : World) : Calls Try.prog 101 #[.string keptS, .string s] w fun e w' => e = .returned (.bool (among kwords s)) ∧ w = w' := by
  have := rhas_any keptS s (by rw [kept_size]; decide) w
  rw [kept_same] at this
  exact this

end Go.Proofs.Ytecaolkbllbokaa.TG

namespace Go.Proofs.Ytecaolkbllbokaa.TG
open Go.RowKit Go.Great
set_option linter.unusedSimpArgs false
set_option linter.unusedVariables false

theorem ret_bool {a b : Bool} (h : a = b) : Ending.returned (.bool a) = .returned (.bool b) := by rw [h]

set_option maxRecDepth 100000 in
set_option maxHeartbeats 2000000 in
theorem rword_any (s : ByteArray) (hs : s.size ≤ maxLen) (w : World) : Calls Try.prog 79 #[.string s] w fun e w' => e = .returned (.bool (nameB s)) ∧ w = w' := by
  unfold maxLen at hs
  have HA := Lib.hid (all_of s)
  have HN := Lib.hid (not_all s)
  have hn : nameB s = (decide (1 ≤ s.size) && decide (s.size ≤ 64) && letterB ((s.data.toList.headD 0).toNat : Int) && !among kwords s && s.data.toList.all fun c => tailB (c.toNat : Int)) := rfl
  have HD := Lib.hid (head_is s)
  have K := Lib.hid (rkept_any s w)
  unfold keptS at K
  rw [hn]; clear hn
  generalize (s.data.toList.all fun c => tailB (c.toNat : Int)) = va at *
  go_enter Try.func79, Try.ntmps79
  go_wp2
  go_loop [3] (fun i => ∃ k : Nat, k ≤ s.size ∧ i = .int .i64 k ∧ ∀ j (hj : j < s.size), j < k → tailB ((s[j]'hj).toNat : Int) = true) (fun i => s.size - (intOf i).toNat)
  case atStart => exact ⟨0, Nat.zero_le _, rfl, fun j _ h => absurd h (Nat.not_lt_zero _)⟩
  case round =>
    obtain ⟨k, hk, rfl, hall⟩ := hrel
    have HL := Lib.hid hall
    clear hall
    by_cases hlt : k < s.size
    · cases c1 : tailB ((s[k]'hlt).toNat : Int) with
      | true =>
        have HT := Lib.hid c1
        have T := Lib.hid (rtail_any ((s[k]'hlt).toNat : Int) w)
        rw [c1] at T
        clear c1
        go_wp2_with (go_at_call 99; refine T.out.mono ?_; rintro e w' ⟨rfl, rfl⟩)
        go_round
        case rel => exact ⟨k + 1, by omega, by go_num, fun j hj h => by
          rcases Nat.lt_or_eq_of_le (Nat.le_of_lt_succ h) with h5 | h5
          · exact HL.out j hj h5
          · subst h5; exact HT.out⟩
        case measure => simp [intOf]; omega
      | false =>
        have hva : va = false := HN.out k hlt c1
        have T := Lib.hid (rtail_any ((s[k]'hlt).toNat : Int) w)
        rw [c1] at T
        have HV := Lib.hid hva
        clear c1 hva
        go_wp2_with (go_at_call 99; refine T.out.mono ?_; rintro e w' ⟨rfl, rfl⟩)
        go_ret
        exact ⟨by rw [HV.out, Bool.and_false]; rfl, rfl⟩
    · have hva : va = true := HA.out (fun j hj => HL.out j hj (by omega))
      have hke : k = s.size := by omega
      subst hke
      subst hva
      clear HL
      by_cases h0 : s.size < 1
      · have e0 : s.size = 0 := by omega
        have z : ¬ (0 < s.size) := by omega
        have z2 : ¬ (0 : Int) < (s.size : Int) := by omega
        go_wp2
        go_ret
        first | exact ⟨rfl, rfl⟩ | exact ⟨ret_bool (show false = _ by simp; omega), rfl⟩
      · have z : 0 < s.size := by omega
        have hd := HD.out z
        by_cases h64 : s.size ≤ 64
        · have L := Lib.hid (rletter_any ((s[0]'z).toNat : Int) w)
          cases c2 : letterB ((s[0]'z).toNat : Int) with
          | false =>
            rw [c2] at L
            have HC := Lib.hid c2
            have HDD := Lib.hid hd
            clear c2 hd
            go_wp2_with (go_at_call 100; refine L.out.mono ?_; rintro e w' ⟨rfl, rfl⟩)
            go_ret
            exact ⟨ret_bool (show false = _ by rw [HDD.out, HC.out]; simp), rfl⟩
          | true =>
            rw [c2] at L
            have HC := Lib.hid c2
            have HDD := Lib.hid hd
            clear c2 hd
            cases c3 : among kwords s with
            | true =>
              rw [c3] at K
              go_wp2_with (first | (go_at_call 100; refine L.out.mono ?_; rintro e w' ⟨rfl, rfl⟩) | (go_at_call 101; refine K.out.mono ?_; rintro e w' ⟨rfl, rfl⟩))
              go_ret
              exact ⟨ret_bool (show false = _ by rw [c3]; simp), rfl⟩
            | false =>
              rw [c3] at K
              go_wp2_with (first | (go_at_call 100; refine L.out.mono ?_; rintro e w' ⟨rfl, rfl⟩) | (go_at_call 101; refine K.out.mono ?_; rintro e w' ⟨rfl, rfl⟩))
              go_ret
              exact ⟨ret_bool (show true = _ by rw [HDD.out, HC.out, decide_eq_true (show 1 ≤ s.size by omega), decide_eq_true h64, c3]; rfl), rfl⟩
        · go_wp2
          go_ret
          first | exact ⟨rfl, rfl⟩ | exact ⟨ret_bool (show false = _ by simp [h64]), rfl⟩

end Go.Proofs.Ytecaolkbllbokaa.TG
