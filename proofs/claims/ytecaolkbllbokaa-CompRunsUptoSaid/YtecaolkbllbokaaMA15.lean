/-
  Walk of the closure of the compiler's ends for PAt. Conditions: as each theorem states.
  Walk of the compiler's mark, for one jump. Conditions: as each theorem states.
  Walk of the closure that fills a break's jump. Conditions: as each theorem states.
  The code of any part, as a function: absolute places, the breaks' jumps that are still to be filled. Definitions alone.
  The compiler's write as a plain function on what it has written so far; the bounds of what it writes. Conditions: as each theorem states.
  Where the compiler's write stands: the code's block, the loops around with their closures; what a step of it leaves. Conditions: as each theorem states.
-/
import Derived.Test.YtecaolkbllbokaaMA14
import Derived.Deep.RegionHeld3
import Derived.Laws.OwnMore
namespace Go.Proofs.Ytecaolkbllbokaa.TG
open Go.RowKit Go.Great
set_option linter.unusedSimpArgs false
set_option linter.unusedVariables false

/-- What stays readable while the texts ahead are counted, and behind the emit. -/
theorem keep_none {w w' : World} {b3 b4 bc Bd bp o1 : Nat} {x y z u v : Value} (g : w.grownBy w' none) (h1 : w.cell? ⟨b3, 0, none⟩ = some x) (h2 : w.cell? ⟨b4, 0, none⟩ = some y) (h3 : w.cell? ⟨bc, 0, none⟩ = some z) (h4 : w.cell? ⟨Bd, 5, none⟩ = some u) (h5 : w.cell? ⟨bp, o1, none⟩ = some v)
    (l1 : b3 < w.heap.size) (l2 : b4 < w.heap.size) (l3 : bc < w.heap.size) (l4 : Bd < w.heap.size) (l5 : bp < w.heap.size) :
    w'.cell? ⟨b3, 0, none⟩ = some x ∧ w'.cell? ⟨b4, 0, none⟩ = some y ∧ w'.cell? ⟨bc, 0, none⟩ = some z ∧ w'.cell? ⟨Bd, 5, none⟩ = some u ∧ w'.cell? ⟨bp, o1, none⟩ = some v ∧ b3 < w'.heap.size ∧ b4 < w'.heap.size ∧ bc < w'.heap.size ∧ Bd < w'.heap.size ∧ bp < w'.heap.size :=
  ⟨g.cell h1 (by simp), g.cell h2 (by simp), g.cell h3 (by simp), g.cell h4 (by simp), g.cell h5 (by simp), Nat.lt_of_lt_of_le l1 g.size, Nat.lt_of_lt_of_le l2 g.size, Nat.lt_of_lt_of_le l3 g.size, Nat.lt_of_lt_of_le l4 g.size, Nat.lt_of_lt_of_le l5 g.size⟩

theorem keep_emit {w w' : World} {E Bd b3 b4 bc bp op o1 np cp : Nat} {vt vf : Value} {nm : ByteArray} {ar : Int} {vl vout vorg vlo vk vo vg : Value} {out out' : List (Int × Int)} {org org' : List Int} {x y z v : Value}
    (hC : CodeAt w E Bd vt vf nm ar vl (.slice (some ⟨bp, op, none⟩) np cp) vout vorg vlo vk out org) (g : Sp (EmitP Bd vout vorg) w w') (hC' : CodeAt w' E Bd vt vf nm ar vl (.slice (some ⟨bp, op, none⟩) np cp) vo vg vlo vk out' org')
    (h1 : w.cell? ⟨b3, 0, none⟩ = some x) (h2 : w.cell? ⟨b4, 0, none⟩ = some y) (h3 : w.cell? ⟨bc, 0, none⟩ = some z) (h5 : w.cell? ⟨bp, o1, none⟩ = some v) (l1 : Bd < b3 ∧ b3 < E) (l2 : Bd < b4 ∧ b4 < E) (l3 : Bd < bc ∧ bc < E) (l5 : bp < Bd) :
    w'.cell? ⟨b3, 0, none⟩ = some x ∧ w'.cell? ⟨b4, 0, none⟩ = some y ∧ w'.cell? ⟨bc, 0, none⟩ = some z ∧ w'.cell? ⟨Bd, 5, none⟩ = some (.slice (some ⟨bp, op, none⟩) np cp) ∧ w'.cell? ⟨bp, o1, none⟩ = some v ∧ b3 < w'.heap.size ∧ b4 < w'.heap.size ∧ bc < w'.heap.size ∧ Bd < w'.heap.size ∧ bp < w'.heap.size := by
  have hlt := hC.lt
  have hle := hC'.le
  exact ⟨by rw [heap_cell (sp_low hC g b3 l1.2 (by omega))]; exact h1, by rw [heap_cell (sp_low hC g b4 l2.2 (by omega))]; exact h2, by rw [heap_cell (sp_low hC g bc l3.2 (by omega))]; exact h3, code_cell hC' 5, by rw [heap_cell (sp_low hC g bp (by omega) (by omega))]; exact h5, by omega, by omega, by omega, by omega, by omega⟩

set_option maxRecDepth 100000 in
set_option maxHeartbeats 4000000 in
theorem with_at (E Bd b3 b4 bc bp op cp np at_ B ct nn : Nat) (pt : Option Addr) (ts : List (ByteArray × List Int)) (hn0 : nn < ts.length) (hts : ts.length ≤ 1024) (hct : ts.length ≤ ct) (hct2 : ct ≤ maxLen) (hwf : ∀ x ∈ ts, x.1.size ≤ maxLen ∧ x.2.length ≤ 17592186044415) (vf : Value) (nm : ByteArray) (ar : Int) (vl vout vorg vlo vk : Value) (out : List (Int × Int)) (org : List Int) (o : Int) (w : World)
    (hC : CodeAt w E Bd (.slice pt ts.length ct) vf nm ar vl (.slice (some ⟨bp, op, none⟩) np cp) vout vorg vlo vk out org) (hT : TextsAt w B pt ts) (hB : B ≤ w.heap.size) (ho : out.length ≤ 1000000000000) (hg : org.length ≤ 1000000000000) (hat : at_ < np) (hnp : np ≤ 17592186044415)
    (h3 : w.cell? ⟨b3, 0, none⟩ = some (.int .i64 o)) (h4 : w.cell? ⟨b4, 0, none⟩ = some (.func (.func 71) #[] #[.pointer (some ⟨bc, 0, none⟩)])) (hc : w.cell? ⟨bc, 0, none⟩ = some (.pointer (some ⟨Bd, 0, none⟩))) (hn : w.cell? ⟨bp, op + at_ * 3 + 1, none⟩ = some (.int .i64 nn))
    (l3 : Bd < b3 ∧ b3 < E) (l4 : Bd < b4 ∧ b4 < E) (lc : Bd < bc ∧ bc < E) (lp : bp < Bd) :
    Calls Try.prog 68 #[.iface 110 (.pointer (some ⟨Bd, 0, none⟩)), .int .i64 at_, .pointer (some ⟨b3, 0, none⟩), .pointer (some ⟨b4, 0, none⟩), .pointer (some ⟨bc, 0, none⟩)] w (EmitPost w E Bd (.slice pt ts.length ct) vf nm ar vl (.slice (some ⟨bp, op, none⟩) np cp) vout vorg vlo vk out org at_ o (bytesTo ts nn)) := by
  have hm := method_emit ⟨Bd, 0, none⟩
  have hni := nil_emit ⟨Bd, 0, none⟩
  have EM := Lib.hid (fun (w' : World) (g : w.grownBy w' none) => emit_any E Bd (.slice pt ts.length ct) vf nm ar vl (.slice (some ⟨bp, op, none⟩) np cp) vout vorg vlo vk out org at_ o (bytesTo ts nn) w' (code_kept hC g) ho hg)
  have hd : w.cell? ⟨Bd, 5, none⟩ = some (.slice (some ⟨bp, op, none⟩) np cp) := code_cell hC 5
  have hd0 : w.cell? ⟨Bd, 0, none⟩ = some (.slice pt ts.length ct) := code_cell hC 0
  have AT := Lib.hid (at_any bc Bd B ct nn pt ts hn0 hts hct hct2 hwf w.drew hc hd0 (textsAt_kept hT (grownBy_drew (grownBy_refl w none)) (by simp)) hB)
  have hlt := hC.lt
  have hle := hC.le
  have q1 : b3 < w.heap.size := by omega
  have q2 : b4 < w.heap.size := by omega
  have q3 : bc < w.heap.size := by omega
  have q4 : Bd < w.heap.size := by omega
  have q5 : bp < w.heap.size := by omega
  have hai : (at_ : Int) < (np : Int) := by omega
  have CC := Lib.hid hC
  clear hC hT hd0 hwf
  go_enter Try.func68, Try.ntmps68
  go_wp2
  go_region_held3 (fun W' => W'.cell? ⟨b3, 0, none⟩ = some (.int .i64 o) ∧ W'.cell? ⟨b4, 0, none⟩ = some (.func (.func 71) #[] #[.pointer (some ⟨bc, 0, none⟩)]) ∧ W'.cell? ⟨bc, 0, none⟩ = some (.pointer (some ⟨Bd, 0, none⟩)) ∧ W'.cell? ⟨Bd, 5, none⟩ = some (.slice (some ⟨bp, op, none⟩) np cp) ∧ W'.cell? ⟨bp, op + at_ * 3 + 1, none⟩ = some (.int .i64 nn) ∧ b3 < W'.heap.size ∧ b4 < W'.heap.size ∧ bc < W'.heap.size ∧ Bd < W'.heap.size ∧ bp < W'.heap.size) (first | exact ⟨by assumption, by assumption, by assumption, by assumption, by assumption, by assumption, by assumption, by assumption, by assumption, by assumption⟩ | assumption) (first | (go_at_call 71; refine AT.out.mono ?_; rintro e w1 ⟨rfl, hg1⟩; have G1 := Lib.hid hg1; have K1 := keep_none (w := w) (grownBy_trans (grownBy_drew (grownBy_refl w none)) hg1) h3 h4 hc hd hn q1 q2 q3 q4 q5; have K1c := K1.1; clear hg1) | (go_at_call 44; refine (EM.out _ (grownBy_trans (grownBy_drew (grownBy_refl w none)) G1.out)).mono ?_; intro e w2 hp; obtain ⟨rfl, hsp, vo, vg, hC2, hrow⟩ := hp; have S2 := Lib.hid hsp; have C2 := Lib.hid hC2; have R2 := Lib.hid hrow; have K2 := keep_emit (code_kept CC.out (grownBy_trans (grownBy_drew (grownBy_refl w none)) G1.out)) hsp hC2 K1.1 K1.2.1 K1.2.2.1 K1.2.2.2.2.1 l3 l4 lc lp; clear hsp hC2 hrow))
  all_goals
    go_wp2
    go_ret
    exact ⟨rfl, sp_trans (sp_grown (grownBy_trans (grownBy_drew (grownBy_refl w none)) G1.out) (by simp)) S2.out (fun k _ h => h), vo, vg, C2.out, fun k hk hp => R2.out k (Nat.lt_of_lt_of_le hk G1.out.size) hp⟩

end Go.Proofs.Ytecaolkbllbokaa.TG

namespace Go.Proofs.Ytecaolkbllbokaa.TG
open Go.RowKit Go.Great
set_option linter.unusedSimpArgs false
set_option linter.unusedVariables false

/-- The instruction at j goes there. -/
def setA (out : List (Int × Int)) (j : Nat) (v : Int) : List (Int × Int) := out.set j ((out.getD j (0, 0)).1, v)

theorem setA_length (out : List (Int × Int)) (j : Nat) (v : Int) : (setA out j v).length = out.length := by unfold setA; simp

theorem flat2_setA : ∀ (out : List (Int × Int)) (j : Nat) (v : Int), j < out.length → (flat2 out).set (j * 2 + 1) (.int .i64 v) = flat2 (setA out j v)
  | [], j, v, h => absurd h (by simp)
  | x :: r, 0, v, h => by simp [flat2, setA]
  | x :: r, j + 1, v, h => by
    have ih := flat2_setA r j v (by simpa using h)
    have e : (j + 1) * 2 + 1 = (j * 2 + 1) + 1 + 1 := by omega
    rw [e]
    have e2 : setA (x :: r) (j + 1) v = x :: setA r j v := by simp [setA]
    rw [e2]
    simp only [flat2, List.set_cons_succ]
    rw [ih]

theorem code_setA {w : World} {E Bd g n k : Nat} {vt vf : Value} {nm : ByteArray} {ar : Int} {vl vp vorg vlo vk : Value} {out : List (Int × Int)} {org : List Int} (hC : CodeAt w E Bd vt vf nm ar vl vp (.slice (some ⟨g, 0, none⟩) n k) vorg vlo vk out org) (hn : n = out.length) (j : Nat) (hj : j < out.length) (v : Int) :
    CodeAt (w.setCell ⟨g, j * 2 + 1, none⟩ (.int .i64 v)) E Bd vt vf nm ar vl vp (.slice (some ⟨g, 0, none⟩) n k) vorg vlo vk (setA out j v) org ∧ Sp (EmitP Bd (.slice (some ⟨g, 0, none⟩) n k) vorg) w (w.setCell ⟨g, j * 2 + 1, none⟩ (.int .i64 v)) := by
  subst hn
  have hg := (hC.out.lt g rfl).1
  have hlt := hC.lt
  have hst := hC.out.stored (j * 2 + 1) (.int .i64 v)
  refine ⟨⟨?_, ?_, ?_, hC.lt, by rw [World.size_setCell]; exact hC.le⟩, sp_grown hst.2 ?_⟩
  · rw [heap_setCell_other w _ Bd _ (by simp; omega)]; exact hC.box
  · rw [setA_length, ← flat2_setA out j v hj]; exact hst.1
  · exact hC.org.kept hst.2 (own_other hC.org hC.out (by decide))
  · intro k' _ e; injection e with e; subst e; exact Or.inr (Or.inl rfl)

set_option maxRecDepth 100000 in
set_option maxHeartbeats 4000000 in
theorem mark_any (E Bd bj j : Nat) (vt vf : Value) (nm : ByteArray) (ar : Int) (vl vp vout vorg vlo vk : Value) (out : List (Int × Int)) (org : List Int) (w : World) (hj : j < out.length) (ho : out.length ≤ 1000000000000)
    (hC : CodeAt w E Bd vt vf nm ar vl vp vout vorg vlo vk out org) (hc : w.cell? ⟨bj, 0, none⟩ = some (.int .i64 j)) :
    Calls Try.prog 97 #[.pointer (some ⟨Bd, 0, none⟩), .slice (some ⟨bj, 0, none⟩) 1 1] w fun e w' => (∃ v, e = .returned v) ∧ Sp (EmitP Bd vout vorg) w w' ∧ CodeAt w' E Bd vt vf nm ar vl vp vout vorg vlo vk (setA out j out.length) org := by
  obtain ⟨m, hm⟩ : ∃ m, out.length = m + 1 := ⟨out.length - 1, by omega⟩
  obtain ⟨g, k, rfl⟩ := own_succ (n := m) (by rw [← hm]; exact hC.out)
  have hlast := code_setA (w := w) hC hm.symm j hj out.length
  have CC := Lib.hid hC
  have c6 : w.cell? ⟨Bd, 6, none⟩ = some (.slice (some ⟨g, 0, none⟩) (m + 1) k) := code_cell hC 6
  have hBd : Bd < w.heap.size := Nat.lt_of_lt_of_le hC.lt hC.le
  have hbj := World.block_lt_of_cell? _ _ hc
  have hg := (hC.out.lt g rfl).2
  have hown := hC.out
  rw [hm] at hown
  have hcell : ∃ x, w.cell? ⟨g, j * 2 + 1, none⟩ = some x := by
    have := hown.cellAt (j * 2 + 1) (by omega)
    rw [this]
    exact ⟨_, List.getElem?_eq_getElem (by rw [flat2_length]; omega)⟩
  obtain ⟨x, hx⟩ := hcell
  have hz : w.frozen? ⟨g, j * 2 + 1, none⟩ = false := hown.frozenAt _
  rw [hm] at hlast
  have HL := Lib.hid hlast
  have hji : (j : Int) < ((m + 1 : Nat) : Int) := by omega
  clear hC hown hlast
  go_enter Try.func97, Try.ntmps97
  go_wp2
  go_loopw [8] (fun i wr => (i = .int .i64 0 ∧ wr = w) ∨ (i = .int .i64 1 ∧ Sp (EmitP Bd (.slice (some ⟨g, 0, none⟩) (m + 1) k) vorg) w wr ∧ CodeAt wr E Bd vt vf nm ar vl vp (.slice (some ⟨g, 0, none⟩) (m + 1) k) vorg vlo vk (setA out j ((m + 1 : Nat) : Int)) org)) (fun i _ => 1 - (intOf i).toNat)
  case atStart => exact Or.inl ⟨rfl, rfl⟩
  case round =>
    rcases hrel with ⟨rfl, rfl⟩ | ⟨rfl, hs, hc2⟩
    · go_wp2
      go_region
      go_wp2
      refine ⟨Or.inr ⟨by go_num, ?_, ?_⟩, by simp [intOf]⟩
      · exact sp_trans HL.out.2 (sp_grown (P := EmitP Bd (.slice (some ⟨g, 0, none⟩) (m + 1) k) vorg) (grownBy_drew (grownBy_refl _ none)) (by simp)) (fun _ _ h => h)
      · exact code_kept HL.out.1 (grownBy_drew (grownBy_refl _ none))
    · rw [← hm] at hc2
      have HS := Lib.hid hs
      have HC2 := Lib.hid hc2
      clear hs hc2
      go_wp2
      refine bodyPost_end0 rfl rfl ?_
      rw [hm]
      rw [hm] at HC2
      exact ⟨⟨_, rfl⟩, HS.out, HC2.out⟩

end Go.Proofs.Ytecaolkbllbokaa.TG

namespace Go.Proofs.Ytecaolkbllbokaa.TG
open Go.RowKit Go.Great
set_option linter.unusedSimpArgs false
set_option linter.unusedVariables false

set_option maxRecDepth 100000 in
set_option maxHeartbeats 4000000 in
theorem fill_any (E Bd bx bj j : Nat) (place : Int) (vt vf : Value) (nm : ByteArray) (ar : Int) (vl vp vout vorg vlo vk : Value) (out : List (Int × Int)) (org : List Int) (w : World) (hj : j < out.length) (ho : out.length ≤ 1000000000000)
    (hC : CodeAt w E Bd vt vf nm ar vl vp vout vorg vlo vk out org) (hx0 : w.cell? ⟨bx, 0, none⟩ = some (.pointer (some ⟨Bd, 0, none⟩))) (hc : w.cell? ⟨bj, 0, none⟩ = some (.int .i64 j)) :
    Calls Try.prog 98 #[.int .i64 place, .pointer (some ⟨bx, 0, none⟩), .pointer (some ⟨bj, 0, none⟩)] w fun e w' => (∃ v, e = .returned v) ∧ Sp (EmitP Bd vout vorg) w w' ∧ CodeAt w' E Bd vt vf nm ar vl vp vout vorg vlo vk (setA out j place) org := by
  obtain ⟨m, hm⟩ : ∃ m, out.length = m + 1 := ⟨out.length - 1, by omega⟩
  obtain ⟨g, k, rfl⟩ := own_succ (n := m) (by rw [← hm]; exact hC.out)
  have hlast := code_setA (w := w) hC hm.symm j hj place
  have c6 : w.cell? ⟨Bd, 6, none⟩ = some (.slice (some ⟨g, 0, none⟩) (m + 1) k) := code_cell hC 6
  have hBd : Bd < w.heap.size := Nat.lt_of_lt_of_le hC.lt hC.le
  have hbj := World.block_lt_of_cell? _ _ hc
  have hbx := World.block_lt_of_cell? _ _ hx0
  have hg := (hC.out.lt g rfl).2
  have hown := hC.out
  rw [hm] at hown
  have hcell : ∃ x, w.cell? ⟨g, j * 2 + 1, none⟩ = some x := by
    have := hown.cellAt (j * 2 + 1) (by omega)
    rw [this]
    exact ⟨_, List.getElem?_eq_getElem (by rw [flat2_length]; omega)⟩
  obtain ⟨x, hx⟩ := hcell
  have hz : w.frozen? ⟨g, j * 2 + 1, none⟩ = false := hown.frozenAt _
  have HL := Lib.hid hlast
  have hji : (j : Int) < ((m + 1 : Nat) : Int) := by omega
  clear hC hown hlast
  go_enter Try.func98, Try.ntmps98
  go_wp2
  go_region
  go_wp2
  refine bodyPost_end0 rfl rfl ?_
  refine ⟨⟨_, rfl⟩, ?_, ?_⟩
  · exact sp_trans HL.out.2 (sp_grown (P := EmitP Bd (.slice (some ⟨g, 0, none⟩) (m + 1) k) vorg) (grownBy_drew (grownBy_refl _ none)) (by simp)) (fun _ _ h => h)
  · exact code_kept HL.out.1 (grownBy_drew (grownBy_refl _ none))

end Go.Proofs.Ytecaolkbllbokaa.TG

namespace Go.Proofs.Ytecaolkbllbokaa.TG
open Go.RowKit Go.Great
set_option linter.unusedSimpArgs false
set_option linter.unusedVariables false

/-- What a part's code is: instructions, origins, the next part, and the breaks' jumps (how many loops further out, where). -/
structure Cg where
  code : List (Int × Int)
  org : List Int
  next : Nat
  pend : List (Nat × Nat)

def kidsG (F : Nat → Nat → Cg) : Nat → Nat → Nat → Cg
  | 0, _, a => ⟨[], [], a, []⟩
  | n + 1, b, a =>
    ⟨(F b a).code ++ (kidsG F n (b + (F b a).code.length) (F b a).next).code, (F b a).org ++ (kidsG F n (b + (F b a).code.length) (F b a).next).org,
      (kidsG F n (b + (F b a).code.length) (F b a).next).next, (F b a).pend ++ (kidsG F n (b + (F b a).code.length) (F b a).next).pend⟩

/-- What stands behind a part's kids. -/
def finG (ts : List (ByteArray × List Int)) (k n : Int) : List (Int × Int) :=
  if k = 14 then [(3, bytesTo ts n.toNat)] else if k = 15 then [(3, ((ts.getD n.toNat (ByteArray.empty, [])).2.length : Int))]
  else if k = 21 then [(6, 0), (n, 0)] else if k = 22 then [(3, 0), (31, 0)] else finE k n

/-- The breaks' jumps of the innermost loop are filled; b: where the block's code begins. -/
def fillG (b : Nat) (code : List (Int × Int)) (e : Int) : List (Nat × Nat) → List (Int × Int)
  | [] => code
  | (0, p) :: r => fillG b (setA code (p - b) e) e r
  | (_ + 1, _) :: r => fillG b code e r
def outG (pend : List (Nat × Nat)) : List (Nat × Nat) := pend.filterMap fun x => if x.1 = 0 then none else some (x.1 - 1, x.2)

def ifG (F : Nat → Nat → Cg) (kc : Int) (b a : Nat) : Cg :=
  let x := F b (a + 1)
  let y := F (b + x.code.length + 1) x.next
  if kc = 2 then ⟨x.code ++ [(15, ((b + x.code.length + 1 + y.code.length : Nat) : Int))] ++ y.code, x.org ++ [(a : Int)] ++ y.org, y.next, x.pend ++ y.pend⟩
  else
    let z := F (b + x.code.length + 1 + y.code.length + 1) y.next
    ⟨x.code ++ [(15, ((b + x.code.length + 1 + y.code.length + 1 : Nat) : Int))] ++ y.code ++ [(14, ((b + x.code.length + 1 + y.code.length + 1 + z.code.length : Nat) : Int))] ++ z.code,
      x.org ++ [(a : Int)] ++ y.org ++ [(a : Int)] ++ z.org, z.next, x.pend ++ y.pend ++ z.pend⟩

def whileG (F F' : Nat → Nat → Cg) (b a : Nat) : Cg :=
  let x := F b (a + 1)
  let y := F' (b + x.code.length + 1) x.next
  let e := ((b + x.code.length + 1 + y.code.length + 1 : Nat) : Int)
  ⟨x.code ++ [(15, e)] ++ fillG (b + x.code.length + 1) y.code e y.pend ++ [(14, (b : Int))], x.org ++ [(a : Int)] ++ y.org ++ [(a : Int)], y.next, x.pend ++ outG y.pend⟩

def eitherG (F : Nat → Nat → Cg) (jump alone : Int) (b a : Nat) : Cg :=
  let x := F b (a + 1)
  let y := F (b + x.code.length + 1) x.next
  let p := b + x.code.length + 1 + y.code.length + 4
  ⟨x.code ++ [(jump, ((p + 1 : Nat) : Int))] ++ y.code ++ [(3, 0), (31, 0), (3, 0), (31, 0)] ++ [(14, ((p + 2 : Nat) : Int))] ++ [(3, alone)], x.org ++ [(a : Int)] ++ y.org ++ [(a : Int), (a : Int), (a : Int), (a : Int), (a : Int), (a : Int)], y.next, x.pend ++ y.pend⟩

/-- The code of a part with all of its own; bs: where the loops around begin, the innermost first. -/
def codeG (ts : List (ByteArray × List Int)) (ps : List (Int × Int × Int)) : Nat → List Nat → Nat → Nat → Cg
  | 0, _, _, a => ⟨[], [], a, []⟩
  | g + 1, bs, b, a =>
    match ps[a]? with
    | none => ⟨[], [], a, []⟩
    | some (k, n, kc) =>
      if k = 5 then ifG (codeG ts ps g bs) kc b a
      else if k = 6 then whileG (codeG ts ps g bs) (codeG ts ps g (b :: bs)) b a
      else if k = 7 ∨ k = 8 then ⟨[(14, ((bs.getD n.toNat 0 : Nat) : Int))], [(a : Int)], a + 1, if k = 7 then [(n.toNat, b)] else []⟩
      else if k = 23 then eitherG (codeG ts ps g bs) 15 0 b a
      else if k = 24 then eitherG (codeG ts ps g bs) 16 1 b a
      else ⟨(kidsG (codeG ts ps g bs) kc.toNat b (a + 1)).code ++ finG ts k n, (kidsG (codeG ts ps g bs) kc.toNat b (a + 1)).org ++ (finG ts k n).map (fun _ => (a : Int)),
        (kidsG (codeG ts ps g bs) kc.toNat b (a + 1)).next, (kidsG (codeG ts ps g bs) kc.toNat b (a + 1)).pend⟩

end Go.Proofs.Ytecaolkbllbokaa.TG

namespace Go.Proofs.Ytecaolkbllbokaa.TG
open Go.RowKit Go.Great
set_option linter.unusedSimpArgs false
set_option linter.unusedVariables false

/-- What is written: instructions, origins, the loops around (innermost first: where it begins, the breaks' jumps). -/
structure PS where
  out : List (Int × Int)
  org : List Int
  V : List (Nat × List Nat)

def PS.emit (s : PS) (a : Nat) (x : Int × Int) : PS := ⟨s.out ++ [x], s.org ++ [(a : Int)], s.V⟩
def PS.mark (s : PS) (j : Nat) : PS := ⟨setA s.out j s.out.length, s.org, s.V⟩
def PS.marks : PS → List Nat → PS
  | s, [] => s
  | s, j :: r => PS.marks (s.mark j) r
def PS.emits : PS → Nat → List (Int × Int) → PS
  | s, _, [] => s
  | s, a, x :: r => PS.emits (s.emit a x) a r
def PS.push (s : PS) (b : Nat) : PS := ⟨s.out, s.org, (b, []) :: s.V⟩
def PS.pop (s : PS) : PS := ⟨s.out, s.org, s.V.tail⟩
def PS.note (s : PS) (n j : Nat) : PS := ⟨s.out, s.org, s.V.set n ((s.V.getD n (0, [])).1, (s.V.getD n (0, [])).2 ++ [j])⟩

abbrev Fw := PS → Nat → PS × Nat

def branchP (F : Fw) (kc : Int) (s : PS) (a : Nat) : PS × Nat :=
  if kc = 2 then ((F ((F s (a + 1)).1.emit a (15, 0)) (F s (a + 1)).2).1.mark (F s (a + 1)).1.out.length, (F ((F s (a + 1)).1.emit a (15, 0)) (F s (a + 1)).2).2)
  else
    ((F (((F ((F s (a + 1)).1.emit a (15, 0)) (F s (a + 1)).2).1.emit a (14, 0)).mark (F s (a + 1)).1.out.length) (F ((F s (a + 1)).1.emit a (15, 0)) (F s (a + 1)).2).2).1.mark (F ((F s (a + 1)).1.emit a (15, 0)) (F s (a + 1)).2).1.out.length,
      (F (((F ((F s (a + 1)).1.emit a (15, 0)) (F s (a + 1)).2).1.emit a (14, 0)).mark (F s (a + 1)).1.out.length) (F ((F s (a + 1)).1.emit a (15, 0)) (F s (a + 1)).2).2).2)

/-- The loop's end: its block is written, s: what was ahead, x: behind the condition, y: behind the block. -/
def endP (b j : Nat) (a : Nat) (y : PS) : PS := PS.marks ((y.emit a (14, (b : Int))).mark j).pop (y.V.getD 0 (0, [])).2

def whileP (F : Fw) (s : PS) (a : Nat) : PS × Nat :=
  (endP s.out.length (F s (a + 1)).1.out.length a (F (((F s (a + 1)).1.emit a (15, 0)).push s.out.length) (F s (a + 1)).2).1, (F (((F s (a + 1)).1.emit a (15, 0)).push s.out.length) (F s (a + 1)).2).2)

def leaveP (k : Int) (n : Nat) (s : PS) (a : Nat) : PS × Nat :=
  (if k = 7 then (s.emit a (14, ((s.V.getD n (0, [])).1 : Int))).note n s.out.length else s.emit a (14, ((s.V.getD n (0, [])).1 : Int)), a + 1)

/-- Behind the second kid of PAnd, POr; j: the first one's jump. -/
def tailP (alone : Int) (j a : Nat) (y : PS) : PS :=
  ((((PS.emits y a [(3, 0), (31, 0), (3, 0), (31, 0)]).emit a (14, 0)).mark j).emit a (3, alone)).mark (PS.emits y a [(3, 0), (31, 0), (3, 0), (31, 0)]).out.length

def eitherP (F : Fw) (jump alone : Int) (s : PS) (a : Nat) : PS × Nat :=
  (tailP alone (F s (a + 1)).1.out.length a (F ((F s (a + 1)).1.emit a (jump, 0)) (F s (a + 1)).2).1, (F ((F s (a + 1)).1.emit a (jump, 0)) (F s (a + 1)).2).2)

def kidsP (F : Fw) : Nat → PS → Nat → PS × Nat
  | 0, s, a => (s, a)
  | n + 1, s, a => kidsP F n (F s a).1 (F s a).2

def writeP (ts : List (ByteArray × List Int)) (ps : List (Int × Int × Int)) : Nat → PS → Nat → PS × Nat
  | 0, s, a => (s, a)
  | g + 1, s, a =>
    match ps[a]? with
    | none => (s, a)
    | some (k, n, kc) =>
      if k = 5 then branchP (writeP ts ps g) kc s a
      else if k = 6 then whileP (writeP ts ps g) s a
      else if k = 7 ∨ k = 8 then leaveP k n.toNat s a
      else if k = 23 then eitherP (writeP ts ps g) 15 0 s a
      else if k = 24 then eitherP (writeP ts ps g) 16 1 s a
      else (PS.emits (kidsP (writeP ts ps g) kc.toNat s (a + 1)).1 a (finG ts k n), (kidsP (writeP ts ps g) kc.toNat s (a + 1)).2)

/-- Which part comes behind. -/
def kidsS (S : Nat → Nat) : Nat → Nat → Nat
  | 0, a => a
  | n + 1, a => kidsS S n (S a)
def skipS (ps : List (Int × Int × Int)) : Nat → Nat → Nat
  | 0, a => a
  | g + 1, a => match ps[a]? with
    | none => a
    | some (_, _, kc) => kidsS (skipS ps g) kc.toNat (a + 1)

/-- What must hold of a part by itself. -/
structure WellK (nt m : Nat) (k n kc : Int) : Prop where
  m1 : m ≤ 1000
  k1 : 1 ≤ k
  k2 : k ≤ 26
  i : k = 5 → kc = 2 ∨ kc = 3
  w : k = 6 ∨ k = 23 ∨ k = 24 → kc = 2
  l : k = 7 ∨ k = 8 → kc = 0 ∧ 0 ≤ n ∧ n < m
  t : k = 14 ∨ k = 15 → 0 ≤ n ∧ n < nt

def kidsO (O : Nat → Prop) (S : Nat → Nat) : Nat → Nat → Prop
  | 0, _ => True
  | n + 1, a => O a ∧ kidsO O S n (S a)

/-- The part is there with all of its own, and right; m: how many loops are around. -/
def okP (nt : Nat) (ps : List (Int × Int × Int)) : Nat → Nat → Nat → Prop
  | 0, _, _ => False
  | g + 1, m, a => ∃ k n kc, ps[a]? = some (k, n, kc) ∧ WellK nt m k n kc ∧ (if k = 6 then okP nt ps g m (a + 1) ∧ okP nt ps g (m + 1) (skipS ps g (a + 1)) else kidsO (okP nt ps g m) (skipS ps g) kc.toNat (a + 1))

/-- What always holds of it. -/
structure PSI (s : PS) : Prop where
  ol : s.org.length = s.out.length
  js : ∀ x ∈ s.V, ∀ j ∈ x.2, j < s.out.length
  jc : ∀ x ∈ s.V, x.2.length ≤ s.out.length

structure Grows (s s' : PS) (n : Nat) : Prop where
  lo : s.out.length ≤ s'.out.length
  hi : s'.out.length ≤ s.out.length + n
  inv : PSI s'
  v : s'.V.length = s.V.length

theorem grows_refl {s : PS} (h : PSI s) : Grows s s 0 := ⟨Nat.le_refl _, Nat.le_refl _, h, rfl⟩
theorem grows_trans {s s1 s2 : PS} {n m : Nat} (h : Grows s s1 n) (h2 : Grows s1 s2 m) : Grows s s2 (n + m) :=
  ⟨Nat.le_trans h.lo h2.lo, by have := h.hi; have := h2.hi; omega, h2.inv, h2.v.trans h.v⟩
theorem grows_le {s s1 : PS} {n m : Nat} (h : Grows s s1 n) (hn : n ≤ m) : Grows s s1 m := ⟨h.lo, by have := h.hi; omega, h.inv, h.v⟩
theorem emit_grows {s : PS} (h : PSI s) (a : Nat) (x : Int × Int) : Grows s (s.emit a x) 1 := by
  refine ⟨by simp [PS.emit], by simp [PS.emit], ⟨by simp [PS.emit, h.ol], fun y hy j hj => ?_, fun y hy => ?_⟩, rfl⟩
  · have := h.js y hy j hj
    simp [PS.emit]; omega
  · have := h.jc y hy
    simp [PS.emit]; omega
theorem mark_grows {s : PS} (h : PSI s) (j : Nat) : Grows s (s.mark j) 0 := by
  refine ⟨by simp [PS.mark, setA_length], by simp [PS.mark, setA_length], ⟨by simp [PS.mark, setA_length, h.ol], fun y hy j' hj => ?_, fun y hy => ?_⟩, rfl⟩
  · have := h.js y hy j' hj
    simpa [PS.mark, setA_length] using this
  · have := h.jc y hy
    simpa [PS.mark, setA_length] using this
theorem marks_grows : ∀ (l : List Nat) {s : PS}, PSI s → Grows s (PS.marks s l) 0
  | [], s, h => grows_refl h
  | j :: r, s, h => grows_trans (mark_grows h j) (marks_grows r (mark_grows h j).inv)
theorem emits_grows : ∀ (l : List (Int × Int)) {s : PS} (a : Nat), PSI s → Grows s (PS.emits s a l) l.length
  | [], s, a, h => grows_refl h
  | x :: r, s, a, h => grows_le (grows_trans (emit_grows h a x) (emits_grows r a (emit_grows h a x).inv)) (by simp; omega)
theorem push_inv {s : PS} (h : PSI s) (b : Nat) : PSI (s.push b) := ⟨h.ol, fun y hy j hj => by
  simp only [PS.push, List.mem_cons] at hy
  rcases hy with rfl | hy
  · cases hj
  · exact h.js y hy j hj, fun y hy => by
  simp only [PS.push, List.mem_cons] at hy
  rcases hy with rfl | hy
  · exact Nat.zero_le _
  · exact h.jc y hy⟩
theorem pop_inv {s : PS} (h : PSI s) : PSI s.pop := ⟨h.ol, fun y hy j hj => h.js y (List.mem_of_mem_tail hy) j hj, fun y hy => h.jc y (List.mem_of_mem_tail hy)⟩
theorem note_grows {s : PS} (h : PSI s) (n j : Nat) (hj : j < s.out.length) (hc : (s.V.getD n (0, [])).2.length < s.out.length) : Grows s (s.note n j) 0 := by
  refine ⟨Nat.le_refl _, Nat.le_refl _, ⟨h.ol, fun y hy i hi => ?_, fun y hy => ?_⟩, by simp [PS.note]⟩
  · simp only [PS.note] at hy ⊢
    rcases List.mem_or_eq_of_mem_set hy with hm | rfl
    · exact h.js y hm i hi
    · rcases List.mem_append.1 hi with hi | hi
      · by_cases hn : n < s.V.length
        · simp only [List.getD, List.getElem?_eq_getElem hn, Option.getD_some] at hi
          exact h.js _ (List.getElem_mem hn) i hi
        · simp [List.getD, List.getElem?_eq_none (by omega : s.V.length ≤ n)] at hi
      · simp at hi; omega
  · simp only [PS.note] at hy ⊢
    rcases List.mem_or_eq_of_mem_set hy with hm | rfl
    · exact h.jc y hm
    · simp only [List.length_append, List.length_cons, List.length_nil]; omega
theorem emit_getD {s : PS} (h : PSI s) (a : Nat) (x : Int × Int) (n : Nat) : ((s.emit a x).V.getD n (0, [])).2.length < (s.emit a x).out.length := by
  have e : (s.emit a x).out.length = s.out.length + 1 := by simp [PS.emit]
  rw [e]
  show (s.V.getD n (0, [])).2.length < _
  by_cases hn : n < s.V.length
  · simp only [List.getD, List.getElem?_eq_getElem hn, Option.getD_some]
    have := h.jc _ (List.getElem_mem hn); omega
  · simp [List.getD, List.getElem?_eq_none (by omega : s.V.length ≤ n)]

/-- A writer of parts that keeps within its bounds. -/
def GoodF (np : Nat) (F : Fw) (O : Nat → Nat → Prop) (S : Nat → Nat) : Prop :=
  ∀ m a s, O m a → PSI s → s.V.length = m → (F s a).2 = S a ∧ a < S a ∧ S a ≤ np ∧ Grows s (F s a).1 (7 * (S a - a))

theorem ite_len {α : Type} {p : Prop} [Decidable p] {a b : List α} {n : Nat} (ha : a.length ≤ n) (hb : b.length ≤ n) : (if p then a else b).length ≤ n := by
  by_cases h : p
  · rw [if_pos h]; exact ha
  · rw [if_neg h]; exact hb
theorem fin_len (ts : List (ByteArray × List Int)) (k n : Int) : (finG ts k n).length ≤ 2 := by
  unfold finG finE
  repeat' apply ite_len
  all_goals simp

theorem branch_good {np : Nat} {F : Fw} {O : Nat → Nat → Prop} {S : Nat → Nat} (hF : GoodF np F O S) {kc : Int} (hk : kc = 2 ∨ kc = 3) {s : PS} {a : Nat} (hs : PSI s) (ho : kidsO (O s.V.length) S kc.toNat (a + 1)) :
    (branchP F kc s a).2 = kidsS S kc.toNat (a + 1) ∧ a < kidsS S kc.toNat (a + 1) ∧ kidsS S kc.toNat (a + 1) ≤ np ∧ Grows s (branchP F kc s a).1 (7 * (kidsS S kc.toNat (a + 1) - a)) := by
  have key : O s.V.length (a + 1) → O s.V.length (S (a + 1)) → ∃ x y : PS × Nat, F s (a + 1) = x ∧ F (x.1.emit a (15, 0)) x.2 = y ∧ x.2 = S (a + 1) ∧ y.2 = S (S (a + 1)) ∧ a + 1 < S (a + 1) ∧ S (a + 1) < S (S (a + 1)) ∧ S (S (a + 1)) ≤ np ∧ Grows s y.1 (7 * (S (S (a + 1)) - (a + 1)) + 1) := by
    intro h1 h2
    have g1 := hF _ _ s h1 hs rfl
    have ge := emit_grows g1.2.2.2.inv a (15, 0)
    have g2 := hF _ (S (a + 1)) ((F s (a + 1)).1.emit a (15, 0)) h2 ge.inv (by rw [ge.v, g1.2.2.2.v])
    rw [← g1.1] at g2
    refine ⟨_, _, rfl, rfl, g1.1, ?_, g1.2.1, ?_, ?_, ?_⟩
    · rw [g2.1, g1.1]
    · have := g2.2.1; rwa [g1.1] at this
    · have := g2.2.2.1; rwa [g1.1] at this
    · refine grows_le (grows_trans (grows_trans g1.2.2.2 ge) g2.2.2.2) ?_
      have := g2.2.1; have := g1.2.1
      rw [g1.1] at *
      omega
  rcases hk with rfl | rfl
  · obtain ⟨h1, h2, -⟩ := ho
    obtain ⟨x, y, e1, e2, ex, ey, l1, l2, l3, gy⟩ := key h1 h2
    have hS : kidsS S (2 : Int).toNat (a + 1) = S (S (a + 1)) := rfl
    rw [hS]
    unfold branchP
    rw [if_pos rfl, e1, e2]
    exact ⟨ey, by omega, l3, grows_le (grows_trans gy (mark_grows gy.inv _)) (by omega)⟩
  · obtain ⟨h1, h2, h3, -⟩ := ho
    obtain ⟨x, y, e1, e2, ex, ey, l1, l2, l3, gy⟩ := key h1 h2
    have hS : kidsS S (3 : Int).toNat (a + 1) = S (S (S (a + 1))) := rfl
    rw [hS]
    unfold branchP
    rw [if_neg (by decide), e1, e2]
    have ge := emit_grows gy.inv a (14, 0)
    have gm := mark_grows ge.inv x.1.out.length
    have g3 := hF _ (S (S (a + 1))) ((y.1.emit a (14, 0)).mark x.1.out.length) h3 gm.inv (by rw [gm.v, ge.v, gy.v])
    rw [← ey] at g3
    refine ⟨by rw [g3.1, ey], ?_, ?_, ?_⟩
    · have := g3.2.1; rw [ey] at this; omega
    · have := g3.2.2.1; rwa [ey] at this
    · have h4 := g3.2.1; have h5 := g3.2.2.2
      refine grows_le (grows_trans (grows_trans (grows_trans (grows_trans gy ge) gm) h5) (mark_grows h5.inv _)) ?_
      rw [ey] at *
      omega

theorem end_grows {y : PS} (h : PSI y) (b j a : Nat) : PSI (endP b j a y) ∧ (endP b j a y).out.length = y.out.length + 1 ∧ (endP b j a y).V.length = y.V.length - 1 := by
  have ge := emit_grows h a (14, (b : Int))
  have gm := mark_grows ge.inv j
  have gp := marks_grows (y.V.getD 0 (0, [])).2 (pop_inv gm.inv)
  refine ⟨gp.inv, ?_, ?_⟩
  · have h1 := gp.lo; have h2 := gp.hi
    have e : ((y.emit a (14, (b : Int))).mark j).pop.out.length = y.out.length + 1 := by simp [PS.pop, PS.mark, setA_length, PS.emit]
    rw [e] at h1 h2
    unfold endP; omega
  · unfold endP
    rw [gp.v]
    simp [PS.pop, PS.mark, PS.emit]

theorem while_good {np : Nat} {F : Fw} {O : Nat → Nat → Prop} {S : Nat → Nat} (hF : GoodF np F O S) {s : PS} {a : Nat} (hs : PSI s) (h1 : O s.V.length (a + 1)) (h2 : O (s.V.length + 1) (S (a + 1))) :
    (whileP F s a).2 = S (S (a + 1)) ∧ a < S (S (a + 1)) ∧ S (S (a + 1)) ≤ np ∧ Grows s (whileP F s a).1 (7 * (S (S (a + 1)) - a)) := by
  have g1 := hF _ _ s h1 hs rfl
  have ge := emit_grows g1.2.2.2.inv a (15, 0)
  have g2 := hF _ (S (a + 1)) (((F s (a + 1)).1.emit a (15, 0)).push s.out.length) h2 (push_inv ge.inv _) (by show ((F s (a + 1)).1.emit a (15, 0)).V.length + 1 = _; rw [ge.v, g1.2.2.2.v])
  rw [← g1.1] at g2
  have g3 := end_grows g2.2.2.2.inv s.out.length (F s (a + 1)).1.out.length a
  unfold whileP
  have h3 := g2.2.1; have h4 := g2.2.2.1; have h5 := g1.2.1
  have h6 := g2.2.2.2.hi; have h7 := g2.2.2.2.lo; have h8 := g1.2.2.2.hi; have h9 := g1.2.2.2.lo
  have e1 : (((F s (a + 1)).1.emit a (15, 0)).push s.out.length).out.length = (F s (a + 1)).1.out.length + 1 := by simp [PS.push, PS.emit]
  rw [e1] at h6 h7
  have h10 := g2.2.2.2.v
  have e2 : (((F s (a + 1)).1.emit a (15, 0)).push s.out.length).V.length = s.V.length + 1 := by
    show ((F s (a + 1)).1.emit a (15, 0)).V.length + 1 = _; rw [ge.v, g1.2.2.2.v]
  rw [e2] at h10
  have eS := g1.1
  refine ⟨?_, ?_, ?_, ⟨?_, ?_, g3.1, ?_⟩⟩
  · show (F _ _).2 = _; rw [g2.1, g1.1]
  · rw [eS] at h3; omega
  · rw [eS] at h4; exact h4
  · show _ ≤ (endP _ _ _ _).out.length; rw [g3.2.1]; omega
  · show (endP _ _ _ _).out.length ≤ _
    rw [g3.2.1]; rw [eS] at h3 h4 h6 h7 ⊢; omega
  · show (endP _ _ _ _).V.length = _; rw [g3.2.2, h10]; omega

theorem either_good {np : Nat} {F : Fw} {O : Nat → Nat → Prop} {S : Nat → Nat} (hF : GoodF np F O S) (jump alone : Int) {s : PS} {a : Nat} (hs : PSI s) (h1 : O s.V.length (a + 1)) (h2 : O s.V.length (S (a + 1))) :
    (eitherP F jump alone s a).2 = S (S (a + 1)) ∧ a < S (S (a + 1)) ∧ S (S (a + 1)) ≤ np ∧ Grows s (eitherP F jump alone s a).1 (7 * (S (S (a + 1)) - a)) := by
  have g1 := hF _ _ s h1 hs rfl
  have ge := emit_grows g1.2.2.2.inv a (jump, 0)
  have g2 := hF _ (S (a + 1)) ((F s (a + 1)).1.emit a (jump, 0)) h2 ge.inv (by rw [ge.v, g1.2.2.2.v])
  rw [← g1.1] at g2
  unfold eitherP
  have h3 := g2.2.1; have h4 := g2.2.2.1; have h5 := g1.2.1
  have g3 := emits_grows [(3, 0), (31, 0), (3, 0), (31, 0)] a g2.2.2.2.inv
  have g4 := emit_grows g3.inv a (14, 0)
  have g5 := mark_grows g4.inv (F s (a + 1)).1.out.length
  have g6 := emit_grows g5.inv a (3, alone)
  have g7 := mark_grows g6.inv (PS.emits (F ((F s (a + 1)).1.emit a (jump, 0)) (F s (a + 1)).2).1 a [(3, 0), (31, 0), (3, 0), (31, 0)]).out.length
  have gg := grows_trans (grows_trans (grows_trans (grows_trans (grows_trans (grows_trans (grows_trans g1.2.2.2 ge) g2.2.2.2) g3) g4) g5) g6) g7
  have eS := g1.1
  refine ⟨?_, ?_, ?_, grows_le gg ?_⟩
  · show (F _ _).2 = _; rw [g2.1, g1.1]
  · rw [eS] at h3; omega
  · rw [eS] at h4; exact h4
  · rw [eS] at h3 h4 ⊢; simp only [List.length_cons, List.length_nil]; omega

theorem kids_good {np : Nat} {F : Fw} {O : Nat → Nat → Prop} {S : Nat → Nat} (hF : GoodF np F O S) : ∀ (n : Nat) {s : PS} {a : Nat}, PSI s → a ≤ np → kidsO (O s.V.length) S n a →
    (kidsP F n s a).2 = kidsS S n a ∧ a + n ≤ kidsS S n a ∧ kidsS S n a ≤ np ∧ Grows s (kidsP F n s a).1 (7 * (kidsS S n a - a))
  | 0, s, a, hs, ha, _ => by unfold kidsP kidsS; exact ⟨rfl, by omega, ha, grows_le (grows_refl hs) (by omega)⟩
  | n + 1, s, a, hs, ha, ho => by
    obtain ⟨h1, h2⟩ := ho
    have g1 := hF _ _ s h1 hs rfl
    have g2 := kids_good hF n (s := (F s a).1) (a := S a) g1.2.2.2.inv g1.2.2.1 (by rw [g1.2.2.2.v]; exact h2)
    rw [← g1.1] at g2
    unfold kidsP kidsS
    have h3 := g2.2.1; have h4 := g2.2.2.1; have h5 := g1.2.1
    rw [g1.1] at h3 h4
    refine ⟨by rw [g2.1, g1.1], by omega, h4, grows_le (grows_trans g1.2.2.2 g2.2.2.2) ?_⟩
    rw [g1.1]; omega

theorem write_good (ts : List (ByteArray × List Int)) (ps : List (Int × Int × Int)) : ∀ g, GoodF ps.length (writeP ts ps g) (okP ts.length ps g) (skipS ps g)
  | 0 => fun m a s h _ _ => h.elim
  | g + 1 => fun m a s h hs hm => by
    subst hm
    obtain ⟨k, n, kc, hp, hw, ho⟩ := h
    have hlt : a < ps.length := (List.getElem?_eq_some_iff.1 hp).1
    have IH := write_good ts ps g
    have eS : skipS ps (g + 1) a = kidsS (skipS ps g) kc.toNat (a + 1) := by rw [skipS, hp]
    rw [eS]
    unfold writeP
    rw [hp]
    by_cases h5 : k = 5
    · rw [if_neg (by omega)] at ho
      simp only [if_pos h5]
      exact branch_good IH (hw.i h5) hs ho
    by_cases h6 : k = 6
    · rw [if_pos h6] at ho
      have e2 : kc = 2 := hw.w (Or.inl h6)
      subst e2
      simp only [if_neg h5, if_pos h6]
      exact while_good IH hs ho.1 ho.2
    rw [if_neg h6] at ho
    by_cases h7 : k = 7 ∨ k = 8
    · simp only [if_neg h5, if_neg h6, if_pos h7]
      obtain ⟨e0, hn0, hnm⟩ := hw.l h7
      subst e0
      have ge := emit_grows hs a (14, ((s.V.getD n.toNat (0, [])).1 : Int))
      have e1 : kidsS (skipS ps g) (0 : Int).toNat (a + 1) = a + 1 := rfl
      rw [e1]
      unfold leaveP
      refine ⟨rfl, by omega, by omega, ?_⟩
      by_cases hk : k = 7
      · simp only [if_pos hk]
        exact grows_le (grows_trans ge (note_grows ge.inv _ _ (by simp [PS.emit]) (emit_getD hs _ _ _))) (by omega)
      · simp only [if_neg hk]
        exact grows_le ge (by omega)
    by_cases h23 : k = 23
    · have e2 : kc = 2 := hw.w (Or.inr (Or.inl h23))
      subst e2
      simp only [if_neg h5, if_neg h6, if_neg h7, if_pos h23]
      exact either_good IH 15 0 hs ho.1 ho.2.1
    by_cases h24 : k = 24
    · have e2 : kc = 2 := hw.w (Or.inr (Or.inr h24))
      subst e2
      simp only [if_neg h5, if_neg h6, if_neg h7, if_neg h23, if_pos h24]
      exact either_good IH 16 1 hs ho.1 ho.2.1
    · simp only [if_neg h5, if_neg h6, if_neg h7, if_neg h23, if_neg h24]
      have g1 := kids_good IH kc.toNat hs (by omega) ho
      have h2 := g1.2.1
      refine ⟨g1.1, by omega, g1.2.2.1, grows_le (grows_trans g1.2.2.2 (emits_grows _ a g1.2.2.2.inv)) ?_⟩
      have := fin_len ts k n
      omega

end Go.Proofs.Ytecaolkbllbokaa.TG

namespace Go.Proofs.Ytecaolkbllbokaa.TG
open Go.RowKit Go.Great
set_option linter.unusedSimpArgs false
set_option linter.unusedVariables false

/-- A loop under way: where it begins, its slice of closures, and each closure's boxes and jump. -/
structure Lp where
  beg : Nat
  ends : Value
  cls : List (Nat × Nat × Nat)

def clsV (x : Nat × Nat × Nat) : Value := .func (.func 98) #[] #[.pointer (some ⟨x.1, 0, none⟩), .pointer (some ⟨x.2.1, 0, none⟩)]
def flatL : List Lp → List Value
  | [] => []
  | l :: r => .int .i64 l.beg :: l.ends :: flatL r
def Lp.abs (l : Lp) : Nat × List Nat := (l.beg, l.cls.map fun x => x.2.2)

structure Stt where
  vout : Value
  vorg : Value
  vlo : Value
  out : List (Int × Int)
  org : List Int
  L : List Lp

def Stt.abs (s : Stt) : PS := ⟨s.out, s.org, (s.L.map Lp.abs).reverse⟩

/-- What stays the same: blocks, the function, the texts, the parts. -/
structure Cx where
  E : Nat
  Bd : Nat
  bc : Nat
  b6 : Nat
  M : Nat
  B : Nat
  cp : Nat
  ct : Nat
  pt : Option Addr
  pp : Option Addr
  vf : Value
  vl : Value
  nm : ByteArray
  ar : Int
  ts : List (ByteArray × List Int)
  ps : List (Int × Int × Int)

structure CxOK (c : Cx) : Prop where
  lB : c.B ≤ c.Bd
  nts : c.ts.length ≤ 1024
  nct : c.ts.length ≤ c.ct
  mct : c.ct ≤ maxLen
  wf : ∀ x ∈ c.ts, x.1.size ≤ maxLen ∧ x.2.length ≤ 17592186044415
  np : c.ps.length ≤ 17592186044415

/-- What write may change. -/
def Cx.P (c : Cx) (s : Stt) (k : Nat) : Prop := EmitP c.Bd s.vout s.vorg k ∨ s.vlo.ownBlock = some k ∨ ∃ l ∈ s.L, l.ends.ownBlock = some k

def Cx.Code (c : Cx) (w : World) (vout vorg vlo : Value) (out : List (Int × Int)) (org : List Int) : Prop :=
  CodeAt w c.E c.Bd (.slice c.pt c.ts.length c.ct) c.vf c.nm c.ar c.vl (.slice c.pp c.ps.length c.cp) vout vorg vlo (.map (some c.M)) out org

structure AtS (c : Cx) (w : World) (s : Stt) : Prop where
  code : CodeAt w c.E c.Bd (.slice c.pt c.ts.length c.ct) c.vf c.nm c.ar c.vl (.slice c.pp c.ps.length c.cp) s.vout s.vorg s.vlo (.map (some c.M)) s.out s.org
  lrow : w.ownsRow c.E 180 2 s.vlo s.L.length (flatL s.L)
  lend : ∀ l ∈ s.L, w.ownsRow c.E 140 1 l.ends l.cls.length (l.cls.map clsV)
  ldis : ∀ (i k : Nat) (l l' : Lp), i ≠ k → s.L[i]? = some l → s.L[k]? = some l' → ∀ b, l.ends.ownBlock = some b → l'.ends.ownBlock ≠ some b
  lbox : ∀ l ∈ s.L, ∀ x ∈ l.cls, (w.cell? ⟨x.1, 0, none⟩ = some (.pointer (some ⟨c.Bd, 0, none⟩)) ∧ ¬ c.P s x.1) ∧ (w.cell? ⟨x.2.1, 0, none⟩ = some (.int .i64 x.2.2) ∧ ¬ c.P s x.2.1)
  inv : PSI s.abs
  pa : PartsB w c.Bd c.pp c.ps
  ki : KindsAt w c.Bd c.E c.bc c.b6 c.M
  tx : TextsAt w c.B c.pt c.ts

/-- From one world and state to another. -/
structure Go (c : Cx) (w : World) (s : Stt) (w' : World) (s' : Stt) : Prop where
  at_ : AtS c w' s'
  sp : Sp (c.P s) w w'
  row : ∀ k, k < w.heap.size → c.P s' k → c.P s k

theorem go_refl {c : Cx} {w : World} {s : Stt} (h : AtS c w s) : Go c w s w s := ⟨h, sp_refl _ _, fun _ _ h => h⟩
theorem go_trans {c : Cx} {w w1 w2 : World} {s s1 s2 : Stt} (h : Go c w s w1 s1) (g : Go c w1 s1 w2 s2) : Go c w s w2 s2 :=
  ⟨g.at_, sp_trans h.sp g.sp fun k hk hp => h.row k hk hp, fun k hk hp => h.row k hk (g.row k (Nat.lt_of_lt_of_le hk h.sp.size) hp)⟩

theorem own_sp {P : Nat → Prop} {w w' : World} {base : Nat} {e : TypeId} {size n : Nat} {v : Value} {xs : List Value} (h : w.ownsRow base e size v n xs) (g : Sp P w w') (hp : ∀ k, v.ownBlock = some k → ¬ P k) : w'.ownsRow base e size v n xs := by
  obtain ⟨h1, h2⟩ := h
  refine ⟨h1, ?_⟩
  rcases h2 with h2 | ⟨g0, cap, cur, rfl, hb, hg, rest⟩
  · exact .inl h2
  · exact .inr ⟨g0, cap, cur, rfl, hb, by rw [g.block g0 (Array.getElem?_eq_some_iff.1 hg).1 (hp g0 rfl)]; exact hg, rest⟩
theorem sp_cell {P : Nat → Prop} {w w' : World} {b o : Nat} {v : Value} (h : w.cell? ⟨b, o, none⟩ = some v) (g : Sp P w w') (hp : ¬ P b) : w'.cell? ⟨b, o, none⟩ = some v := by
  rw [heap_cell (g.block b (World.block_lt_of_cell? _ _ h) hp)]; exact h
theorem own_unlike {w : World} {base : Nat} {e e' : TypeId} {size size' n n' : Nat} {v v' : Value} {xs xs' : List Value} (h : w.ownsRow base e size v n xs) (h' : w.ownsRow base e' size' v' n' xs') (hne : e ≠ e') {k : Nat} (hk : v.ownBlock = some k) : v'.ownBlock ≠ some k := by
  rcases own_other h h' hne with h1 | h1
  · rw [h1] at hk; cases hk
  · rw [hk] at h1; exact fun e => h1 e.symm

theorem lo_not {c : Cx} {w : World} {s : Stt} (h : AtS c w s) {k : Nat} (hk : s.vlo.ownBlock = some k) : ¬ EmitP c.Bd s.vout s.vorg k := by
  have hlt := h.code.lt
  rintro (e | e | e)
  · have := (h.lrow.lt k hk).1; omega
  · exact own_unlike h.lrow h.code.out (by decide) hk e
  · exact own_unlike h.lrow h.code.org (by decide) hk e
theorem end_not {c : Cx} {w : World} {s : Stt} (h : AtS c w s) {l : Lp} (hl : l ∈ s.L) {k : Nat} (hk : l.ends.ownBlock = some k) : ¬ EmitP c.Bd s.vout s.vorg k := by
  have hlt := h.code.lt
  rintro (e | e | e)
  · have := ((h.lend l hl).lt k hk).1; omega
  · exact own_unlike (h.lend l hl) h.code.out (by decide) hk e
  · exact own_unlike (h.lend l hl) h.code.org (by decide) hk e
theorem end_not_lo {c : Cx} {w : World} {s : Stt} (h : AtS c w s) {l : Lp} (hl : l ∈ s.L) {k : Nat} (hk : l.ends.ownBlock = some k) : s.vlo.ownBlock ≠ some k :=
  own_unlike (h.lend l hl) h.lrow (by decide) hk

theorem p_low {c : Cx} {w : World} {s : Stt} (h : AtS c w s) {k : Nat} (hk : c.P s k) : k = c.Bd ∨ (c.E ≤ k ∧ k < w.heap.size) := by
  rcases hk with (e | e | e) | e | ⟨l, hl, e⟩
  · exact Or.inl e
  · exact Or.inr (h.code.out.lt k e)
  · exact Or.inr (h.code.org.lt k e)
  · exact Or.inr (h.lrow.lt k e)
  · exact Or.inr ((h.lend l hl).lt k e)
theorem p_new {c : Cx} {w : World} {s : Stt} (h : AtS c w s) {k : Nat} (hk : w.heap.size ≤ k) : ¬ c.P s k := fun hp => by
  have := h.code.lt; have := h.code.le
  rcases p_low h hp with e | e <;> omega

theorem low_of {c : Cx} {w w' : World} {s : Stt} (h : AtS c w s) (sp : Sp (c.P s) w w') : ∀ k, k < c.E → k ≠ c.Bd → w'.heap[k]? = w.heap[k]? := fun k hk hne =>
  sp.block k (Nat.lt_of_lt_of_le hk h.code.le) fun hp => by rcases p_low h hp with e | e <;> omega

theorem texts_sp {w w' : World} {B : Nat} {p : Option Addr} {ts : List (ByteArray × List Int)} (h : TextsAt w B p ts) (hs : ∀ k, k < B → w'.heap[k]? = w.heap[k]?) : TextsAt w' B p ts := fun h0 => by
  obtain ⟨b, o, e, hb, hc⟩ := h h0
  refine ⟨b, o, e, hb, fun i nm d hi => ?_⟩
  obtain ⟨h1, pd, cd, h2, h3⟩ := hc i nm d hi
  refine ⟨by rw [heap_cell (hs b hb)]; exact h1, pd, cd, by rw [heap_cell (hs b hb)]; exact h2, fun h4 => ?_⟩
  obtain ⟨b', o', e', hb', hc'⟩ := h3 h4
  exact ⟨b', o', e', hb', fun j hj => by rw [heap_cell (hs b' hb')]; exact hc' j hj⟩

theorem rest_of {c : Cx} (ok : CxOK c) {w w' : World} {s : Stt} (h : AtS c w s) (sp : Sp (c.P s) w w') : PartsB w' c.Bd c.pp c.ps ∧ KindsAt w' c.Bd c.E c.bc c.b6 c.M ∧ TextsAt w' c.B c.pt c.ts := by
  have hl := low_of h sp
  have := h.code.lt
  have := ok.lB
  exact ⟨partsB_sp h.pa fun k hk => hl k (by omega) (by omega), kinds_kept h.ki fun k h1 h2 => hl k h2 (by omega), texts_sp h.tx fun k hk => hl k (by omega) (by omega)⟩

theorem sp_emit {c : Cx} {s : Stt} {w w' : World} (h : Sp (EmitP c.Bd s.vout s.vorg) w w') : Sp (c.P s) w w' := sp_weaken h fun _ _ h => Or.inl h

/-- A step that changes the code alone. -/
theorem go_code {c : Cx} (ok : CxOK c) {w w' : World} {s : Stt} (h : AtS c w s) {vo vg : Value} {out' : List (Int × Int)} {org' : List Int} (sp : Sp (EmitP c.Bd s.vout s.vorg) w w')
    (hC : CodeAt w' c.E c.Bd (.slice c.pt c.ts.length c.ct) c.vf c.nm c.ar c.vl (.slice c.pp c.ps.length c.cp) vo vg s.vlo (.map (some c.M)) out' org') (hr : ∀ k, k < w.heap.size → EmitP c.Bd vo vg k → EmitP c.Bd s.vout s.vorg k) (hi : PSI ⟨out', org', s.abs.V⟩) :
    Go c w s w' ⟨vo, vg, s.vlo, out', org', s.L⟩ := by
  obtain ⟨r1, r2, r3⟩ := rest_of ok h (sp_emit sp)
  have hrow : ∀ k, k < w.heap.size → c.P ⟨vo, vg, s.vlo, out', org', s.L⟩ k → c.P s k := fun k hk hp => by
    rcases hp with hp | hp
    · exact Or.inl (hr k hk hp)
    · exact Or.inr hp
  refine ⟨⟨hC, own_sp h.lrow sp fun k hk => lo_not h hk, fun l hl => own_sp (h.lend l hl) sp fun k hk => end_not h hl hk, h.ldis, fun l hl x hx => ?_, hi, r1, r2, r3⟩, sp_emit sp, hrow⟩
  obtain ⟨⟨h1, h2⟩, h3, h4⟩ := h.lbox l hl x hx
  exact ⟨⟨sp_cell h1 sp fun hp => h2 (Or.inl hp), fun hp => h2 (hrow _ (World.block_lt_of_cell? _ _ h1) hp)⟩, sp_cell h3 sp fun hp => h4 (Or.inl hp), fun hp => h4 (hrow _ (World.block_lt_of_cell? _ _ h3) hp)⟩

theorem go_emit {c : Cx} (ok : CxOK c) {w w' : World} {s : Stt} (h : AtS c w s) {a : Nat} {o x : Int} (sp : Sp (EmitP c.Bd s.vout s.vorg) w w')
    (hp : ∃ vo vg, CodeAt w' c.E c.Bd (.slice c.pt c.ts.length c.ct) c.vf c.nm c.ar c.vl (.slice c.pp c.ps.length c.cp) vo vg s.vlo (.map (some c.M)) (s.out ++ [(o, x)]) (s.org ++ [(a : Int)]) ∧ (∀ k, k < w.heap.size → EmitP c.Bd vo vg k → EmitP c.Bd s.vout s.vorg k)) :
    ∃ s', Go c w s w' s' ∧ s'.abs = s.abs.emit a (o, x) ∧ s'.L = s.L ∧ s'.vlo = s.vlo := by
  obtain ⟨vo, vg, hC, hr⟩ := hp
  exact ⟨_, go_code ok h sp hC hr (emit_grows h.inv a (o, x)).inv, rfl, rfl, rfl⟩

theorem go_set {c : Cx} (ok : CxOK c) {w w' : World} {s : Stt} (h : AtS c w s) {j : Nat} {v : Int} (hv : v = s.out.length) (sp : Sp (EmitP c.Bd s.vout s.vorg) w w')
    (hC : CodeAt w' c.E c.Bd (.slice c.pt c.ts.length c.ct) c.vf c.nm c.ar c.vl (.slice c.pp c.ps.length c.cp) s.vout s.vorg s.vlo (.map (some c.M)) (setA s.out j v) s.org) :
    ∃ s', Go c w s w' s' ∧ s'.abs = s.abs.mark j ∧ s'.L = s.L ∧ s'.vlo = s.vlo := by
  subst hv
  exact ⟨_, go_code ok h sp hC (fun _ _ h => h) (mark_grows h.inv j).inv, rfl, rfl, rfl⟩

theorem go_grown {c : Cx} (ok : CxOK c) {w w' : World} {s : Stt} (h : AtS c w s) (g : w.grownBy w' none) : Go c w s w' s :=
  go_code ok h (sp_grown g (by simp)) (code_kept h.code g) (fun _ _ h => h) h.inv
theorem go_alloc {c : Cx} (ok : CxOK c) {w : World} {s : Stt} (h : AtS c w s) (o : Obj) : Go c w s (w.alloc o) s := go_grown ok h (World.grownBy_alloc w o none)

theorem at_size {c : Cx} {w : World} {s : Stt} (h : AtS c w s) : c.Bd < w.heap.size := Nat.lt_of_lt_of_le h.code.lt h.code.le

/-- What a call of write leaves. -/
def WP (c : Cx) (w : World) (s : Stt) (r : PS × Nat) (e : Ending) (w' : World) : Prop := e = .returned (.int .i64 r.2) ∧ ∃ s', Go c w s w' s' ∧ s'.abs = r.1

/-- The contract of write, where it may go g deep. -/
def WCon (c : Cx) (g : Nat) : Prop := ∀ (s : Stt) (at_ : Nat) (w : World), okP c.ts.length c.ps g s.L.length at_ → AtS c w s → s.out.length + 8 * (c.ps.length - at_) + 8 ≤ 1000000000000 →
  Calls Try.prog 43 #[.pointer (some ⟨c.Bd, 0, none⟩), .int .i64 at_] w (WP c w s (writeP c.ts c.ps g s.abs at_))

theorem abs_V {s : Stt} : s.abs.V.length = s.L.length := by simp [Stt.abs]
theorem abs_len {s' : Stt} {p : PS} (h : s'.abs = p) : s'.out.length = p.out.length ∧ s'.L.length = p.V.length := by
  subst h; exact ⟨rfl, abs_V.symm⟩

end Go.Proofs.Ytecaolkbllbokaa.TG
