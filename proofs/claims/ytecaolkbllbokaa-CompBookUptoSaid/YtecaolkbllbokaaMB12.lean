/-
  Walk of the compiler's mark, for one jump. Conditions: as each theorem states.
  Walk of the closure that fills a break's jump. Conditions: as each theorem states.
  The code of any part, as a function: absolute places, the breaks' jumps that are still to be filled. Definitions alone.
  The compiler's write as a plain function on what it has written so far; the bounds of what it writes. Conditions: as each theorem states.
  Where the compiler's write stands: the code's block, the loops around with their closures; what a step of it leaves. Conditions: as each theorem states.
  The contracts of emit, mark and write on where write stands. Conditions: as each theorem states.
  Walk of the compiler's branch. Conditions: as each theorem states.
  What becomes of the loops around: one more, a break's jump noted, the innermost one taken off. Conditions: as each theorem states.
  Walk of the compiler's leave. Conditions: as each theorem states.
-/
import Derived.Test.YtecaolkbllbokaaMB11
import Derived.Laws.OwnMore
import Derived.Deep.QuietTactic
import Derived.BigQuiet
import Derived.Deep.RegionHeld3
import Derived.StillTailTactics
import Derived.Maps.AppendAt
namespace Go.Proofs.Ytecaolkbllbokaa.TG
open Go.RowKit Go.Great
set_option linter.unusedSimpArgs false
set_option linter.unusedVariables false

/-- The instruction at j goes there. -/
def setA (out : List (Int × Int)) (j : Nat) (v : Int) : List (Int × Int) := out.set j ((out.getD j (0, 0)).1, v)

theorem setA_length (out : List (Int × Int)) (j : Nat) (v : Int) : (setA out j v).length = out.length := by unfold setA; simp

theorem flat2_setA : ∀ (out : List (Int × Int)) (j : Nat) (v : Int), j < out.length → (flat2 out).set (j * 2 + 1) (.int .i64 v) = flat2 (setA out j v)
  | [], j, v, h => absurd h (by simp)
  | x :: r, 0, v, h => by simp [flat2, setA]
  | x :: r, j + 1, v, h => by
    have ih := flat2_setA r j v (by simpa using h)
    have e : (j + 1) * 2 + 1 = (j * 2 + 1) + 1 + 1 := by omega
    rw [e]
    have e2 : setA (x :: r) (j + 1) v = x :: setA r j v := by simp [setA]
    rw [e2]
    simp only [flat2, List.set_cons_succ]
    rw [ih]

theorem code_setA {w : World} {E Bd g n k : Nat} {vt vf : Value} {nm : ByteArray} {ar : Int} {vl vp vorg vlo vk : Value} {out : List (Int × Int)} {org : List Int} (hC : CodeAt w E Bd vt vf nm ar vl vp (.slice (some ⟨g, 0, none⟩) n k) vorg vlo vk out org) (hn : n = out.length) (j : Nat) (hj : j < out.length) (v : Int) :
    CodeAt (w.setCell ⟨g, j * 2 + 1, none⟩ (.int .i64 v)) E Bd vt vf nm ar vl vp (.slice (some ⟨g, 0, none⟩) n k) vorg vlo vk (setA out j v) org ∧ Sp (EmitP Bd (.slice (some ⟨g, 0, none⟩) n k) vorg) w (w.setCell ⟨g, j * 2 + 1, none⟩ (.int .i64 v)) := by
  subst hn
  have hg := (hC.out.lt g rfl).1
  have hlt := hC.lt
  have hst := hC.out.stored (j * 2 + 1) (.int .i64 v)
  refine ⟨⟨?_, ?_, ?_, hC.lt, by rw [World.size_setCell]; exact hC.le⟩, sp_grown hst.2 ?_⟩
  · rw [heap_setCell_other w _ Bd _ (by simp; omega)]; exact hC.box
  · rw [setA_length, ← flat2_setA out j v hj]; exact hst.1
  · exact hC.org.kept hst.2 (own_other hC.org hC.out (by decide))
  · intro k' _ e; injection e with e; subst e; exact Or.inr (Or.inl rfl)

set_option maxRecDepth 100000 in
set_option maxHeartbeats 4000000 in
theorem mark_any (E Bd bj j : Nat) (vt vf : Value) (nm : ByteArray) (ar : Int) (vl vp vout vorg vlo vk : Value) (out : List (Int × Int)) (org : List Int) (w : World) (hj : j < out.length) (ho : out.length ≤ 1000000000000)
    (hC : CodeAt w E Bd vt vf nm ar vl vp vout vorg vlo vk out org) (hc : w.cell? ⟨bj, 0, none⟩ = some (.int .i64 j)) :
    Calls Try.prog 97 #[.pointer (some ⟨Bd, 0, none⟩), .slice (some ⟨bj, 0, none⟩) 1 1] w fun e w' => (∃ v, e = .returned v) ∧ Sp (EmitP Bd vout vorg) w w' ∧ CodeAt w' E Bd vt vf nm ar vl vp vout vorg vlo vk (setA out j out.length) org := by
  obtain ⟨m, hm⟩ : ∃ m, out.length = m + 1 := ⟨out.length - 1, by omega⟩
  obtain ⟨g, k, rfl⟩ := own_succ (n := m) (by rw [← hm]; exact hC.out)
  have hlast := code_setA (w := w) hC hm.symm j hj out.length
  have CC := Lib.hid hC
  have c6 : w.cell? ⟨Bd, 6, none⟩ = some (.slice (some ⟨g, 0, none⟩) (m + 1) k) := code_cell hC 6
  have hBd : Bd < w.heap.size := Nat.lt_of_lt_of_le hC.lt hC.le
  have hbj := World.block_lt_of_cell? _ _ hc
  have hg := (hC.out.lt g rfl).2
  have hown := hC.out
  rw [hm] at hown
  have hcell : ∃ x, w.cell? ⟨g, j * 2 + 1, none⟩ = some x := by
    have := hown.cellAt (j * 2 + 1) (by omega)
    rw [this]
    exact ⟨_, List.getElem?_eq_getElem (by rw [flat2_length]; omega)⟩
  obtain ⟨x, hx⟩ := hcell
  have hz : w.frozen? ⟨g, j * 2 + 1, none⟩ = false := hown.frozenAt _
  rw [hm] at hlast
  have HL := Lib.hid hlast
  have hji : (j : Int) < ((m + 1 : Nat) : Int) := by omega
  clear hC hown hlast
  go_enter Try.func97, Try.ntmps97
  go_wp2
  go_loopw [8] (fun i wr => (i = .int .i64 0 ∧ wr = w) ∨ (i = .int .i64 1 ∧ Sp (EmitP Bd (.slice (some ⟨g, 0, none⟩) (m + 1) k) vorg) w wr ∧ CodeAt wr E Bd vt vf nm ar vl vp (.slice (some ⟨g, 0, none⟩) (m + 1) k) vorg vlo vk (setA out j ((m + 1 : Nat) : Int)) org)) (fun i _ => 1 - (intOf i).toNat)
  case atStart => exact Or.inl ⟨rfl, rfl⟩
  case round =>
    rcases hrel with ⟨rfl, rfl⟩ | ⟨rfl, hs, hc2⟩
    · go_wp2
      go_region
      go_wp2
      refine ⟨Or.inr ⟨by go_num, ?_, ?_⟩, by simp [intOf]⟩
      · exact sp_trans HL.out.2 (sp_grown (P := EmitP Bd (.slice (some ⟨g, 0, none⟩) (m + 1) k) vorg) (grownBy_drew (grownBy_refl _ none)) (by simp)) (fun _ _ h => h)
      · exact code_kept HL.out.1 (grownBy_drew (grownBy_refl _ none))
    · rw [← hm] at hc2
      have HS := Lib.hid hs
      have HC2 := Lib.hid hc2
      clear hs hc2
      go_wp2
      refine bodyPost_end0 rfl rfl ?_
      rw [hm]
      rw [hm] at HC2
      exact ⟨⟨_, rfl⟩, HS.out, HC2.out⟩

end Go.Proofs.Ytecaolkbllbokaa.TG

namespace Go.Proofs.Ytecaolkbllbokaa.TG
open Go.RowKit Go.Great
set_option linter.unusedSimpArgs false
set_option linter.unusedVariables false

set_option maxRecDepth 100000 in
set_option maxHeartbeats 4000000 in
theorem fill_any (E Bd bx bj j : Nat) (place : Int) (vt vf : Value) (nm : ByteArray) (ar : Int) (vl vp vout vorg vlo vk : Value) (out : List (Int × Int)) (org : List Int) (w : World) (hj : j < out.length) (ho : out.length ≤ 1000000000000)
    (hC : CodeAt w E Bd vt vf nm ar vl vp vout vorg vlo vk out org) (hx0 : w.cell? ⟨bx, 0, none⟩ = some (.pointer (some ⟨Bd, 0, none⟩))) (hc : w.cell? ⟨bj, 0, none⟩ = some (.int .i64 j)) :
    Calls Try.prog 98 #[.int .i64 place, .pointer (some ⟨bx, 0, none⟩), .pointer (some ⟨bj, 0, none⟩)] w fun e w' => (∃ v, e = .returned v) ∧ Sp (EmitP Bd vout vorg) w w' ∧ CodeAt w' E Bd vt vf nm ar vl vp vout vorg vlo vk (setA out j place) org := by
  obtain ⟨m, hm⟩ : ∃ m, out.length = m + 1 := ⟨out.length - 1, by omega⟩
  obtain ⟨g, k, rfl⟩ := own_succ (n := m) (by rw [← hm]; exact hC.out)
  have hlast := code_setA (w := w) hC hm.symm j hj place
  have c6 : w.cell? ⟨Bd, 6, none⟩ = some (.slice (some ⟨g, 0, none⟩) (m + 1) k) := code_cell hC 6
  have hBd : Bd < w.heap.size := Nat.lt_of_lt_of_le hC.lt hC.le
  have hbj := World.block_lt_of_cell? _ _ hc
  have hbx := World.block_lt_of_cell? _ _ hx0
  have hg := (hC.out.lt g rfl).2
  have hown := hC.out
  rw [hm] at hown
  have hcell : ∃ x, w.cell? ⟨g, j * 2 + 1, none⟩ = some x := by
    have := hown.cellAt (j * 2 + 1) (by omega)
    rw [this]
    exact ⟨_, List.getElem?_eq_getElem (by rw [flat2_length]; omega)⟩
  obtain ⟨x, hx⟩ := hcell
  have hz : w.frozen? ⟨g, j * 2 + 1, none⟩ = false := hown.frozenAt _
  have HL := Lib.hid hlast
  have hji : (j : Int) < ((m + 1 : Nat) : Int) := by omega
  clear hC hown hlast
  go_enter Try.func98, Try.ntmps98
  go_wp2
  go_region
  go_wp2
  refine bodyPost_end0 rfl rfl ?_
  refine ⟨⟨_, rfl⟩, ?_, ?_⟩
  · exact sp_trans HL.out.2 (sp_grown (P := EmitP Bd (.slice (some ⟨g, 0, none⟩) (m + 1) k) vorg) (grownBy_drew (grownBy_refl _ none)) (by simp)) (fun _ _ h => h)
  · exact code_kept HL.out.1 (grownBy_drew (grownBy_refl _ none))

end Go.Proofs.Ytecaolkbllbokaa.TG

namespace Go.Proofs.Ytecaolkbllbokaa.TG
open Go.RowKit Go.Great
set_option linter.unusedSimpArgs false
set_option linter.unusedVariables false

/-- What a part's code is: instructions, origins, the next part, and the breaks' jumps (how many loops further out, where). -/
structure Cg where
  code : List (Int × Int)
  org : List Int
  next : Nat
  pend : List (Nat × Nat)

def kidsG (F : Nat → Nat → Cg) : Nat → Nat → Nat → Cg
  | 0, _, a => ⟨[], [], a, []⟩
  | n + 1, b, a =>
    ⟨(F b a).code ++ (kidsG F n (b + (F b a).code.length) (F b a).next).code, (F b a).org ++ (kidsG F n (b + (F b a).code.length) (F b a).next).org,
      (kidsG F n (b + (F b a).code.length) (F b a).next).next, (F b a).pend ++ (kidsG F n (b + (F b a).code.length) (F b a).next).pend⟩

/-- What stands behind a part's kids. -/
def finG (ts : List (ByteArray × List Int)) (k n : Int) : List (Int × Int) :=
  if k = 14 then [(3, bytesTo ts n.toNat)] else if k = 15 then [(3, ((ts.getD n.toNat (ByteArray.empty, [])).2.length : Int))]
  else if k = 21 then [(6, 0), (n, 0)] else if k = 22 then [(3, 0), (31, 0)] else finE k n

/-- The breaks' jumps of the innermost loop are filled; b: where the block's code begins. -/
def fillG (b : Nat) (code : List (Int × Int)) (e : Int) : List (Nat × Nat) → List (Int × Int)
  | [] => code
  | (0, p) :: r => fillG b (setA code (p - b) e) e r
  | (_ + 1, _) :: r => fillG b code e r
def outG (pend : List (Nat × Nat)) : List (Nat × Nat) := pend.filterMap fun x => if x.1 = 0 then none else some (x.1 - 1, x.2)

def ifG (F : Nat → Nat → Cg) (kc : Int) (b a : Nat) : Cg :=
  let x := F b (a + 1)
  let y := F (b + x.code.length + 1) x.next
  if kc = 2 then ⟨x.code ++ [(15, ((b + x.code.length + 1 + y.code.length : Nat) : Int))] ++ y.code, x.org ++ [(a : Int)] ++ y.org, y.next, x.pend ++ y.pend⟩
  else
    let z := F (b + x.code.length + 1 + y.code.length + 1) y.next
    ⟨x.code ++ [(15, ((b + x.code.length + 1 + y.code.length + 1 : Nat) : Int))] ++ y.code ++ [(14, ((b + x.code.length + 1 + y.code.length + 1 + z.code.length : Nat) : Int))] ++ z.code,
      x.org ++ [(a : Int)] ++ y.org ++ [(a : Int)] ++ z.org, z.next, x.pend ++ y.pend ++ z.pend⟩

def whileG (F F' : Nat → Nat → Cg) (b a : Nat) : Cg :=
  let x := F b (a + 1)
  let y := F' (b + x.code.length + 1) x.next
  let e := ((b + x.code.length + 1 + y.code.length + 1 : Nat) : Int)
  ⟨x.code ++ [(15, e)] ++ fillG (b + x.code.length + 1) y.code e y.pend ++ [(14, (b : Int))], x.org ++ [(a : Int)] ++ y.org ++ [(a : Int)], y.next, x.pend ++ outG y.pend⟩

def eitherG (F : Nat → Nat → Cg) (jump alone : Int) (b a : Nat) : Cg :=
  let x := F b (a + 1)
  let y := F (b + x.code.length + 1) x.next
  let p := b + x.code.length + 1 + y.code.length + 4
  ⟨x.code ++ [(jump, ((p + 1 : Nat) : Int))] ++ y.code ++ [(3, 0), (31, 0), (3, 0), (31, 0)] ++ [(14, ((p + 2 : Nat) : Int))] ++ [(3, alone)], x.org ++ [(a : Int)] ++ y.org ++ [(a : Int), (a : Int), (a : Int), (a : Int), (a : Int), (a : Int)], y.next, x.pend ++ y.pend⟩

/-- The code of a part with all of its own; bs: where the loops around begin, the innermost first. -/
def codeG (ts : List (ByteArray × List Int)) (ps : List (Int × Int × Int)) : Nat → List Nat → Nat → Nat → Cg
  | 0, _, _, a => ⟨[], [], a, []⟩
  | g + 1, bs, b, a =>
    match ps[a]? with
    | none => ⟨[], [], a, []⟩
    | some (k, n, kc) =>
      if k = 5 then ifG (codeG ts ps g bs) kc b a
      else if k = 6 then whileG (codeG ts ps g bs) (codeG ts ps g (b :: bs)) b a
      else if k = 7 ∨ k = 8 then ⟨[(14, ((bs.getD n.toNat 0 : Nat) : Int))], [(a : Int)], a + 1, if k = 7 then [(n.toNat, b)] else []⟩
      else if k = 23 then eitherG (codeG ts ps g bs) 15 0 b a
      else if k = 24 then eitherG (codeG ts ps g bs) 16 1 b a
      else ⟨(kidsG (codeG ts ps g bs) kc.toNat b (a + 1)).code ++ finG ts k n, (kidsG (codeG ts ps g bs) kc.toNat b (a + 1)).org ++ (finG ts k n).map (fun _ => (a : Int)),
        (kidsG (codeG ts ps g bs) kc.toNat b (a + 1)).next, (kidsG (codeG ts ps g bs) kc.toNat b (a + 1)).pend⟩

end Go.Proofs.Ytecaolkbllbokaa.TG

namespace Go.Proofs.Ytecaolkbllbokaa.TG
open Go.RowKit Go.Great
set_option linter.unusedSimpArgs false
set_option linter.unusedVariables false

/-- What is written: instructions, origins, the loops around (innermost first: where it begins, the breaks' jumps). -/
structure PS where
  out : List (Int × Int)
  org : List Int
  V : List (Nat × List Nat)

def PS.emit (s : PS) (a : Nat) (x : Int × Int) : PS := ⟨s.out ++ [x], s.org ++ [(a : Int)], s.V⟩
def PS.mark (s : PS) (j : Nat) : PS := ⟨setA s.out j s.out.length, s.org, s.V⟩
def PS.marks : PS → List Nat → PS
  | s, [] => s
  | s, j :: r => PS.marks (s.mark j) r
def PS.emits : PS → Nat → List (Int × Int) → PS
  | s, _, [] => s
  | s, a, x :: r => PS.emits (s.emit a x) a r
def PS.push (s : PS) (b : Nat) : PS := ⟨s.out, s.org, (b, []) :: s.V⟩
def PS.pop (s : PS) : PS := ⟨s.out, s.org, s.V.tail⟩
def PS.note (s : PS) (n j : Nat) : PS := ⟨s.out, s.org, s.V.set n ((s.V.getD n (0, [])).1, (s.V.getD n (0, [])).2 ++ [j])⟩

abbrev Fw := PS → Nat → PS × Nat

def branchP (F : Fw) (kc : Int) (s : PS) (a : Nat) : PS × Nat :=
  if kc = 2 then ((F ((F s (a + 1)).1.emit a (15, 0)) (F s (a + 1)).2).1.mark (F s (a + 1)).1.out.length, (F ((F s (a + 1)).1.emit a (15, 0)) (F s (a + 1)).2).2)
  else
    ((F (((F ((F s (a + 1)).1.emit a (15, 0)) (F s (a + 1)).2).1.emit a (14, 0)).mark (F s (a + 1)).1.out.length) (F ((F s (a + 1)).1.emit a (15, 0)) (F s (a + 1)).2).2).1.mark (F ((F s (a + 1)).1.emit a (15, 0)) (F s (a + 1)).2).1.out.length,
      (F (((F ((F s (a + 1)).1.emit a (15, 0)) (F s (a + 1)).2).1.emit a (14, 0)).mark (F s (a + 1)).1.out.length) (F ((F s (a + 1)).1.emit a (15, 0)) (F s (a + 1)).2).2).2)

/-- The loop's end: its block is written, s: what was ahead, x: behind the condition, y: behind the block. -/
def endP (b j : Nat) (a : Nat) (y : PS) : PS := PS.marks ((y.emit a (14, (b : Int))).mark j).pop (y.V.getD 0 (0, [])).2

def whileP (F : Fw) (s : PS) (a : Nat) : PS × Nat :=
  (endP s.out.length (F s (a + 1)).1.out.length a (F (((F s (a + 1)).1.emit a (15, 0)).push s.out.length) (F s (a + 1)).2).1, (F (((F s (a + 1)).1.emit a (15, 0)).push s.out.length) (F s (a + 1)).2).2)

def leaveP (k : Int) (n : Nat) (s : PS) (a : Nat) : PS × Nat :=
  (if k = 7 then (s.emit a (14, ((s.V.getD n (0, [])).1 : Int))).note n s.out.length else s.emit a (14, ((s.V.getD n (0, [])).1 : Int)), a + 1)

/-- Behind the second kid of PAnd, POr; j: the first one's jump. -/
def tailP (alone : Int) (j a : Nat) (y : PS) : PS :=
  ((((PS.emits y a [(3, 0), (31, 0), (3, 0), (31, 0)]).emit a (14, 0)).mark j).emit a (3, alone)).mark (PS.emits y a [(3, 0), (31, 0), (3, 0), (31, 0)]).out.length

def eitherP (F : Fw) (jump alone : Int) (s : PS) (a : Nat) : PS × Nat :=
  (tailP alone (F s (a + 1)).1.out.length a (F ((F s (a + 1)).1.emit a (jump, 0)) (F s (a + 1)).2).1, (F ((F s (a + 1)).1.emit a (jump, 0)) (F s (a + 1)).2).2)

def kidsP (F : Fw) : Nat → PS → Nat → PS × Nat
  | 0, s, a => (s, a)
  | n + 1, s, a => kidsP F n (F s a).1 (F s a).2

def writeP (ts : List (ByteArray × List Int)) (ps : List (Int × Int × Int)) : Nat → PS → Nat → PS × Nat
  | 0, s, a => (s, a)
  | g + 1, s, a =>
    match ps[a]? with
    | none => (s, a)
    | some (k, n, kc) =>
      if k = 5 then branchP (writeP ts ps g) kc s a
      else if k = 6 then whileP (writeP ts ps g) s a
      else if k = 7 ∨ k = 8 then leaveP k n.toNat s a
      else if k = 23 then eitherP (writeP ts ps g) 15 0 s a
      else if k = 24 then eitherP (writeP ts ps g) 16 1 s a
      else (PS.emits (kidsP (writeP ts ps g) kc.toNat s (a + 1)).1 a (finG ts k n), (kidsP (writeP ts ps g) kc.toNat s (a + 1)).2)

/-- Which part comes behind. -/
def kidsS (S : Nat → Nat) : Nat → Nat → Nat
  | 0, a => a
  | n + 1, a => kidsS S n (S a)
def skipS (ps : List (Int × Int × Int)) : Nat → Nat → Nat
  | 0, a => a
  | g + 1, a => match ps[a]? with
    | none => a
    | some (_, _, kc) => kidsS (skipS ps g) kc.toNat (a + 1)

/-- What must hold of a part by itself. -/
structure WellK (nt m : Nat) (k n kc : Int) : Prop where
  m1 : m ≤ 1000
  k1 : 1 ≤ k
  k2 : k ≤ 26
  i : k = 5 → kc = 2 ∨ kc = 3
  w : k = 6 ∨ k = 23 ∨ k = 24 → kc = 2
  l : k = 7 ∨ k = 8 → kc = 0 ∧ 0 ≤ n ∧ n < m
  t : k = 14 ∨ k = 15 → 0 ≤ n ∧ n < nt

def kidsO (O : Nat → Prop) (S : Nat → Nat) : Nat → Nat → Prop
  | 0, _ => True
  | n + 1, a => O a ∧ kidsO O S n (S a)

/-- The part is there with all of its own, and right; m: how many loops are around. -/
def okP (nt : Nat) (ps : List (Int × Int × Int)) : Nat → Nat → Nat → Prop
  | 0, _, _ => False
  | g + 1, m, a => ∃ k n kc, ps[a]? = some (k, n, kc) ∧ WellK nt m k n kc ∧ (if k = 6 then okP nt ps g m (a + 1) ∧ okP nt ps g (m + 1) (skipS ps g (a + 1)) else kidsO (okP nt ps g m) (skipS ps g) kc.toNat (a + 1))

/-- What always holds of it. -/
structure PSI (s : PS) : Prop where
  ol : s.org.length = s.out.length
  js : ∀ x ∈ s.V, ∀ j ∈ x.2, j < s.out.length
  jc : ∀ x ∈ s.V, x.2.length ≤ s.out.length

structure Grows (s s' : PS) (n : Nat) : Prop where
  lo : s.out.length ≤ s'.out.length
  hi : s'.out.length ≤ s.out.length + n
  inv : PSI s'
  v : s'.V.length = s.V.length

theorem grows_refl {s : PS} (h : PSI s) : Grows s s 0 := ⟨Nat.le_refl _, Nat.le_refl _, h, rfl⟩
theorem grows_trans {s s1 s2 : PS} {n m : Nat} (h : Grows s s1 n) (h2 : Grows s1 s2 m) : Grows s s2 (n + m) :=
  ⟨Nat.le_trans h.lo h2.lo, by have := h.hi; have := h2.hi; omega, h2.inv, h2.v.trans h.v⟩
theorem grows_le {s s1 : PS} {n m : Nat} (h : Grows s s1 n) (hn : n ≤ m) : Grows s s1 m := ⟨h.lo, by have := h.hi; omega, h.inv, h.v⟩
theorem emit_grows {s : PS} (h : PSI s) (a : Nat) (x : Int × Int) : Grows s (s.emit a x) 1 := by
  refine ⟨by simp [PS.emit], by simp [PS.emit], ⟨by simp [PS.emit, h.ol], fun y hy j hj => ?_, fun y hy => ?_⟩, rfl⟩
  · have := h.js y hy j hj
    simp [PS.emit]; omega
  · have := h.jc y hy
    simp [PS.emit]; omega
theorem mark_grows {s : PS} (h : PSI s) (j : Nat) : Grows s (s.mark j) 0 := by
  refine ⟨by simp [PS.mark, setA_length], by simp [PS.mark, setA_length], ⟨by simp [PS.mark, setA_length, h.ol], fun y hy j' hj => ?_, fun y hy => ?_⟩, rfl⟩
  · have := h.js y hy j' hj
    simpa [PS.mark, setA_length] using this
  · have := h.jc y hy
    simpa [PS.mark, setA_length] using this
theorem marks_grows : ∀ (l : List Nat) {s : PS}, PSI s → Grows s (PS.marks s l) 0
  | [], s, h => grows_refl h
  | j :: r, s, h => grows_trans (mark_grows h j) (marks_grows r (mark_grows h j).inv)
theorem emits_grows : ∀ (l : List (Int × Int)) {s : PS} (a : Nat), PSI s → Grows s (PS.emits s a l) l.length
  | [], s, a, h => grows_refl h
  | x :: r, s, a, h => grows_le (grows_trans (emit_grows h a x) (emits_grows r a (emit_grows h a x).inv)) (by simp; omega)
theorem push_inv {s : PS} (h : PSI s) (b : Nat) : PSI (s.push b) := ⟨h.ol, fun y hy j hj => by
  simp only [PS.push, List.mem_cons] at hy
  rcases hy with rfl | hy
  · cases hj
  · exact h.js y hy j hj, fun y hy => by
  simp only [PS.push, List.mem_cons] at hy
  rcases hy with rfl | hy
  · exact Nat.zero_le _
  · exact h.jc y hy⟩
theorem pop_inv {s : PS} (h : PSI s) : PSI s.pop := ⟨h.ol, fun y hy j hj => h.js y (List.mem_of_mem_tail hy) j hj, fun y hy => h.jc y (List.mem_of_mem_tail hy)⟩
theorem note_grows {s : PS} (h : PSI s) (n j : Nat) (hj : j < s.out.length) (hc : (s.V.getD n (0, [])).2.length < s.out.length) : Grows s (s.note n j) 0 := by
  refine ⟨Nat.le_refl _, Nat.le_refl _, ⟨h.ol, fun y hy i hi => ?_, fun y hy => ?_⟩, by simp [PS.note]⟩
  · simp only [PS.note] at hy ⊢
    rcases List.mem_or_eq_of_mem_set hy with hm | rfl
    · exact h.js y hm i hi
    · rcases List.mem_append.1 hi with hi | hi
      · by_cases hn : n < s.V.length
        · simp only [List.getD, List.getElem?_eq_getElem hn, Option.getD_some] at hi
          exact h.js _ (List.getElem_mem hn) i hi
        · simp [List.getD, List.getElem?_eq_none (by omega : s.V.length ≤ n)] at hi
      · simp at hi; omega
  · simp only [PS.note] at hy ⊢
    rcases List.mem_or_eq_of_mem_set hy with hm | rfl
    · exact h.jc y hm
    · simp only [List.length_append, List.length_cons, List.length_nil]; omega
theorem emit_getD {s : PS} (h : PSI s) (a : Nat) (x : Int × Int) (n : Nat) : ((s.emit a x).V.getD n (0, [])).2.length < (s.emit a x).out.length := by
  have e : (s.emit a x).out.length = s.out.length + 1 := by simp [PS.emit]
  rw [e]
  show (s.V.getD n (0, [])).2.length < _
  by_cases hn : n < s.V.length
  · simp only [List.getD, List.getElem?_eq_getElem hn, Option.getD_some]
    have := h.jc _ (List.getElem_mem hn); omega
  · simp [List.getD, List.getElem?_eq_none (by omega : s.V.length ≤ n)]

/-- A writer of parts that keeps within its bounds. -/
def GoodF (np : Nat) (F : Fw) (O : Nat → Nat → Prop) (S : Nat → Nat) : Prop :=
  ∀ m a s, O m a → PSI s → s.V.length = m → (F s a).2 = S a ∧ a < S a ∧ S a ≤ np ∧ Grows s (F s a).1 (7 * (S a - a))

theorem ite_len {α : Type} {p : Prop} [Decidable p] {a b : List α} {n : Nat} (ha : a.length ≤ n) (hb : b.length ≤ n) : (if p then a else b).length ≤ n := by
  by_cases h : p
  · rw [if_pos h]; exact ha
  · rw [if_neg h]; exact hb
theorem fin_len (ts : List (ByteArray × List Int)) (k n : Int) : (finG ts k n).length ≤ 2 := by
  unfold finG finE
  repeat' apply ite_len
  all_goals simp

theorem branch_good {np : Nat} {F : Fw} {O : Nat → Nat → Prop} {S : Nat → Nat} (hF : GoodF np F O S) {kc : Int} (hk : kc = 2 ∨ kc = 3) {s : PS} {a : Nat} (hs : PSI s) (ho : kidsO (O s.V.length) S kc.toNat (a + 1)) :
    (branchP F kc s a).2 = kidsS S kc.toNat (a + 1) ∧ a < kidsS S kc.toNat (a + 1) ∧ kidsS S kc.toNat (a + 1) ≤ np ∧ Grows s (branchP F kc s a).1 (7 * (kidsS S kc.toNat (a + 1) - a)) := by
  have key : O s.V.length (a + 1) → O s.V.length (S (a + 1)) → ∃ x y : PS × Nat, F s (a + 1) = x ∧ F (x.1.emit a (15, 0)) x.2 = y ∧ x.2 = S (a + 1) ∧ y.2 = S (S (a + 1)) ∧ a + 1 < S (a + 1) ∧ S (a + 1) < S (S (a + 1)) ∧ S (S (a + 1)) ≤ np ∧ Grows s y.1 (7 * (S (S (a + 1)) - (a + 1)) + 1) := by
    intro h1 h2
    have g1 := hF _ _ s h1 hs rfl
    have ge := emit_grows g1.2.2.2.inv a (15, 0)
    have g2 := hF _ (S (a + 1)) ((F s (a + 1)).1.emit a (15, 0)) h2 ge.inv (by rw [ge.v, g1.2.2.2.v])
    rw [← g1.1] at g2
    refine ⟨_, _, rfl, rfl, g1.1, ?_, g1.2.1, ?_, ?_, ?_⟩
    · rw [g2.1, g1.1]
    · have := g2.2.1; rwa [g1.1] at this
    · have := g2.2.2.1; rwa [g1.1] at this
    · refine grows_le (grows_trans (grows_trans g1.2.2.2 ge) g2.2.2.2) ?_
      have := g2.2.1; have := g1.2.1
      rw [g1.1] at *
      omega
  rcases hk with rfl | rfl
  · obtain ⟨h1, h2, -⟩ := ho
    obtain ⟨x, y, e1, e2, ex, ey, l1, l2, l3, gy⟩ := key h1 h2
    have hS : kidsS S (2 : Int).toNat (a + 1) = S (S (a + 1)) := rfl
    rw [hS]
    unfold branchP
    rw [if_pos rfl, e1, e2]
    exact ⟨ey, by omega, l3, grows_le (grows_trans gy (mark_grows gy.inv _)) (by omega)⟩
  · obtain ⟨h1, h2, h3, -⟩ := ho
    obtain ⟨x, y, e1, e2, ex, ey, l1, l2, l3, gy⟩ := key h1 h2
    have hS : kidsS S (3 : Int).toNat (a + 1) = S (S (S (a + 1))) := rfl
    rw [hS]
    unfold branchP
    rw [if_neg (by decide), e1, e2]
    have ge := emit_grows gy.inv a (14, 0)
    have gm := mark_grows ge.inv x.1.out.length
    have g3 := hF _ (S (S (a + 1))) ((y.1.emit a (14, 0)).mark x.1.out.length) h3 gm.inv (by rw [gm.v, ge.v, gy.v])
    rw [← ey] at g3
    refine ⟨by rw [g3.1, ey], ?_, ?_, ?_⟩
    · have := g3.2.1; rw [ey] at this; omega
    · have := g3.2.2.1; rwa [ey] at this
    · have h4 := g3.2.1; have h5 := g3.2.2.2
      refine grows_le (grows_trans (grows_trans (grows_trans (grows_trans gy ge) gm) h5) (mark_grows h5.inv _)) ?_
      rw [ey] at *
      omega

theorem end_grows {y : PS} (h : PSI y) (b j a : Nat) : PSI (endP b j a y) ∧ (endP b j a y).out.length = y.out.length + 1 ∧ (endP b j a y).V.length = y.V.length - 1 := by
  have ge := emit_grows h a (14, (b : Int))
  have gm := mark_grows ge.inv j
  have gp := marks_grows (y.V.getD 0 (0, [])).2 (pop_inv gm.inv)
  refine ⟨gp.inv, ?_, ?_⟩
  · have h1 := gp.lo; have h2 := gp.hi
    have e : ((y.emit a (14, (b : Int))).mark j).pop.out.length = y.out.length + 1 := by simp [PS.pop, PS.mark, setA_length, PS.emit]
    rw [e] at h1 h2
    unfold endP; omega
  · unfold endP
    rw [gp.v]
    simp [PS.pop, PS.mark, PS.emit]

theorem while_good {np : Nat} {F : Fw} {O : Nat → Nat → Prop} {S : Nat → Nat} (hF : GoodF np F O S) {s : PS} {a : Nat} (hs : PSI s) (h1 : O s.V.length (a + 1)) (h2 : O (s.V.length + 1) (S (a + 1))) :
    (whileP F s a).2 = S (S (a + 1)) ∧ a < S (S (a + 1)) ∧ S (S (a + 1)) ≤ np ∧ Grows s (whileP F s a).1 (7 * (S (S (a + 1)) - a)) := by
  have g1 := hF _ _ s h1 hs rfl
  have ge := emit_grows g1.2.2.2.inv a (15, 0)
  have g2 := hF _ (S (a + 1)) (((F s (a + 1)).1.emit a (15, 0)).push s.out.length) h2 (push_inv ge.inv _) (by show ((F s (a + 1)).1.emit a (15, 0)).V.length + 1 = _; rw [ge.v, g1.2.2.2.v])
  rw [← g1.1] at g2
  have g3 := end_grows g2.2.2.2.inv s.out.length (F s (a + 1)).1.out.length a
  unfold whileP
  have h3 := g2.2.1; have h4 := g2.2.2.1; have h5 := g1.2.1
  have h6 := g2.2.2.2.hi; have h7 := g2.2.2.2.lo; have h8 := g1.2.2.2.hi; have h9 := g1.2.2.2.lo
  have e1 : (((F s (a + 1)).1.emit a (15, 0)).push s.out.length).out.length = (F s (a + 1)).1.out.length + 1 := by simp [PS.push, PS.emit]
  rw [e1] at h6 h7
  have h10 := g2.2.2.2.v
  have e2 : (((F s (a + 1)).1.emit a (15, 0)).push s.out.length).V.length = s.V.length + 1 := by
    show ((F s (a + 1)).1.emit a (15, 0)).V.length + 1 = _; rw [ge.v, g1.2.2.2.v]
  rw [e2] at h10
  have eS := g1.1
  refine ⟨?_, ?_, ?_, ⟨?_, ?_, g3.1, ?_⟩⟩
  · show (F _ _).2 = _; rw [g2.1, g1.1]
  · rw [eS] at h3; omega
  · rw [eS] at h4; exact h4
  · show _ ≤ (endP _ _ _ _).out.length; rw [g3.2.1]; omega
  · show (endP _ _ _ _).out.length ≤ _
    rw [g3.2.1]; rw [eS] at h3 h4 h6 h7 ⊢; omega
  · show (endP _ _ _ _).V.length = _; rw [g3.2.2, h10]; omega

theorem either_good {np : Nat} {F : Fw} {O : Nat → Nat → Prop} {S : Nat → Nat} (hF : GoodF np F O S) (jump alone : Int) {s : PS} {a : Nat} (hs : PSI s) (h1 : O s.V.length (a + 1)) (h2 : O s.V.length (S (a + 1))) :
    (eitherP F jump alone s a).2 = S (S (a + 1)) ∧ a < S (S (a + 1)) ∧ S (S (a + 1)) ≤ np ∧ Grows s (eitherP F jump alone s a).1 (7 * (S (S (a + 1)) - a)) := by
  have g1 := hF _ _ s h1 hs rfl
  have ge := emit_grows g1.2.2.2.inv a (jump, 0)
  have g2 := hF _ (S (a + 1)) ((F s (a + 1)).1.emit a (jump, 0)) h2 ge.inv (by rw [ge.v, g1.2.2.2.v])
  rw [← g1.1] at g2
  unfold eitherP
  have h3 := g2.2.1; have h4 := g2.2.2.1; have h5 := g1.2.1
  have g3 := emits_grows [(3, 0), (31, 0), (3, 0), (31, 0)] a g2.2.2.2.inv
  have g4 := emit_grows g3.inv a (14, 0)
  have g5 := mark_grows g4.inv (F s (a + 1)).1.out.length
  have g6 := emit_grows g5.inv a (3, alone)
  have g7 := mark_grows g6.inv (PS.emits (F ((F s (a + 1)).1.emit a (jump, 0)) (F s (a + 1)).2).1 a [(3, 0), (31, 0), (3, 0), (31, 0)]).out.length
  have gg := grows_trans (grows_trans (grows_trans (grows_trans (grows_trans (grows_trans (grows_trans g1.2.2.2 ge) g2.2.2.2) g3) g4) g5) g6) g7
  have eS := g1.1
  refine ⟨?_, ?_, ?_, grows_le gg ?_⟩
  · show (F _ _).2 = _; rw [g2.1, g1.1]
  · rw [eS] at h3; omega
  · rw [eS] at h4; exact h4
  · rw [eS] at h3 h4 ⊢; simp only [List.length_cons, List.length_nil]; omega

theorem kids_good {np : Nat} {F : Fw} {O : Nat → Nat → Prop} {S : Nat → Nat} (hF : GoodF np F O S) : ∀ (n : Nat) {s : PS} {a : Nat}, PSI s → a ≤ np → kidsO (O s.V.length) S n a →
    (kidsP F n s a).2 = kidsS S n a ∧ a + n ≤ kidsS S n a ∧ kidsS S n a ≤ np ∧ Grows s (kidsP F n s a).1 (7 * (kidsS S n a - a))
  | 0, s, a, hs, ha, _ => by unfold kidsP kidsS; exact ⟨rfl, by omega, ha, grows_le (grows_refl hs) (by omega)⟩
  | n + 1, s, a, hs, ha, ho => by
    obtain ⟨h1, h2⟩ := ho
    have g1 := hF _ _ s h1 hs rfl
    have g2 := kids_good hF n (s := (F s a).1) (a := S a) g1.2.2.2.inv g1.2.2.1 (by rw [g1.2.2.2.v]; exact h2)
    rw [← g1.1] at g2
    unfold kidsP kidsS
    have h3 := g2.2.1; have h4 := g2.2.2.1; have h5 := g1.2.1
    rw [g1.1] at h3 h4
    refine ⟨by rw [g2.1, g1.1], by omega, h4, grows_le (grows_trans g1.2.2.2 g2.2.2.2) ?_⟩
    rw [g1.1]; omega

theorem write_good (ts : List (ByteArray × List Int)) (ps : List (Int × Int × Int)) : ∀ g, GoodF ps.length (writeP ts ps g) (okP ts.length ps g) (skipS ps g)
  | 0 => fun m a s h _ _ => h.elim
  | g + 1 => fun m a s h hs hm => by
    subst hm
    obtain ⟨k, n, kc, hp, hw, ho⟩ := h
    have hlt : a < ps.length := (List.getElem?_eq_some_iff.1 hp).1
    have IH := write_good ts ps g
    have eS : skipS ps (g + 1) a = kidsS (skipS ps g) kc.toNat (a + 1) := by rw [skipS, hp]
    rw [eS]
    unfold writeP
    rw [hp]
    by_cases h5 : k = 5
    · rw [if_neg (by omega)] at ho
      simp only [if_pos h5]
      exact branch_good IH (hw.i h5) hs ho
    by_cases h6 : k = 6
    · rw [if_pos h6] at ho
      have e2 : kc = 2 := hw.w (Or.inl h6)
      subst e2
      simp only [if_neg h5, if_pos h6]
      exact while_good IH hs ho.1 ho.2
    rw [if_neg h6] at ho
    by_cases h7 : k = 7 ∨ k = 8
    · simp only [if_neg h5, if_neg h6, if_pos h7]
      obtain ⟨e0, hn0, hnm⟩ := hw.l h7
      subst e0
      have ge := emit_grows hs a (14, ((s.V.getD n.toNat (0, [])).1 : Int))
      have e1 : kidsS (skipS ps g) (0 : Int).toNat (a + 1) = a + 1 := rfl
      rw [e1]
      unfold leaveP
      refine ⟨rfl, by omega, by omega, ?_⟩
      by_cases hk : k = 7
      · simp only [if_pos hk]
        exact grows_le (grows_trans ge (note_grows ge.inv _ _ (by simp [PS.emit]) (emit_getD hs _ _ _))) (by omega)
      · simp only [if_neg hk]
        exact grows_le ge (by omega)
    by_cases h23 : k = 23
    · have e2 : kc = 2 := hw.w (Or.inr (Or.inl h23))
      subst e2
      simp only [if_neg h5, if_neg h6, if_neg h7, if_pos h23]
      exact either_good IH 15 0 hs ho.1 ho.2.1
    by_cases h24 : k = 24
    · have e2 : kc = 2 := hw.w (Or.inr (Or.inr h24))
      subst e2
      simp only [if_neg h5, if_neg h6, if_neg h7, if_neg h23, if_pos h24]
      exact either_good IH 16 1 hs ho.1 ho.2.1
    · simp only [if_neg h5, if_neg h6, if_neg h7, if_neg h23, if_neg h24]
      have g1 := kids_good IH kc.toNat hs (by omega) ho
      have h2 := g1.2.1
      refine ⟨g1.1, by omega, g1.2.2.1, grows_le (grows_trans g1.2.2.2 (emits_grows _ a g1.2.2.2.inv)) ?_⟩
      have := fin_len ts k n
      omega

end Go.Proofs.Ytecaolkbllbokaa.TG

namespace Go.Proofs.Ytecaolkbllbokaa.TG
open Go.RowKit Go.Great
set_option linter.unusedSimpArgs false
set_option linter.unusedVariables false

/-- A loop under way: where it begins, its slice of closures, and each closure's boxes and jump. -/
structure Lp where
  beg : Nat
  ends : Value
  cls : List (Nat × Nat × Nat)

def clsV (x : Nat × Nat × Nat) : Value := .func (.func 98) #[] #[.pointer (some ⟨x.1, 0, none⟩), .pointer (some ⟨x.2.1, 0, none⟩)]
def flatL : List Lp → List Value
  | [] => []
  | l :: r => .int .i64 l.beg :: l.ends :: flatL r
def Lp.abs (l : Lp) : Nat × List Nat := (l.beg, l.cls.map fun x => x.2.2)

structure Stt where
  vout : Value
  vorg : Value
  vlo : Value
  out : List (Int × Int)
  org : List Int
  L : List Lp

def Stt.abs (s : Stt) : PS := ⟨s.out, s.org, (s.L.map Lp.abs).reverse⟩

/-- What stays the same: blocks, the function, the texts, the parts. -/
structure Cx where
  E : Nat
  Bd : Nat
  bc : Nat
  b6 : Nat
  M : Nat
  B : Nat
  cp : Nat
  ct : Nat
  pt : Option Addr
  pp : Option Addr
  vf : Value
  vl : Value
  nm : ByteArray
  ar : Int
  ts : List (ByteArray × List Int)
  ps : List (Int × Int × Int)

structure CxOK (c : Cx) : Prop where
  lB : c.B ≤ c.Bd
  nts : c.ts.length ≤ 1024
  nct : c.ts.length ≤ c.ct
  mct : c.ct ≤ maxLen
  wf : ∀ x ∈ c.ts, x.1.size ≤ maxLen ∧ x.2.length ≤ 17592186044415
  np : c.ps.length ≤ 17592186044415

/-- What write may change. -/
def Cx.P (c : Cx) (s : Stt) (k : Nat) : Prop := EmitP c.Bd s.vout s.vorg k ∨ s.vlo.ownBlock = some k ∨ ∃ l ∈ s.L, l.ends.ownBlock = some k

def Cx.Code (c : Cx) (w : World) (vout vorg vlo : Value) (out : List (Int × Int)) (org : List Int) : Prop :=
  CodeAt w c.E c.Bd (.slice c.pt c.ts.length c.ct) c.vf c.nm c.ar c.vl (.slice c.pp c.ps.length c.cp) vout vorg vlo (.map (some c.M)) out org

structure AtS (c : Cx) (w : World) (s : Stt) : Prop where
  code : CodeAt w c.E c.Bd (.slice c.pt c.ts.length c.ct) c.vf c.nm c.ar c.vl (.slice c.pp c.ps.length c.cp) s.vout s.vorg s.vlo (.map (some c.M)) s.out s.org
  lrow : w.ownsRow c.E 180 2 s.vlo s.L.length (flatL s.L)
  lend : ∀ l ∈ s.L, w.ownsRow c.E 140 1 l.ends l.cls.length (l.cls.map clsV)
  ldis : ∀ (i k : Nat) (l l' : Lp), i ≠ k → s.L[i]? = some l → s.L[k]? = some l' → ∀ b, l.ends.ownBlock = some b → l'.ends.ownBlock ≠ some b
  lbox : ∀ l ∈ s.L, ∀ x ∈ l.cls, (w.cell? ⟨x.1, 0, none⟩ = some (.pointer (some ⟨c.Bd, 0, none⟩)) ∧ ¬ c.P s x.1) ∧ (w.cell? ⟨x.2.1, 0, none⟩ = some (.int .i64 x.2.2) ∧ ¬ c.P s x.2.1)
  inv : PSI s.abs
  pa : PartsB w c.Bd c.pp c.ps
  ki : KindsAt w c.Bd c.E c.bc c.b6 c.M
  tx : TextsAt w c.B c.pt c.ts

/-- From one world and state to another. -/
structure Go (c : Cx) (w : World) (s : Stt) (w' : World) (s' : Stt) : Prop where
  at_ : AtS c w' s'
  sp : Sp (c.P s) w w'
  row : ∀ k, k < w.heap.size → c.P s' k → c.P s k

theorem go_refl {c : Cx} {w : World} {s : Stt} (h : AtS c w s) : Go c w s w s := ⟨h, sp_refl _ _, fun _ _ h => h⟩
theorem go_trans {c : Cx} {w w1 w2 : World} {s s1 s2 : Stt} (h : Go c w s w1 s1) (g : Go c w1 s1 w2 s2) : Go c w s w2 s2 :=
  ⟨g.at_, sp_trans h.sp g.sp fun k hk hp => h.row k hk hp, fun k hk hp => h.row k hk (g.row k (Nat.lt_of_lt_of_le hk h.sp.size) hp)⟩

theorem own_sp {P : Nat → Prop} {w w' : World} {base : Nat} {e : TypeId} {size n : Nat} {v : Value} {xs : List Value} (h : w.ownsRow base e size v n xs) (g : Sp P w w') (hp : ∀ k, v.ownBlock = some k → ¬ P k) : w'.ownsRow base e size v n xs := by
  obtain ⟨h1, h2⟩ := h
  refine ⟨h1, ?_⟩
  rcases h2 with h2 | ⟨g0, cap, cur, rfl, hb, hg, rest⟩
  · exact .inl h2
  · exact .inr ⟨g0, cap, cur, rfl, hb, by rw [g.block g0 (Array.getElem?_eq_some_iff.1 hg).1 (hp g0 rfl)]; exact hg, rest⟩
theorem sp_cell {P : Nat → Prop} {w w' : World} {b o : Nat} {v : Value} (h : w.cell? ⟨b, o, none⟩ = some v) (g : Sp P w w') (hp : ¬ P b) : w'.cell? ⟨b, o, none⟩ = some v := by
  rw [heap_cell (g.block b (World.block_lt_of_cell? _ _ h) hp)]; exact h
theorem own_unlike {w : World} {base : Nat} {e e' : TypeId} {size size' n n' : Nat} {v v' : Value} {xs xs' : List Value} (h : w.ownsRow base e size v n xs) (h' : w.ownsRow base e' size' v' n' xs') (hne : e ≠ e') {k : Nat} (hk : v.ownBlock = some k) : v'.ownBlock ≠ some k := by
  rcases own_other h h' hne with h1 | h1
  · rw [h1] at hk; cases hk
  · rw [hk] at h1; exact fun e => h1 e.symm

theorem lo_not {c : Cx} {w : World} {s : Stt} (h : AtS c w s) {k : Nat} (hk : s.vlo.ownBlock = some k) : ¬ EmitP c.Bd s.vout s.vorg k := by
  have hlt := h.code.lt
  rintro (e | e | e)
  · have := (h.lrow.lt k hk).1; omega
  · exact own_unlike h.lrow h.code.out (by decide) hk e
  · exact own_unlike h.lrow h.code.org (by decide) hk e
theorem end_not {c : Cx} {w : World} {s : Stt} (h : AtS c w s) {l : Lp} (hl : l ∈ s.L) {k : Nat} (hk : l.ends.ownBlock = some k) : ¬ EmitP c.Bd s.vout s.vorg k := by
  have hlt := h.code.lt
  rintro (e | e | e)
  · have := ((h.lend l hl).lt k hk).1; omega
  · exact own_unlike (h.lend l hl) h.code.out (by decide) hk e
  · exact own_unlike (h.lend l hl) h.code.org (by decide) hk e
theorem end_not_lo {c : Cx} {w : World} {s : Stt} (h : AtS c w s) {l : Lp} (hl : l ∈ s.L) {k : Nat} (hk : l.ends.ownBlock = some k) : s.vlo.ownBlock ≠ some k :=
  own_unlike (h.lend l hl) h.lrow (by decide) hk

theorem p_low {c : Cx} {w : World} {s : Stt} (h : AtS c w s) {k : Nat} (hk : c.P s k) : k = c.Bd ∨ (c.E ≤ k ∧ k < w.heap.size) := by
  rcases hk with (e | e | e) | e | ⟨l, hl, e⟩
  · exact Or.inl e
  · exact Or.inr (h.code.out.lt k e)
  · exact Or.inr (h.code.org.lt k e)
  · exact Or.inr (h.lrow.lt k e)
  · exact Or.inr ((h.lend l hl).lt k e)
theorem p_new {c : Cx} {w : World} {s : Stt} (h : AtS c w s) {k : Nat} (hk : w.heap.size ≤ k) : ¬ c.P s k := fun hp => by
  have := h.code.lt; have := h.code.le
  rcases p_low h hp with e | e <;> omega

theorem low_of {c : Cx} {w w' : World} {s : Stt} (h : AtS c w s) (sp : Sp (c.P s) w w') : ∀ k, k < c.E → k ≠ c.Bd → w'.heap[k]? = w.heap[k]? := fun k hk hne =>
  sp.block k (Nat.lt_of_lt_of_le hk h.code.le) fun hp => by rcases p_low h hp with e | e <;> omega

theorem texts_sp {w w' : World} {B : Nat} {p : Option Addr} {ts : List (ByteArray × List Int)} (h : TextsAt w B p ts) (hs : ∀ k, k < B → w'.heap[k]? = w.heap[k]?) : TextsAt w' B p ts := fun h0 => by
  obtain ⟨b, o, e, hb, hc⟩ := h h0
  refine ⟨b, o, e, hb, fun i nm d hi => ?_⟩
  obtain ⟨h1, pd, cd, h2, h3⟩ := hc i nm d hi
  refine ⟨by rw [heap_cell (hs b hb)]; exact h1, pd, cd, by rw [heap_cell (hs b hb)]; exact h2, fun h4 => ?_⟩
  obtain ⟨b', o', e', hb', hc'⟩ := h3 h4
  exact ⟨b', o', e', hb', fun j hj => by rw [heap_cell (hs b' hb')]; exact hc' j hj⟩

theorem rest_of {c : Cx} (ok : CxOK c) {w w' : World} {s : Stt} (h : AtS c w s) (sp : Sp (c.P s) w w') : PartsB w' c.Bd c.pp c.ps ∧ KindsAt w' c.Bd c.E c.bc c.b6 c.M ∧ TextsAt w' c.B c.pt c.ts := by
  have hl := low_of h sp
  have := h.code.lt
  have := ok.lB
  exact ⟨partsB_sp h.pa fun k hk => hl k (by omega) (by omega), kinds_kept h.ki fun k h1 h2 => hl k h2 (by omega), texts_sp h.tx fun k hk => hl k (by omega) (by omega)⟩

theorem sp_emit {c : Cx} {s : Stt} {w w' : World} (h : Sp (EmitP c.Bd s.vout s.vorg) w w') : Sp (c.P s) w w' := sp_weaken h fun _ _ h => Or.inl h

/-- A step that changes the code alone. -/
theorem go_code {c : Cx} (ok : CxOK c) {w w' : World} {s : Stt} (h : AtS c w s) {vo vg : Value} {out' : List (Int × Int)} {org' : List Int} (sp : Sp (EmitP c.Bd s.vout s.vorg) w w')
    (hC : CodeAt w' c.E c.Bd (.slice c.pt c.ts.length c.ct) c.vf c.nm c.ar c.vl (.slice c.pp c.ps.length c.cp) vo vg s.vlo (.map (some c.M)) out' org') (hr : ∀ k, k < w.heap.size → EmitP c.Bd vo vg k → EmitP c.Bd s.vout s.vorg k) (hi : PSI ⟨out', org', s.abs.V⟩) :
    Go c w s w' ⟨vo, vg, s.vlo, out', org', s.L⟩ := by
  obtain ⟨r1, r2, r3⟩ := rest_of ok h (sp_emit sp)
  have hrow : ∀ k, k < w.heap.size → c.P ⟨vo, vg, s.vlo, out', org', s.L⟩ k → c.P s k := fun k hk hp => by
    rcases hp with hp | hp
    · exact Or.inl (hr k hk hp)
    · exact Or.inr hp
  refine ⟨⟨hC, own_sp h.lrow sp fun k hk => lo_not h hk, fun l hl => own_sp (h.lend l hl) sp fun k hk => end_not h hl hk, h.ldis, fun l hl x hx => ?_, hi, r1, r2, r3⟩, sp_emit sp, hrow⟩
  obtain ⟨⟨h1, h2⟩, h3, h4⟩ := h.lbox l hl x hx
  exact ⟨⟨sp_cell h1 sp fun hp => h2 (Or.inl hp), fun hp => h2 (hrow _ (World.block_lt_of_cell? _ _ h1) hp)⟩, sp_cell h3 sp fun hp => h4 (Or.inl hp), fun hp => h4 (hrow _ (World.block_lt_of_cell? _ _ h3) hp)⟩

theorem go_emit {c : Cx} (ok : CxOK c) {w w' : World} {s : Stt} (h : AtS c w s) {a : Nat} {o x : Int} (sp : Sp (EmitP c.Bd s.vout s.vorg) w w')
    (hp : ∃ vo vg, CodeAt w' c.E c.Bd (.slice c.pt c.ts.length c.ct) c.vf c.nm c.ar c.vl (.slice c.pp c.ps.length c.cp) vo vg s.vlo (.map (some c.M)) (s.out ++ [(o, x)]) (s.org ++ [(a : Int)]) ∧ (∀ k, k < w.heap.size → EmitP c.Bd vo vg k → EmitP c.Bd s.vout s.vorg k)) :
    ∃ s', Go c w s w' s' ∧ s'.abs = s.abs.emit a (o, x) ∧ s'.L = s.L ∧ s'.vlo = s.vlo := by
  obtain ⟨vo, vg, hC, hr⟩ := hp
  exact ⟨_, go_code ok h sp hC hr (emit_grows h.inv a (o, x)).inv, rfl, rfl, rfl⟩

theorem go_set {c : Cx} (ok : CxOK c) {w w' : World} {s : Stt} (h : AtS c w s) {j : Nat} {v : Int} (hv : v = s.out.length) (sp : Sp (EmitP c.Bd s.vout s.vorg) w w')
    (hC : CodeAt w' c.E c.Bd (.slice c.pt c.ts.length c.ct) c.vf c.nm c.ar c.vl (.slice c.pp c.ps.length c.cp) s.vout s.vorg s.vlo (.map (some c.M)) (setA s.out j v) s.org) :
    ∃ s', Go c w s w' s' ∧ s'.abs = s.abs.mark j ∧ s'.L = s.L ∧ s'.vlo = s.vlo := by
  subst hv
  exact ⟨_, go_code ok h sp hC (fun _ _ h => h) (mark_grows h.inv j).inv, rfl, rfl, rfl⟩

theorem go_grown {c : Cx} (ok : CxOK c) {w w' : World} {s : Stt} (h : AtS c w s) (g : w.grownBy w' none) : Go c w s w' s :=
  go_code ok h (sp_grown g (by simp)) (code_kept h.code g) (fun _ _ h => h) h.inv
theorem go_alloc {c : Cx} (ok : CxOK c) {w : World} {s : Stt} (h : AtS c w s) (o : Obj) : Go c w s (w.alloc o) s := go_grown ok h (World.grownBy_alloc w o none)

theorem at_size {c : Cx} {w : World} {s : Stt} (h : AtS c w s) : c.Bd < w.heap.size := Nat.lt_of_lt_of_le h.code.lt h.code.le

/-- What a call of write leaves. -/
def WP (c : Cx) (w : World) (s : Stt) (r : PS × Nat) (e : Ending) (w' : World) : Prop := e = .returned (.int .i64 r.2) ∧ ∃ s', Go c w s w' s' ∧ s'.abs = r.1

/-- The contract of write, where it may go g deep. -/
def WCon (c : Cx) (g : Nat) : Prop := ∀ (s : Stt) (at_ : Nat) (w : World), okP c.ts.length c.ps g s.L.length at_ → AtS c w s → s.out.length + 8 * (c.ps.length - at_) + 8 ≤ 1000000000000 →
  Calls Try.prog 43 #[.pointer (some ⟨c.Bd, 0, none⟩), .int .i64 at_] w (WP c w s (writeP c.ts c.ps g s.abs at_))

theorem abs_V {s : Stt} : s.abs.V.length = s.L.length := by simp [Stt.abs]
theorem abs_len {s' : Stt} {p : PS} (h : s'.abs = p) : s'.out.length = p.out.length ∧ s'.L.length = p.V.length := by
  subst h; exact ⟨rfl, abs_V.symm⟩

end Go.Proofs.Ytecaolkbllbokaa.TG

namespace Go.Proofs.Ytecaolkbllbokaa.TG
open Go.RowKit Go.Great
set_option linter.unusedSimpArgs false
set_option linter.unusedVariables false

theorem emit_at {c : Cx} (ok : CxOK c) {w : World} {s : Stt} (h : AtS c w s) (hb : s.out.length ≤ 1000000000000) (a : Nat) (o x : Int) :
    Calls Try.prog 44 #[.pointer (some ⟨c.Bd, 0, none⟩), .int .i64 a, .int .i64 o, .int .i64 x] w fun e w' => e = .returned (.int .i64 s.out.length) ∧ ∃ s', Go c w s w' s' ∧ s'.abs = s.abs.emit a (o, x) ∧ s'.L = s.L ∧ s'.vlo = s.vlo := by
  have hl : s.org.length = s.out.length := h.inv.ol
  refine (emit_any c.E c.Bd _ c.vf c.nm c.ar c.vl _ s.vout s.vorg s.vlo _ s.out s.org a o x w h.code hb (by omega)).mono ?_
  intro e w' hp
  obtain ⟨rfl, sp, hr⟩ := hp
  exact ⟨rfl, go_emit ok h sp hr⟩

theorem mark_at {c : Cx} (ok : CxOK c) {w : World} {s : Stt} (h : AtS c w s) (hb : s.out.length ≤ 1000000000000) {j bj : Nat} (hj : j < s.out.length) (hc : w.cell? ⟨bj, 0, none⟩ = some (.int .i64 j)) :
    Calls Try.prog 97 #[.pointer (some ⟨c.Bd, 0, none⟩), .slice (some ⟨bj, 0, none⟩) 1 1] w fun e w' => (∃ v, e = .returned v) ∧ ∃ s', Go c w s w' s' ∧ s'.abs = s.abs.mark j ∧ s'.L = s.L ∧ s'.vlo = s.vlo := by
  refine (mark_any c.E c.Bd bj j _ c.vf c.nm c.ar c.vl _ s.vout s.vorg s.vlo _ s.out s.org w hj hb h.code hc).mono ?_
  intro e w' hp
  obtain ⟨hv, sp, hC⟩ := hp
  exact ⟨hv, go_set ok h rfl sp hC⟩

/-- mark, where the list of the one jump is made anew. -/
theorem mark_new {c : Cx} (ok : CxOK c) {w : World} {s : Stt} (h : AtS c w s) (hb : s.out.length ≤ 1000000000000) {j : Nat} (hj : j < s.out.length) :
    Calls Try.prog 97 #[.pointer (some ⟨c.Bd, 0, none⟩), .slice (some ⟨w.heap.size, 0, none⟩) 1 1] (w.alloc (.cells #[.int .i64 j] 3)) fun e w' => (∃ v, e = .returned v) ∧ ∃ s', Go c w s w' s' ∧ s'.abs = s.abs.mark j ∧ s'.L = s.L ∧ s'.vlo = s.vlo := by
  have ga := go_alloc ok h (.cells #[.int .i64 j] 3)
  refine (mark_at ok ga.at_ hb hj (one_new w _ _ 0 _ rfl)).mono ?_
  intro e w' hp
  obtain ⟨hv, s', g, h1, h2, h3⟩ := hp
  exact ⟨hv, s', go_trans ga g, h1, h2, h3⟩

/-- What a call of write leaves, with its bounds. -/
structure WStep (c : Cx) (g : Nat) (w : World) (s : Stt) (at_ : Nat) (w' : World) (s' : Stt) (p : Nat) : Prop where
  go : Go c w s w' s'
  eq : writeP c.ts c.ps g s.abs at_ = (s'.abs, p)
  sk : p = skipS c.ps g at_
  lt : at_ < p
  le : p ≤ c.ps.length
  hi : s'.out.length ≤ s.out.length + 7 * (p - at_)
  lo : s.out.length ≤ s'.out.length
  L : s'.L.length = s.L.length

theorem step_write {c : Cx} (ok : CxOK c) {g : Nat} (hI : WCon c g) {s : Stt} {at_ : Nat} {w : World} (ho : okP c.ts.length c.ps g s.L.length at_) (h : AtS c w s) (hb : s.out.length + 8 * (c.ps.length - at_) + 8 ≤ 1000000000000) :
    Calls Try.prog 43 #[.pointer (some ⟨c.Bd, 0, none⟩), .int .i64 at_] w fun e w' => ∃ (s' : Stt) (p : Nat), e = .returned (.int .i64 p) ∧ WStep c g w s at_ w' s' p := by
  refine (hI s at_ w ho h hb).mono ?_
  intro e w' hp
  obtain ⟨rfl, s', gg, ha⟩ := hp
  have hg := write_good c.ts c.ps g s.L.length at_ s.abs ho h.inv abs_V
  obtain ⟨e1, e2, e3, e4⟩ := hg
  refine ⟨s', _, rfl, gg, ?_, e1, by rw [e1]; exact e2, by rw [e1]; exact e3, ?_, ?_, ?_⟩
  · rw [ha]
  · have := e4.hi; rw [← ha] at this; rw [e1]; exact this
  · have := e4.lo; rw [← ha] at this; exact this
  · have := e4.v; rw [← ha, abs_V, abs_V] at this; exact this

theorem pp_some {c : Cx} {w : World} {s : Stt} (h : AtS c w s) {at_ : Nat} (hlt : at_ < c.ps.length) : ∃ bp op : Nat, c.pp = some ⟨bp, op, none⟩ := by
  obtain ⟨b, o, e, _⟩ := h.pa (by omega)
  exact ⟨b, o, e⟩

/-- What is read of a part. -/
structure PCell (c : Cx) (w : World) (bp op at_ : Nat) (k n kc : Int) : Prop where
  c5 : w.cell? ⟨c.Bd, 5, none⟩ = some (.slice (some ⟨bp, op, none⟩) c.ps.length c.cp)
  p0 : w.cell? ⟨bp, op + at_ * 3, none⟩ = some (.int .i64 k)
  p1 : w.cell? ⟨bp, op + at_ * 3 + 1, none⟩ = some (.int .i64 n)
  p2 : w.cell? ⟨bp, op + at_ * 3 + 2, none⟩ = some (.int .i64 kc)
  lb : bp < w.heap.size
  ld : c.Bd < w.heap.size

theorem part_cells {c : Cx} {w : World} {s : Stt} (h : AtS c w s) {bp op at_ : Nat} (hpp : c.pp = some ⟨bp, op, none⟩) {k n kc : Int} (hp : c.ps[at_]? = some (k, n, kc)) : PCell c w bp op at_ k n kc := by
  have hja : at_ < c.ps.length := (List.getElem?_eq_some_iff.1 hp).1
  obtain ⟨b, o, e, hb, hc⟩ := h.pa (by omega)
  rw [hpp] at e
  injection e with e; injection e with e1 e2 _; subst e1; subst e2
  obtain ⟨p0, p1, p2⟩ := hc _ _ _ _ hp
  have c5 := code_cell h.code 5
  rw [hpp] at c5
  exact ⟨c5, p0, p1, p2, Nat.lt_trans hb (at_size h), at_size h⟩

theorem branch_2 {F : Fw} {s s1 s2 s3 s4 : PS} {a p1 p2 : Nat} (h1 : F s (a + 1) = (s1, p1)) (h2 : s2 = s1.emit a (15, 0)) (h3 : F s2 p1 = (s3, p2)) (h4 : s4 = s3.mark s1.out.length) : branchP F 2 s a = (s4, p2) := by
  subst h2; subst h4
  unfold branchP
  rw [if_pos rfl, h1, h3]

theorem branch_3 {F : Fw} {s s1 s2 s3 s4 s5 s6 s7 : PS} {a p1 p2 p3 : Nat} (h1 : F s (a + 1) = (s1, p1)) (h2 : s2 = s1.emit a (15, 0)) (h3 : F s2 p1 = (s3, p2)) (h4 : s4 = s3.emit a (14, 0)) (h5 : s5 = s4.mark s1.out.length) (h6 : F s5 p2 = (s6, p3))
    (h7 : s7 = s6.mark s3.out.length) : branchP F 3 s a = (s7, p3) := by
  subst h2; subst h4; subst h5; subst h7
  unfold branchP
  rw [if_neg (by decide), h1, h3, h6]

theorem either_1 {F : Fw} {jump alone : Int} {s s1 s2 s3 s4 s5 s6 s7 s8 s9 s10 s11 : PS} {a p1 p2 : Nat} (h1 : F s (a + 1) = (s1, p1)) (h2 : s2 = s1.emit a (jump, 0)) (h3 : F s2 p1 = (s3, p2)) (h4 : s4 = s3.emit a (3, 0)) (h5 : s5 = s4.emit a (31, 0)) (h6 : s6 = s5.emit a (3, 0)) (h7 : s7 = s6.emit a (31, 0))
    (h8 : s8 = s7.emit a (14, 0)) (h9 : s9 = s8.mark s1.out.length) (h10 : s10 = s9.emit a (3, alone)) (h11 : s11 = s10.mark s7.out.length) : eitherP F jump alone s a = (s11, p2) := by
  subst h2; subst h4; subst h5; subst h6; subst h7; subst h8; subst h9; subst h10; subst h11
  unfold eitherP
  rw [h1, h3]
  rfl

end Go.Proofs.Ytecaolkbllbokaa.TG

namespace Go.Proofs.Ytecaolkbllbokaa.TG
open Go.RowKit Go.Great
set_option linter.unusedSimpArgs false
set_option linter.unusedVariables false

/-- How much may still be written. -/
def Bud (c : Cx) (s : Stt) (p k : Nat) : Prop := s.out.length + 8 * (c.ps.length - p) + 8 + k ≤ 1000000000000

theorem bud_start {c : Cx} {s : Stt} {at_ : Nat} (hb : s.out.length + 8 * (c.ps.length - at_) + 8 ≤ 1000000000000) (h : at_ < c.ps.length) : Bud c s (at_ + 1) 8 := by unfold Bud; omega
theorem bud_write {c : Cx} {s s' : Stt} {g p q k : Nat} {w w' : World} (h : Bud c s p k) (g : WStep c g w s p w' s' q) : Bud c s' q k := by
  unfold Bud at *; have := g.hi; have := g.lt; have := g.le; omega
theorem bud_emit {c : Cx} {s s' : Stt} {p k a : Nat} {x : Int × Int} (h : Bud c s p (k + 1)) (e : s'.abs = s.abs.emit a x) : Bud c s' p k := by
  have := (abs_len e).1
  have e2 : (s.abs.emit a x).out.length = s.out.length + 1 := by simp [PS.emit, Stt.abs]
  unfold Bud at *; omega
theorem bud_mark {c : Cx} {s s' : Stt} {p k j : Nat} (h : Bud c s p k) (e : s'.abs = s.abs.mark j) : Bud c s' p k := by
  have := (abs_len e).1
  have e2 : (s.abs.mark j).out.length = s.out.length := by simp [PS.mark, Stt.abs, setA_length]
  unfold Bud at *; omega
theorem bud_len {c : Cx} {s : Stt} {p k : Nat} (h : Bud c s p k) : s.out.length ≤ 1000000000000 := by unfold Bud at h; omega
theorem bud_ok {c : Cx} {s : Stt} {p k : Nat} (h : Bud c s p k) : s.out.length + 8 * (c.ps.length - p) + 8 ≤ 1000000000000 := by unfold Bud at h; omega
theorem okP_cast {nt : Nat} {ps : List (Int × Int × Int)} {g m m' p q : Nat} (h : okP nt ps g m p) (hq : q = p) (hm : m' = m) : okP nt ps g m' q := by subst hq; subst hm; exact h
theorem emit_len {s s' : Stt} {a : Nat} {x : Int × Int} (e : s'.abs = s.abs.emit a x) : s'.out.length = s.out.length + 1 := by
  have := (abs_len e).1
  have e2 : (s.abs.emit a x).out.length = s.out.length + 1 := by simp [PS.emit, Stt.abs]
  omega
theorem mark_len {s s' : Stt} {j : Nat} (e : s'.abs = s.abs.mark j) : s'.out.length = s.out.length := by
  have := (abs_len e).1
  have e2 : (s.abs.mark j).out.length = s.out.length := by simp [PS.mark, Stt.abs, setA_length]
  omega
theorem jump_in {c : Cx} {g p q a : Nat} {w w' : World} {x : Int × Int} {s1 s2 s3 : Stt} (e : s2.abs = s1.abs.emit a x) (h : WStep c g w s2 p w' s3 q) : s1.out.length < s3.out.length := by
  have := emit_len e; have := h.lo; omega
theorem jump_in2 {a : Nat} {x : Int × Int} {s3 s4 : Stt} {j : Nat} (h : j < s3.out.length) (e : s4.abs = s3.abs.emit a x) : j < s4.out.length := by
  have := emit_len e; omega
theorem jump_in3 {c : Cx} {g p q a j : Nat} {w w' : World} {x : Int × Int} {s1 s2 s3 s4 : Stt} (e : s2.abs = s1.abs.emit a x) (e2 : s3.abs = s2.abs.mark j) (h : WStep c g w s3 p w' s4 q) : s1.out.length < s4.out.length := by
  have := emit_len e; have := mark_len e2; have := h.lo; omega

set_option maxRecDepth 100000 in
set_option maxHeartbeats 4000000 in
theorem branch_two (c : Cx) (ok : CxOK c) (g : Nat) (hI : WCon c g) (s : Stt) (at_ : Nat) (w : World) (n : Int) (hp : c.ps[at_]? = some (5, n, 2)) (h1 : okP c.ts.length c.ps g s.L.length (at_ + 1)) (h2 : okP c.ts.length c.ps g s.L.length (skipS c.ps g (at_ + 1)))
    (h : AtS c w s) (hb : s.out.length + 8 * (c.ps.length - at_) + 8 ≤ 1000000000000) :
    Calls Try.prog 75 #[.pointer (some ⟨c.Bd, 0, none⟩), .int .i64 at_] w (WP c w s (branchP (writeP c.ts c.ps g) 2 s.abs at_)) := by
  have hja : at_ < c.ps.length := (List.getElem?_eq_some_iff.1 hp).1
  obtain ⟨bp, op, hpp⟩ := pp_some h hja
  have hji : (at_ : Int) < (c.ps.length : Int) := by omega
  have hnp := ok.np
  have B0 := Lib.hid (bud_start hb hja)
  have hw := step_write ok hI h1 h (bud_ok B0.out)
  rw [show ((at_ + 1 : Nat) : Int) = (at_ : Int) + 1 from rfl] at hw
  have W1 := Lib.hid hw
  have HP := Lib.hid hp
  have H2 := Lib.hid h2
  have HI := Lib.hid hI
  clear hw hp h1 h2 h hb hI
  go_enter Try.func75, Try.ntmps75
  go_wp2_with (first
    | (go_at_call 43; refine W1.out.mono ?_; clear W1; intro e w1 hq; obtain ⟨s1, q1, rfl, g1⟩ := hq; have G1 := Lib.hid g1; have B1 := Lib.hid (bud_write B0.out g1); have E1 := Lib.hid (emit_at ok g1.go.at_ (bud_len B1.out) at_ 15 0); clear g1)
    | (go_at_call 44; refine E1.out.mono ?_; clear E1; intro e w2 hq; obtain ⟨rfl, s2, g2, a2, l2, v2⟩ := hq; have G2 := Lib.hid g2; have A2 := Lib.hid a2; have B2 := Lib.hid (bud_emit B1.out a2); have W2 := Lib.hid (step_write ok HI.out (okP_cast H2.out G1.out.sk ((congrArg List.length l2).trans G1.out.L)) g2.at_ (bud_ok B2.out)); clear g2 a2 l2 v2)
    | (go_at_call 43; refine W2.out.mono ?_; clear W2; intro e w3 hq; obtain ⟨s3, q2, rfl, g3⟩ := hq; have G3 := Lib.hid g3; have B3 := Lib.hid (bud_write B2.out g3); have M1 := Lib.hid (mark_new ok g3.go.at_ (bud_len B3.out) (jump_in A2.out g3)); obtain ⟨c5, p0, p1, p2, lb, ld⟩ := part_cells g3.go.at_ hpp HP.out; clear g3 p0 p1)
    | (go_at_call 97; refine M1.out.mono ?_; clear M1; intro e w4 hq; obtain ⟨⟨v4, rfl⟩, s4, g4, a4, l4, v4'⟩ := hq; have G4 := Lib.hid g4; have A4 := Lib.hid a4; clear g4 a4 l4 v4'))
  go_ret
  rw [branch_2 G1.out.eq A2.out G3.out.eq A4.out]
  exact ⟨rfl, _, go_trans (go_trans (go_trans G1.out.go G2.out) G3.out.go) G4.out, rfl⟩

end Go.Proofs.Ytecaolkbllbokaa.TG

namespace Go.Proofs.Ytecaolkbllbokaa.TG
open Go.RowKit Go.Great
set_option linter.unusedSimpArgs false
set_option linter.unusedVariables false

theorem rev_get {L : List Lp} {i : Nat} {l : Lp} (h : L[i]? = some l) : ((L.map Lp.abs).reverse)[L.length - 1 - i]? = some l.abs := by
  have hi := (List.getElem?_eq_some_iff.1 h).1
  rw [List.getElem?_reverse (by simp; omega)]
  simp only [List.length_map, List.getElem?_map]
  rw [show L.length - 1 - (L.length - 1 - i) = i by omega, h]; rfl
theorem rev_set {L : List Lp} {i : Nat} (hi : i < L.length) (l : Lp) : ((L.set i l).map Lp.abs).reverse = ((L.map Lp.abs).reverse).set (L.length - 1 - i) l.abs := by
  apply List.ext_getElem?
  intro k
  by_cases hk : k < L.length
  · rw [List.getElem?_reverse (by simp; omega), List.getElem?_set]
    simp only [List.length_map, List.length_set, List.getElem?_map, List.getElem?_set, List.length_reverse]
    by_cases e : L.length - 1 - i = k
    · rw [if_pos e, if_pos (by omega), if_pos (by omega), if_pos (by omega)]; rfl
    · rw [if_neg e, if_neg (by omega), List.getElem?_reverse (by simp; omega)]
      simp
  · rw [List.getElem?_eq_none (by simp; omega), List.getElem?_eq_none (by simp; omega)]

theorem flatL_set : ∀ {L : List Lp} {i : Nat} {l l' : Lp}, L[i]? = some l → l'.beg = l.beg → (flatL L).set (i * 2 + 1) l'.ends = flatL (L.set i l')
  | [], i, l, l', h, _ => by cases h
  | x :: r, 0, l, l', h, e => by simp at h; subst h; simp [flatL, e]
  | x :: r, i + 1, l, l', h, e => by
    have ih := flatL_set (L := r) (i := i) (l := l) (l' := l') (by simpa using h) e
    have e2 : (i + 1) * 2 + 1 = (i * 2 + 1) + 1 + 1 := by omega
    rw [e2]
    simp only [flatL, List.set_cons_succ]
    rw [ih]
theorem flatL_append : ∀ (L L' : List Lp), flatL (L ++ L') = flatL L ++ flatL L'
  | [], L' => rfl
  | x :: r, L' => by simp [flatL, flatL_append r L']
theorem flatL_length : ∀ (L : List Lp), (flatL L).length = L.length * 2
  | [] => rfl
  | x :: r => by simp [flatL, flatL_length r]; omega
theorem flatL_get : ∀ {L : List Lp} {i : Nat} {l : Lp}, L[i]? = some l → (flatL L)[i * 2]? = some (.int .i64 l.beg) ∧ (flatL L)[i * 2 + 1]? = some l.ends
  | [], i, l, h => by cases h
  | x :: r, 0, l, h => by simp at h; subst h; simp [flatL]
  | x :: r, i + 1, l, h => by
    have ih := flatL_get (L := r) (i := i) (l := l) (by simpa using h)
    have e1 : (i + 1) * 2 = i * 2 + 1 + 1 := by omega
    have e2 : (i + 1) * 2 + 1 = (i * 2 + 1) + 1 + 1 := by omega
    rw [e2, e1]
    simpa [flatL] using ih

/-- What the loops' blocks are. -/
def Cx.Q (c : Cx) (s : Stt) (k : Nat) : Prop := s.vlo.ownBlock = some k ∨ ∃ l ∈ s.L, l.ends.ownBlock = some k

theorem q_not {c : Cx} {w : World} {s : Stt} (h : AtS c w s) {k : Nat} (hq : c.Q s k) : ¬ EmitP c.Bd s.vout s.vorg k := by
  rcases hq with e | ⟨l, hl, e⟩
  · exact lo_not h e
  · exact end_not h hl e
theorem q_p {c : Cx} {s : Stt} {k : Nat} (hq : c.Q s k) : c.P s k := Or.inr hq

theorem code_sp {w w' : World} {E Bd : Nat} {vt vf : Value} {nm : ByteArray} {ar : Int} {vl vp vout vorg vlo vk : Value} {out : List (Int × Int)} {org : List Int} {Q : Nat → Prop} (h : CodeAt w E Bd vt vf nm ar vl vp vout vorg vlo vk out org) (g : Sp Q w w') (hq : ∀ k, Q k → ¬ EmitP Bd vout vorg k) :
    CodeAt w' E Bd vt vf nm ar vl vp vout vorg vlo vk out org :=
  ⟨by rw [g.block Bd (Nat.lt_of_lt_of_le h.lt h.le) (fun hp => hq _ hp (Or.inl rfl))]; exact h.box, own_sp h.out g fun k hk hp => hq _ hp (Or.inr (Or.inl hk)), own_sp h.org g fun k hk hp => hq _ hp (Or.inr (Or.inr hk)), h.lt, Nat.le_trans h.le g.size⟩

theorem code_lo {w : World} {E Bd : Nat} {vt vf : Value} {nm : ByteArray} {ar : Int} {vl vp vout vorg vlo vk : Value} {out : List (Int × Int)} {org : List Int} (h : CodeAt w E Bd vt vf nm ar vl vp vout vorg vlo vk out org) (v1 : Value) :
    CodeAt (w.setCell ⟨Bd, 8, none⟩ v1) E Bd vt vf nm ar vl vp vout vorg v1 vk out org :=
  ⟨by rw [heap_set_box h.box]; rfl, own_set h.out h.lt, own_set h.org h.lt, h.lt, by rw [World.size_setCell]; exact h.le⟩

/-- The code's block gets another list of loops. -/
theorem go_lo {c : Cx} (ok : CxOK c) {w w1 : World} {s : Stt} (h : AtS c w s) {v1 : Value} {L' : List Lp} (sp : Sp (c.Q s) w w1) (hrow : w1.ownsRow c.E 180 2 v1 L'.length (flatL L'))
    (hend : ∀ l ∈ L', w1.ownsRow c.E 140 1 l.ends l.cls.length (l.cls.map clsV)) (hdis : ∀ (i k : Nat) (l l' : Lp), i ≠ k → L'[i]? = some l → L'[k]? = some l' → ∀ b, l.ends.ownBlock = some b → l'.ends.ownBlock ≠ some b)
    (hq : ∀ k, k < w.heap.size → c.Q ⟨s.vout, s.vorg, v1, s.out, s.org, L'⟩ k → c.Q s k) (hcl : ∀ l ∈ L', ∀ x ∈ l.cls, ∃ l0 ∈ s.L, x ∈ l0.cls) (hi : PSI (Stt.abs ⟨s.vout, s.vorg, v1, s.out, s.org, L'⟩)) :
    Go c w s (w1.setCell ⟨c.Bd, 8, none⟩ v1) ⟨s.vout, s.vorg, v1, s.out, s.org, L'⟩ := by
  have hsp : Sp (c.P s) w (w1.setCell ⟨c.Bd, 8, none⟩ v1) := sp_trans (sp_weaken sp fun _ _ h => q_p h) (sp_grown (P := c.P s) (grownBy_set w1 c.Bd 8 v1) (fun k _ e => by injection e with e; exact Or.inl (Or.inl e.symm))) (fun _ _ h => h)
  have hcr : ∀ k, k < w.heap.size → c.P ⟨s.vout, s.vorg, v1, s.out, s.org, L'⟩ k → c.P s k := fun k hk hp => by
    rcases hp with hp | hp
    · exact Or.inl hp
    · exact Or.inr (hq k hk hp)
  obtain ⟨r1, r2, r3⟩ := rest_of ok h hsp
  refine ⟨⟨code_lo (code_sp h.code sp fun k hk => q_not h hk) v1, own_set hrow h.code.lt, fun l hl => own_set (hend l hl) h.code.lt, hdis, fun l hl x hx => ?_, hi, r1, r2, r3⟩, hsp, hcr⟩
  obtain ⟨l0, hl0, hx0⟩ := hcl l hl x hx
  obtain ⟨⟨h1, h2⟩, h3, h4⟩ := h.lbox l0 hl0 x hx0
  exact ⟨⟨sp_cell h1 hsp h2, fun hp => h2 (hcr _ (World.block_lt_of_cell? _ _ h1) hp)⟩, sp_cell h3 hsp h4, fun hp => h4 (hcr _ (World.block_lt_of_cell? _ _ h3) hp)⟩

theorem go_push {c : Cx} (ok : CxOK c) {w w1 : World} {s : Stt} (h : AtS c w s) {b : Nat} {v1 : Value} {o : Obj} (own : w1.ownsRow c.E 180 2 v1 (s.L.length + 1) (flatL s.L ++ [.int .i64 b, .slice none 0 0])) (g : (w.alloc o).grownBy w1 s.vlo.ownBlock)
    (hat : v1.ownBlock = s.vlo.ownBlock ∨ v1.ownBlock = some (w.alloc o).heap.size) :
    ∃ s', Go c w s (w1.setCell ⟨c.Bd, 8, none⟩ v1) s' ∧ s'.abs = s.abs.push b ∧ s'.vlo = v1 ∧ s'.L = s.L ++ [⟨b, .slice none 0 0, []⟩] := by
  have sp : Sp (c.Q s) w w1 := sp_trans (sp_grown (P := c.Q s) (World.grownBy_alloc w o none) (by simp)) (sp_grown (P := c.Q s) g fun k _ e => Or.inl e) (fun _ _ h => h)
  have habs : Stt.abs ⟨s.vout, s.vorg, v1, s.out, s.org, s.L ++ [⟨b, .slice none 0 0, []⟩]⟩ = s.abs.push b := by
    simp [Stt.abs, PS.push, Lp.abs]
  refine ⟨_, go_lo ok h (L' := s.L ++ [⟨b, .slice none 0 0, []⟩]) sp ?_ ?_ ?_ ?_ ?_ (by rw [habs]; exact push_inv h.inv b), habs, rfl, rfl⟩
  · rw [List.length_append, flatL_append]; exact own
  · intro l hl
    rcases List.mem_append.1 hl with hl | hl
    · refine own_sp (h.lend l hl) (sp_trans (sp_grown (P := fun k => s.vlo.ownBlock = some k) (World.grownBy_alloc w o none) (by simp)) (sp_grown (P := fun k => s.vlo.ownBlock = some k) g fun k _ e => e) (fun _ _ h => h)) fun k hk => end_not_lo h hl hk
    · simp at hl; subst hl; exact World.ownsRow_nil _ _ _ _
  · intro i k l l' hik hi hk b' hb
    by_cases hk2 : k < s.L.length
    · rw [List.getElem?_append_left hk2] at hk
      by_cases hi2 : i < s.L.length
      · rw [List.getElem?_append_left hi2] at hi
        exact h.ldis i k l l' hik hi hk b' hb
      · rw [List.getElem?_append_right (by omega)] at hi
        have : i - s.L.length = 0 := by
          have := (List.getElem?_eq_some_iff.1 hi).1; simp at this; omega
        rw [this] at hi; simp at hi; subst hi; cases hb
    · rw [List.getElem?_append_right (by omega)] at hk
      have : k - s.L.length = 0 := by
        have := (List.getElem?_eq_some_iff.1 hk).1; simp at this; omega
      rw [this] at hk; simp at hk; subst hk; intro e; cases e
  · intro k hk hq
    rcases hq with e | ⟨l, hl, e⟩
    · rcases hat with h1 | h1
      · exact Or.inl (h1 ▸ e)
      · have e' : v1.ownBlock = some k := e
        rw [h1, World.size_alloc] at e'; injection e' with e'; omega
    · rcases List.mem_append.1 hl with hl | hl
      · exact Or.inr ⟨l, hl, e⟩
      · simp at hl; subst hl; cases e
  · intro l hl x hx
    rcases List.mem_append.1 hl with hl | hl
    · exact ⟨l, hl, hx⟩
    · simp at hl; subst hl; cases hx

theorem own_shorter {w : World} {base : Nat} {e : TypeId} {size n k g cap : Nat} {xs : List Value} (h : w.ownsRow base e size (.slice (some ⟨g, 0, none⟩) n cap) n xs) (hk : k ≤ n) : w.ownsRow base e size (.slice (some ⟨g, 0, none⟩) k cap) k (xs.take (k * size)) := by
  obtain ⟨h1, h2⟩ := h
  rcases h2 with ⟨h2, _⟩ | ⟨g0, cap0, cur, e0, hb, hg, hn, hm, hs, ht⟩
  · cases h2
  · injection e0 with e1 e2 e3
    subst e3
    injection e1 with e1; injection e1 with e1 _ _; subst e1
    have hkn : k * size ≤ n * size := Nat.mul_le_mul_right _ hk
    refine ⟨by rw [List.length_take, h1]; omega, .inr ⟨g, cap, cur, rfl, hb, hg, by omega, hm, hs, ?_⟩⟩
    rw [← ht, List.take_take]
    congr 1; omega

theorem go_pop {c : Cx} (ok : CxOK c) {w : World} {s : Stt} (h : AtS c w s) {L0 : List Lp} {l : Lp} (hL : s.L = L0 ++ [l]) {g n cap : Nat} (hv : s.vlo = .slice (some ⟨g, 0, none⟩) n cap) (hn : n = L0.length + 1) :
    ∃ s', Go c w s (w.setCell ⟨c.Bd, 8, none⟩ (.slice (some ⟨g, 0, none⟩) L0.length cap)) s' ∧ s'.abs = s.abs.pop ∧ s'.L = L0 ∧ s'.vout = s.vout ∧ s'.vorg = s.vorg := by
  have hlen : s.L.length = L0.length + 1 := by rw [hL]; simp
  have hmem : ∀ l' ∈ L0, l' ∈ s.L := fun l' hl => by rw [hL]; exact List.mem_append_left _ hl
  have habs : Stt.abs ⟨s.vout, s.vorg, .slice (some ⟨g, 0, none⟩) L0.length cap, s.out, s.org, L0⟩ = s.abs.pop := by
    simp [Stt.abs, PS.pop, hL]
  have hown := h.lrow
  rw [hv, hn] at hown
  have e2 : L0.length + 1 = s.L.length := hlen.symm
  refine ⟨_, go_lo ok h (L' := L0) (v1 := .slice (some ⟨g, 0, none⟩) L0.length cap) (sp_refl _ w) ?_ (fun l' hl => h.lend l' (hmem l' hl)) ?_ ?_ (fun l' hl x hx => ⟨l', hmem l' hl, hx⟩) (by rw [habs]; exact pop_inv h.inv), habs, rfl, rfl, rfl⟩
  · rw [hlen] at hown
    have := own_shorter hown (Nat.le_succ L0.length)
    rw [hL, flatL_append, List.take_append_of_le_length (by rw [flatL_length]; exact Nat.le_refl _), List.take_of_length_le (by rw [flatL_length]; exact Nat.le_refl _)] at this
    exact this
  · intro i k l1 l2 hik hi hk b hb
    have hi2 := (List.getElem?_eq_some_iff.1 hi).1
    have hk2 := (List.getElem?_eq_some_iff.1 hk).1
    exact h.ldis i k l1 l2 hik (by rw [hL, List.getElem?_append_left hi2]; exact hi) (by rw [hL, List.getElem?_append_left hk2]; exact hk) b hb
  · intro k hk hq
    rcases hq with e | ⟨l', hl, e⟩
    · refine Or.inl ?_; rw [hv]; exact e
    · exact Or.inr ⟨l', hmem l' hl, e⟩

/-- A closure is put behind a loop's closures. -/
theorem go_note {c : Cx} (ok : CxOK c) {w w1 : World} {s : Stt} (h : AtS c w s) {i : Nat} {l : Lp} (hl : s.L[i]? = some l) {g n cap : Nat} (hv : s.vlo = .slice (some ⟨g, 0, none⟩) n cap) (hn : n = s.L.length) {bx bj j : Nat} {v1 : Value} {o : Obj}
    (own : w1.ownsRow c.E 140 1 v1 (l.cls.length + 1) (l.cls.map clsV ++ [clsV (bx, bj, j)])) (gr : (w.alloc o).grownBy w1 l.ends.ownBlock) (hat : v1.ownBlock = l.ends.ownBlock ∨ v1.ownBlock = some (w.alloc o).heap.size)
    (hx : w.cell? ⟨bx, 0, none⟩ = some (.pointer (some ⟨c.Bd, 0, none⟩))) (hxp : ¬ c.P s bx) (hj : w.cell? ⟨bj, 0, none⟩ = some (.int .i64 j)) (hjp : ¬ c.P s bj) (hjl : j < s.out.length) (hcl : l.cls.length < s.out.length) :
    ∃ s', Go c w s (w1.setCell ⟨g, i * 2 + 1, none⟩ v1) s' ∧ s'.abs = s.abs.note (s.L.length - 1 - i) j := by
  have hil := (List.getElem?_eq_some_iff.1 hl).1
  have hml : l ∈ s.L := List.mem_of_getElem? hl
  have hg : s.vlo.ownBlock = some g := by rw [hv]; rfl
  have sp1 : Sp (fun k => l.ends.ownBlock = some k) w w1 := sp_trans (sp_grown (P := fun k => l.ends.ownBlock = some k) (World.grownBy_alloc w o none) (by simp)) (sp_grown (P := fun k => l.ends.ownBlock = some k) gr fun k _ e => e) (fun _ _ h => h)
  have spq : Sp (c.Q s) w (w1.setCell ⟨g, i * 2 + 1, none⟩ v1) := sp_trans (sp_weaken sp1 fun k _ e => Or.inr ⟨l, hml, e⟩) (sp_grown (P := c.Q s) (grownBy_set w1 g (i * 2 + 1) v1) fun k _ e => by injection e with e; subst e; exact Or.inl hg) (fun _ _ h => h)
  have hsp : Sp (c.P s) w (w1.setCell ⟨g, i * 2 + 1, none⟩ v1) := sp_weaken spq fun _ _ h => q_p h
  have hlr : w1.ownsRow c.E 180 2 s.vlo s.L.length (flatL s.L) := own_sp h.lrow sp1 fun k hk => own_unlike h.lrow (h.lend l hml) (by decide) hk
  have hset : (flatL s.L).set (i * 2 + 1) v1 = flatL (s.L.set i ⟨l.beg, v1, l.cls ++ [(bx, bj, j)]⟩) := flatL_set (l' := ⟨l.beg, v1, l.cls ++ [(bx, bj, j)]⟩) hl rfl
  have hmem : ∀ l' ∈ s.L.set i ⟨l.beg, v1, l.cls ++ [(bx, bj, j)]⟩, l' = ⟨l.beg, v1, l.cls ++ [(bx, bj, j)]⟩ ∨ ∃ k, k ≠ i ∧ s.L[k]? = some l' := fun l' hl' => by
    obtain ⟨k, hk⟩ := List.mem_iff_getElem?.1 hl'
    rw [List.getElem?_set] at hk
    by_cases e : i = k
    · rw [if_pos e, if_pos hil] at hk; injection hk with hk; exact Or.inl hk.symm
    · rw [if_neg e] at hk; exact Or.inr ⟨k, fun e' => e e'.symm, hk⟩
  have hnew : ∀ b, v1.ownBlock = some b → l.ends.ownBlock = some b ∨ w.heap.size ≤ b := fun b hb => by
    rcases hat with h1 | h1
    · exact Or.inl (h1 ▸ hb)
    · rw [h1, World.size_alloc] at hb; injection hb with hb; exact Or.inr (by omega)
  have hrow : ∀ k, k < w.heap.size → c.P ⟨s.vout, s.vorg, s.vlo, s.out, s.org, s.L.set i ⟨l.beg, v1, l.cls ++ [(bx, bj, j)]⟩⟩ k → c.P s k := fun k hk hp => by
    rcases hp with hp | hp | ⟨l', hl', e⟩
    · exact Or.inl hp
    · exact Or.inr (Or.inl hp)
    · rcases hmem l' hl' with rfl | ⟨k', _, hk'⟩
      · rcases hnew k e with h1 | h1
        · exact Or.inr (Or.inr ⟨l, hml, h1⟩)
        · omega
      · exact Or.inr (Or.inr ⟨l', List.mem_of_getElem? hk', e⟩)
  have habs : Stt.abs ⟨s.vout, s.vorg, s.vlo, s.out, s.org, s.L.set i ⟨l.beg, v1, l.cls ++ [(bx, bj, j)]⟩⟩ = s.abs.note (s.L.length - 1 - i) j := by
    simp only [Stt.abs, PS.note]
    rw [rev_set hil]
    congr 2
    have e := rev_get hl
    simp only [List.getD, e, Option.getD_some]
    simp [Lp.abs]
  obtain ⟨r1, r2, r3⟩ := rest_of ok h hsp
  refine ⟨⟨s.vout, s.vorg, s.vlo, s.out, s.org, s.L.set i ⟨l.beg, v1, l.cls ++ [(bx, bj, j)]⟩⟩, ⟨⟨code_sp h.code spq fun k hk => q_not h hk, ?_, ?_, ?_, ?_, ?_, r1, r2, r3⟩, hsp, hrow⟩, habs⟩
  · show World.ownsRow _ _ _ _ s.vlo _ _
    rw [List.length_set, ← hset, hv]
    rw [hv] at hlr
    subst hn
    exact (hlr.stored (i * 2 + 1) v1).1
  · intro l' hl'
    rcases hmem l' hl' with rfl | ⟨k, hki, hk⟩
    · rw [List.length_append, List.map_append]
      refine own.kept (grownBy_set w1 g (i * 2 + 1) v1) ?_
      rcases own_other own hlr (by decide) with h1 | h1
      · exact Or.inl h1
      · rw [hg] at h1; exact Or.inr h1
    · have hm' := List.mem_of_getElem? hk
      refine (own_sp (h.lend l' hm') sp1 fun b hb hb' => h.ldis k i l' l hki hk hl b hb hb').kept (grownBy_set w1 g (i * 2 + 1) v1) ?_
      rcases own_other (h.lend l' hm') h.lrow (by decide) with h1 | h1
      · exact Or.inl h1
      · rw [hg] at h1; exact Or.inr h1
  · intro a b la lb hab ha hb q hq
    simp only [List.getElem?_set] at ha hb
    by_cases ea : i = a
    · rw [if_pos ea, if_pos hil] at ha; injection ha with ha; subst ha
      rw [if_neg (by omega)] at hb
      intro hq'
      rcases hnew q hq with h1 | h1
      · exact h.ldis i b l lb (by omega) hl hb q h1 hq'
      · have := ((h.lend lb (List.mem_of_getElem? hb)).lt q hq').2; omega
    · rw [if_neg ea] at ha
      by_cases eb : i = b
      · rw [if_pos eb, if_pos hil] at hb; injection hb with hb; subst hb
        intro hq'
        rcases hnew q hq' with h1 | h1
        · exact h.ldis a i la l (by omega) ha hl q hq h1
        · have := ((h.lend la (List.mem_of_getElem? ha)).lt q hq).2; omega
      · rw [if_neg eb] at hb
        exact h.ldis a b la lb hab ha hb q hq
  · intro l' hl' x hx'
    have old : ∀ l0, l0 ∈ s.L → x ∈ l0.cls → ((w1.setCell ⟨g, i * 2 + 1, none⟩ v1).cell? ⟨x.1, 0, none⟩ = some (.pointer (some ⟨c.Bd, 0, none⟩)) ∧ ¬ c.P ⟨s.vout, s.vorg, s.vlo, s.out, s.org, s.L.set i ⟨l.beg, v1, l.cls ++ [(bx, bj, j)]⟩⟩ x.1) ∧
        ((w1.setCell ⟨g, i * 2 + 1, none⟩ v1).cell? ⟨x.2.1, 0, none⟩ = some (.int .i64 x.2.2) ∧ ¬ c.P ⟨s.vout, s.vorg, s.vlo, s.out, s.org, s.L.set i ⟨l.beg, v1, l.cls ++ [(bx, bj, j)]⟩⟩ x.2.1) := fun l0 hl0 hx0 => by
      obtain ⟨⟨h1, h2⟩, h3, h4⟩ := h.lbox l0 hl0 x hx0
      exact ⟨⟨sp_cell h1 hsp h2, fun hp => h2 (hrow _ (World.block_lt_of_cell? _ _ h1) hp)⟩, sp_cell h3 hsp h4, fun hp => h4 (hrow _ (World.block_lt_of_cell? _ _ h3) hp)⟩
    rcases hmem l' hl' with rfl | ⟨k, hki, hk⟩
    · rcases List.mem_append.1 hx' with hx' | hx'
      · exact old l hml hx'
      · simp at hx'; subst hx'
        exact ⟨⟨sp_cell hx hsp hxp, fun hp => hxp (hrow _ (World.block_lt_of_cell? _ _ hx) hp)⟩, sp_cell hj hsp hjp, fun hp => hjp (hrow _ (World.block_lt_of_cell? _ _ hj) hp)⟩
    · exact old l' (List.mem_of_getElem? hk) hx'
  · rw [habs]
    refine (note_grows h.inv _ j hjl ?_).inv
    have e := rev_get hl
    simp only [Stt.abs, List.getD, e, Option.getD_some]
    simpa [Lp.abs] using hcl

/-- The closures of a loop that is taken off, while they are called: nothing of theirs is changed. -/
structure Ends (c : Cx) (w : World) (s : Stt) (l : Lp) : Prop where
  own : w.ownsRow c.E 140 1 l.ends l.cls.length (l.cls.map clsV)
  np : ∀ b, l.ends.ownBlock = some b → ¬ EmitP c.Bd s.vout s.vorg b
  box : ∀ x ∈ l.cls, (w.cell? ⟨x.1, 0, none⟩ = some (.pointer (some ⟨c.Bd, 0, none⟩)) ∧ ¬ EmitP c.Bd s.vout s.vorg x.1) ∧ (w.cell? ⟨x.2.1, 0, none⟩ = some (.int .i64 x.2.2) ∧ ¬ EmitP c.Bd s.vout s.vorg x.2.1)

theorem ends_sp {c : Cx} {w w' : World} {s s' : Stt} {l : Lp} (h : Ends c w s l) (sp : Sp (EmitP c.Bd s.vout s.vorg) w w') (e1 : s'.vout = s.vout) (e2 : s'.vorg = s.vorg) : Ends c w' s' l := by
  refine ⟨own_sp h.own sp h.np, by rw [e1, e2]; exact h.np, fun x hx => ?_⟩
  obtain ⟨⟨h1, h2⟩, h3, h4⟩ := h.box x hx
  rw [e1, e2]
  exact ⟨⟨sp_cell h1 sp h2, h2⟩, sp_cell h3 sp h4, h4⟩

theorem ends_of {c : Cx} {w : World} {s : Stt} (h : AtS c w s) {l : Lp} (hl : l ∈ s.L) (v1 : Value) {s' : Stt} (e1 : s'.vout = s.vout) (e2 : s'.vorg = s.vorg) : Ends c (w.setCell ⟨c.Bd, 8, none⟩ v1) s' l := by
  have sp : Sp (EmitP c.Bd s.vout s.vorg) w (w.setCell ⟨c.Bd, 8, none⟩ v1) := sp_grown (grownBy_set w c.Bd 8 v1) fun k _ e => by injection e with e; exact Or.inl e.symm
  refine ends_sp (s := s) ⟨h.lend l hl, fun b hb => end_not h hl hb, fun x hx => ?_⟩ sp e1 e2
  obtain ⟨⟨h1, h2⟩, h3, h4⟩ := h.lbox l hl x hx
  exact ⟨⟨h1, fun hp => h2 (Or.inl hp)⟩, h3, fun hp => h4 (Or.inl hp)⟩

/-- The closure that fills a break's jump, on where write stands. -/
theorem fill_at {c : Cx} (ok : CxOK c) {w : World} {s : Stt} (h : AtS c w s) (hb : s.out.length ≤ 1000000000000) {l : Lp} (hl : Ends c w s l) {x : Nat × Nat × Nat} (hx : x ∈ l.cls) (hj : x.2.2 < s.out.length) :
    Calls Try.prog 98 #[.int .i64 s.out.length, .pointer (some ⟨x.1, 0, none⟩), .pointer (some ⟨x.2.1, 0, none⟩)] w fun e w' => (∃ v, e = .returned v) ∧ ∃ s', Go c w s w' s' ∧ s'.abs = s.abs.mark x.2.2 ∧ s'.L = s.L ∧ s'.vlo = s.vlo ∧ Ends c w' s' l := by
  obtain ⟨⟨h1, h2⟩, h3, h4⟩ := hl.box x hx
  refine (fill_any c.E c.Bd x.1 x.2.1 x.2.2 s.out.length _ c.vf c.nm c.ar c.vl _ s.vout s.vorg s.vlo _ s.out s.org w hj hb h.code h1 h3).mono ?_
  intro e w' hp
  obtain ⟨hv, sp, hC⟩ := hp
  exact ⟨hv, ⟨s.vout, s.vorg, s.vlo, setA s.out x.2.2 s.out.length, s.org, s.L⟩, go_code ok h sp hC (fun _ _ h => h) (mark_grows h.inv x.2.2).inv, rfl, rfl, rfl, ends_sp hl sp rfl rfl⟩

end Go.Proofs.Ytecaolkbllbokaa.TG

namespace Go.Proofs.Ytecaolkbllbokaa.TG
open Go.RowKit Go.Great
set_option linter.unusedSimpArgs false
set_option linter.unusedVariables false

theorem loops_some {c : Cx} {w : World} {s : Stt} (h : AtS c w s) (h0 : 0 < s.L.length) : ∃ g cap, s.vlo = .slice (some ⟨g, 0, none⟩) s.L.length cap ∧ g < w.heap.size := by
  have ho := h.lrow
  rcases ho.2 with ⟨_, h1⟩ | ⟨g, cap, cur, hv, hb, hg, hn, hm, _⟩
  · omega
  · exact ⟨g, cap, hv, (Array.getElem?_eq_some_iff.1 hg).1⟩

/-- What is read of a loop. -/
structure LCell (c : Cx) (w : World) (s : Stt) (g cap i : Nat) (l : Lp) : Prop where
  c8 : w.cell? ⟨c.Bd, 8, none⟩ = some (.slice (some ⟨g, 0, none⟩) s.L.length cap)
  l0 : w.cell? ⟨g, i * 2, none⟩ = some (.int .i64 l.beg)
  l1 : w.cell? ⟨g, i * 2 + 1, none⟩ = some l.ends
  fz : w.frozen? ⟨g, i * 2 + 1, none⟩ = false
  lg : g < w.heap.size

theorem loop_cells {c : Cx} {w : World} {s : Stt} (h : AtS c w s) {g cap i : Nat} {l : Lp} (hv : s.vlo = .slice (some ⟨g, 0, none⟩) s.L.length cap) (hl : s.L[i]? = some l) : LCell c w s g cap i l := by
  have hi := (List.getElem?_eq_some_iff.1 hl).1
  have c8 := code_cell h.code 8
  rw [hv] at c8
  have ho := h.lrow
  rw [hv] at ho
  obtain ⟨e0, e1⟩ := flatL_get hl
  exact ⟨c8, by rw [ho.cellAt _ (by omega)]; exact e0, by rw [ho.cellAt _ (by omega)]; exact e1, ho.frozenAt _, (ho.lt g rfl).2⟩

theorem leave_8 {s s1 : PS} {n a b : Nat} {js : List Nat} (h : s.V[n]? = some (b, js)) (e : s1 = s.emit a (14, (b : Int))) : leaveP 8 n s a = (s1, a + 1) := by
  subst e
  unfold leaveP
  simp only [List.getD, h, Option.getD_some]
  simp
theorem leave_7 {s s1 s2 : PS} {n a b : Nat} {js : List Nat} (h : s.V[n]? = some (b, js)) (e : s1 = s.emit a (14, (b : Int))) (e2 : s2 = s1.note n s.out.length) : leaveP 7 n s a = (s2, a + 1) := by
  subst e2; subst e
  unfold leaveP
  simp only [List.getD, h, Option.getD_some]
  simp

theorem gb_alloc {w w' : World} (h : w.grownBy w' none) (o : Obj) : w.grownBy (w'.alloc o) none := grownBy_trans h (World.grownBy_alloc w' o none)

theorem lv_alloc {W : World} {N g i : Nat} {x y z : Value} {o : Obj} {b : Nat} (f0 : W.cell? ⟨N, 0, none⟩ = some x) (f1 : W.cell? ⟨N + 1, 0, none⟩ = some y) (f2 : W.cell? ⟨g, i * 2, none⟩ = some z) (n0 : N < W.heap.size) (n1 : N + 1 < W.heap.size) (n2 : g < W.heap.size) (n3 : b < W.heap.size) :
    (W.alloc o).cell? ⟨N, 0, none⟩ = some x ∧ (W.alloc o).cell? ⟨N + 1, 0, none⟩ = some y ∧ (W.alloc o).cell? ⟨g, i * 2, none⟩ = some z ∧ N < (W.alloc o).heap.size ∧ N + 1 < (W.alloc o).heap.size ∧ g < (W.alloc o).heap.size ∧ b < (W.alloc o).heap.size :=
  ⟨(World.grownBy_alloc W o none).cell f0 (by simp), (World.grownBy_alloc W o none).cell f1 (by simp), (World.grownBy_alloc W o none).cell f2 (by simp), by simp; omega, by simp; omega, by simp; omega, by simp; omega⟩

theorem lv_set {W : World} {N g i q : Nat} {x y z v : Value} {b : Nat} (f0 : W.cell? ⟨N, 0, none⟩ = some x) (f1 : W.cell? ⟨N + 1, 0, none⟩ = some y) (f2 : W.cell? ⟨g, i * 2, none⟩ = some z) (n0 : N < W.heap.size) (n1 : N + 1 < W.heap.size) (n2 : g < W.heap.size) (n3 : b < W.heap.size)
    (m0 : N < q) (m1 : N + 1 < q) (m2 : g < q) :
    (W.setCell ⟨q, 0, none⟩ v).cell? ⟨N, 0, none⟩ = some x ∧ (W.setCell ⟨q, 0, none⟩ v).cell? ⟨N + 1, 0, none⟩ = some y ∧ (W.setCell ⟨q, 0, none⟩ v).cell? ⟨g, i * 2, none⟩ = some z ∧ N < (W.setCell ⟨q, 0, none⟩ v).heap.size ∧ N + 1 < (W.setCell ⟨q, 0, none⟩ v).heap.size ∧ g < (W.setCell ⟨q, 0, none⟩ v).heap.size ∧ b < (W.setCell ⟨q, 0, none⟩ v).heap.size :=
  ⟨(grownBy_set W q 0 v).cell f0 (by simp; omega), (grownBy_set W q 0 v).cell f1 (by simp; omega), (grownBy_set W q 0 v).cell f2 (by simp; omega), by simp; omega, by simp; omega, by simp; omega, by simp; omega⟩

theorem lv_call {c : Cx} {W w1 : World} {s s1 : Stt} {N g i cap : Nat} {l : Lp} {x y : Value} (g1 : Go c W s w1 s1) (l1 : s1.L = s.L) (v1 : s1.vlo = s.vlo) (hv : s.vlo = .slice (some ⟨g, 0, none⟩) s.L.length cap) (hl : s.L[i]? = some l) (p0 : ¬ c.P s N) (p1 : ¬ c.P s (N + 1))
    (f0 : W.cell? ⟨N, 0, none⟩ = some x) (f1 : W.cell? ⟨N + 1, 0, none⟩ = some y) :
    w1.cell? ⟨N, 0, none⟩ = some x ∧ w1.cell? ⟨N + 1, 0, none⟩ = some y ∧ w1.cell? ⟨g, i * 2, none⟩ = some (.int .i64 l.beg) ∧ N < w1.heap.size ∧ N + 1 < w1.heap.size ∧ g < w1.heap.size ∧ c.Bd < w1.heap.size := by
  have h0 := sp_cell f0 g1.sp p0
  have h1 := sp_cell f1 g1.sp p1
  have hc := loop_cells g1.at_ (g := g) (cap := cap) (i := i) (l := l) (by rw [v1, l1]; exact hv) (by rw [l1]; exact hl)
  exact ⟨h0, h1, hc.l0, World.block_lt_of_cell? _ _ h0, World.block_lt_of_cell? _ _ h1, hc.lg, at_size g1.at_⟩

theorem lv_callC {c : Cx} {W w1 : World} {s s1 : Stt} {N g i cap : Nat} {l : Lp} {x y z : Value} (g1 : Go c W s w1 s1) (l1 : s1.L = s.L) (v1 : s1.vlo = s.vlo) (hv : s.vlo = .slice (some ⟨g, 0, none⟩) s.L.length cap) (hl : s.L[i]? = some l) (p0 : ¬ c.P s N) (p1 : ¬ c.P s (N + 1))
    (f : W.cell? ⟨N, 0, none⟩ = some x ∧ W.cell? ⟨N + 1, 0, none⟩ = some y ∧ W.cell? ⟨g, i * 2, none⟩ = some z ∧ N < W.heap.size ∧ N + 1 < W.heap.size ∧ g < W.heap.size ∧ c.Bd < W.heap.size) :
    w1.cell? ⟨N, 0, none⟩ = some x ∧ w1.cell? ⟨N + 1, 0, none⟩ = some y ∧ w1.cell? ⟨g, i * 2, none⟩ = some (.int .i64 l.beg) ∧ N < w1.heap.size ∧ N + 1 < w1.heap.size ∧ g < w1.heap.size ∧ c.Bd < w1.heap.size :=
  lv_call g1 l1 v1 hv hl p0 p1 f.1 f.2.1

theorem lv_box {c : Cx} {w V w1 : World} {s s1 : Stt} {v : Value} {ty : TypeId} {b : Nat} (h : AtS c w s) (hw : w.heap.size ≤ b) (g1 : Go c V s w1 s1) (hb : V.heap[b]? = some (.cells #[v] ty (0, 0))) : w1.cell? ⟨b, 0, none⟩ = some v ∧ w1.frozen? ⟨b, 0, none⟩ = false ∧ b < w1.heap.size := by
  have hb1 : w1.heap[b]? = some (.cells #[v] ty (0, 0)) := by
    rw [g1.sp.block b (Array.getElem?_eq_some_iff.1 hb).1 (p_new h hw)]; exact hb
  exact ⟨cell_of_row w1 _ 0 _ _ _ hb1, frozen_of_row w1 _ 0 _ _ hb1, (Array.getElem?_eq_some_iff.1 hb1).1⟩

/-- Ahead of leave's emit. -/
structure LvPre (c : Cx) (w W : World) (s : Stt) (g i N : Nat) (k : Int) (l : Lp) : Prop where
  f0 : W.cell? ⟨N, 0, none⟩ = some (.pointer (some ⟨c.Bd, 0, none⟩))
  f1 : W.cell? ⟨N + 1, 0, none⟩ = some (.int .i64 k)
  f2 : W.cell? ⟨g, i * 2, none⟩ = some (.int .i64 l.beg)
  n0 : N < W.heap.size
  n1 : N + 1 < W.heap.size
  n2 : g < W.heap.size
  n3 : c.Bd < W.heap.size
  gr : w.grownBy W none
  p0 : ¬ c.P s N
  p1 : ¬ c.P s (N + 1)

theorem lv_pre {c : Cx} {w : World} {s : Stt} (h : AtS c w s) {g cap i : Nat} {k n kc : Int} {l : Lp} (hc : LCell c w s g cap i l) (nq : Nat) :
    LvPre c w (((w.alloc (.cells #[.pointer (some ⟨c.Bd, 0, none⟩)] 110)).alloc (.cells #[.int .i64 k, .int .i64 n, .int .i64 kc] 108)).drewN nq) s g i w.heap.size k l := by
  have g1 : w.grownBy (((w.alloc (.cells #[.pointer (some ⟨c.Bd, 0, none⟩)] 110)).alloc (.cells #[.int .i64 k, .int .i64 n, .int .i64 kc] 108)).drewN nq) none :=
    grownBy_trans (gb_alloc (World.grownBy_alloc _ _ none) _) (grownBy_drewN _ nq none)
  have g2 : (w.alloc (.cells #[.pointer (some ⟨c.Bd, 0, none⟩)] 110)).grownBy (((w.alloc (.cells #[.pointer (some ⟨c.Bd, 0, none⟩)] 110)).alloc (.cells #[.int .i64 k, .int .i64 n, .int .i64 kc] 108)).drewN nq) none :=
    grownBy_trans (World.grownBy_alloc _ _ none) (grownBy_drewN _ nq none)
  have hf0 : (w.alloc (.cells #[.pointer (some ⟨c.Bd, 0, none⟩)] 110)).cell? ⟨w.heap.size, 0, none⟩ = some (.pointer (some ⟨c.Bd, 0, none⟩)) := one_new w _ _ 0 _ rfl
  have e1 : (((w.alloc (.cells #[.pointer (some ⟨c.Bd, 0, none⟩)] 110)).alloc (.cells #[.int .i64 k, .int .i64 n, .int .i64 kc] 108)).drewN nq).cell? ⟨w.heap.size + 1, 0, none⟩ = some (.int .i64 k) := by
    have := copy_new (w.alloc (.cells #[.pointer (some ⟨c.Bd, 0, none⟩)] 110)) k n kc
    rw [World.size_alloc] at this
    exact copy_0 this
  have f0 := g2.cell hf0 (by simp)
  have f2 := g1.cell hc.l0 (by simp)
  exact ⟨f0, e1, f2, World.block_lt_of_cell? _ _ f0, World.block_lt_of_cell? _ _ e1, World.block_lt_of_cell? _ _ f2, Nat.lt_of_lt_of_le (at_size h) g1.size, g1, p_new h (Nat.le_refl _), p_new h (by omega)⟩

theorem at_new {c : Cx} {w1 : World} {s1 : Stt} (h : AtS c w1 s1) {b : Nat} {v : Value} (hp : ¬ c.P s1 b) (hE : c.E ≤ b) (hB : c.B ≤ c.Bd) (hx : ∀ l ∈ s1.L, ∀ x ∈ l.cls, x.1 ≠ b ∧ x.2.1 ≠ b) : AtS c (w1.setCell ⟨b, 0, none⟩ v) s1 := by
  have hlt := h.code.lt
  have sp : Sp (fun k => k = b) w1 (w1.setCell ⟨b, 0, none⟩ v) := sp_grown (grownBy_set w1 b 0 v) fun k _ e => by injection e with e; exact e.symm
  have hlow : ∀ k, k < c.E → (w1.setCell ⟨b, 0, none⟩ v).heap[k]? = w1.heap[k]? := fun k hk => sp.block k (Nat.lt_of_lt_of_le hk h.code.le) (by omega)
  refine ⟨code_sp h.code sp fun k hk he => hp (by subst hk; exact Or.inl he), own_sp h.lrow sp fun k hk he => hp (by subst he; exact Or.inr (Or.inl hk)), fun l hl => own_sp (h.lend l hl) sp fun k hk he => hp (by subst he; exact Or.inr (Or.inr ⟨l, hl, hk⟩)), h.ldis, fun l hl x hx' => ?_, h.inv,
    partsB_sp h.pa fun k hk => hlow k (by omega), kinds_kept h.ki fun k h1 h2 => hlow k h2, texts_sp h.tx fun k hk => hlow k (by omega)⟩
  obtain ⟨⟨h1, h2⟩, h3, h4⟩ := h.lbox l hl x hx'
  obtain ⟨n1, n2⟩ := hx l hl x hx'
  exact ⟨⟨sp_cell h1 sp n1, h2⟩, sp_cell h3 sp n2, h4⟩

theorem go_new {c : Cx} (ok : CxOK c) {w w1 : World} {s s1 : Stt} (h : AtS c w s) (g : Go c w s w1 s1) (hL : s1.L = s.L) {b : Nat} {v : Value} (hb : w.heap.size ≤ b) (hp : ¬ c.P s1 b) : Go c w s (w1.setCell ⟨b, 0, none⟩ v) s1 := by
  have hle := h.code.le
  refine ⟨at_new g.at_ hp (by omega) ok.lB (fun l hl x hx => ?_), sp_trans g.sp (sp_grown (P := fun k => k = b) (grownBy_set w1 b 0 v) fun k _ e => by injection e with e; exact e.symm) (fun k hk e => by omega), g.row⟩
  rw [hL] at hl
  obtain ⟨⟨h1, _⟩, h3, _⟩ := h.lbox l hl x hx
  have h5 : x.1 < w.heap.size := World.block_lt_of_cell? _ _ h1
  have h6 : x.2.1 < w.heap.size := World.block_lt_of_cell? _ _ h3
  exact ⟨by omega, by omega⟩

/-- Behind leave's emit, its jump in a box. -/
structure LvPost (c : Cx) (w wF : World) (s s1 : Stt) (at_ N bj : Nat) (k : Int) (l : Lp) : Prop where
  go : Go c w s wF s1
  abs : s1.abs = s.abs.emit at_ (14, (l.beg : Int))
  L : s1.L = s.L
  lo : s1.vlo = s.vlo
  f0 : wF.cell? ⟨N, 0, none⟩ = some (.pointer (some ⟨c.Bd, 0, none⟩))
  f1 : wF.cell? ⟨N + 1, 0, none⟩ = some (.int .i64 k)
  fj : wF.cell? ⟨bj, 0, none⟩ = some (.int .i64 s.out.length)
  q0 : ¬ c.P s1 N
  qj : ¬ c.P s1 bj

theorem lv_A {c : Cx} (ok : CxOK c) {w W V w1 : World} {s s1 : Stt} {at_ g i N : Nat} {k : Int} {l : Lp} (h : AtS c w s) (pre : LvPre c w W s g i N k l) (gv : W.grownBy V none) (g1 : Go c V s w1 s1) (a1 : s1.abs = s.abs.emit at_ (14, (l.beg : Int))) (l1 : s1.L = s.L) (v1 : s1.vlo = s.vlo)
    (k0 : w1.cell? ⟨N, 0, none⟩ = some (.pointer (some ⟨c.Bd, 0, none⟩))) (k1 : w1.cell? ⟨N + 1, 0, none⟩ = some (.int .i64 k)) : LvPost c w (w1.alloc (.cells #[.int .i64 s.out.length] 3)) s s1 at_ N w1.heap.size k l := by
  have gw := go_grown ok h (grownBy_trans pre.gr gv)
  have ga := go_alloc ok g1.at_ (.cells #[.int .i64 s.out.length] 3)
  exact ⟨go_trans (go_trans gw g1) ga, a1, l1, v1, (World.grownBy_alloc _ _ none).cell k0 (by simp), (World.grownBy_alloc _ _ none).cell k1 (by simp), one_new w1 _ _ 0 _ rfl, fun hp => pre.p0 (g1.row _ (Nat.lt_of_lt_of_le pre.n0 gv.size) hp), p_new g1.at_ (Nat.le_refl _)⟩

theorem lv_B {c : Cx} (ok : CxOK c) {w W V w1 : World} {s s1 : Stt} {at_ g i N : Nat} {k : Int} {l : Lp} (h : AtS c w s) (pre : LvPre c w W s g i N k l) (gv : W.grownBy V none) (hV : W.heap.size < V.heap.size) (g1 : Go c V s w1 s1) (a1 : s1.abs = s.abs.emit at_ (14, (l.beg : Int))) (l1 : s1.L = s.L) (v1 : s1.vlo = s.vlo)
    (k0 : w1.cell? ⟨N, 0, none⟩ = some (.pointer (some ⟨c.Bd, 0, none⟩))) (k1 : w1.cell? ⟨N + 1, 0, none⟩ = some (.int .i64 k)) (kb : w1.cell? ⟨W.heap.size, 0, none⟩ = some (.int .i64 0)) (kz : w1.frozen? ⟨W.heap.size, 0, none⟩ = false) :
    LvPost c w (w1.setCell ⟨W.heap.size, 0, none⟩ (.int .i64 s.out.length)) s s1 at_ N W.heap.size k l := by
  have gw := go_grown ok h (grownBy_trans pre.gr gv)
  have hp : ¬ c.P s1 W.heap.size := fun hp => p_new h pre.gr.size (g1.row _ hV hp)
  refine ⟨go_new ok h (go_trans gw g1) l1 pre.gr.size hp, a1, l1, v1, (grownBy_set w1 W.heap.size 0 _).cell k0 (by have := pre.n0; simp; omega), (grownBy_set w1 W.heap.size 0 _).cell k1 (by have := pre.n1; simp; omega), ?_, fun hp => pre.p0 (g1.row _ (Nat.lt_of_lt_of_le pre.n0 gv.size) hp), hp⟩
  exact World.cell?_setCell_same w1 _ _ kb

theorem fn2_und : Try.prog.underlying 178 = some (.slice 140) := by kernel_rfl
theorem fn2_info : (Try.prog.info? 140).map (fun i => (i.zero, i.size, i.bytes)) = some (some .nilFunc, 1, 8) := by kernel_rfl
theorem cls_cell (x : Nat × Nat × Nat) : ∀ u ∈ [clsV x], u.oneCell' = true := by intro u hu; simp at hu; subst hu; rfl

theorem lv_cnt {c : Cx} {w : World} {s : Stt} (h : AtS c w s) {i : Nat} {l : Lp} (hl : s.L[i]? = some l) : l.cls.length ≤ s.out.length := by
  have := h.inv.jc l.abs (by
    show l.abs ∈ (s.L.map Lp.abs).reverse
    rw [List.mem_reverse]
    exact List.mem_map_of_mem (List.mem_of_getElem? hl))
  simpa [Lp.abs, Stt.abs] using this

theorem lv_store {c : Cx} {wF w2 : World} {s1 : Stt} (h : AtS c wF s1) {g cap i : Nat} {l : Lp} (hv : s1.vlo = .slice (some ⟨g, 0, none⟩) s1.L.length cap) (hl : s1.L[i]? = some l) {o : Obj} (gr : (wF.alloc o).grownBy w2 l.ends.ownBlock) :
    w2.cell? ⟨g, i * 2 + 1, none⟩ = some l.ends ∧ w2.frozen? ⟨g, i * 2 + 1, none⟩ = false ∧ g < w2.heap.size := by
  have hml := List.mem_of_getElem? hl
  have hi := (List.getElem?_eq_some_iff.1 hl).1
  have sp1 : Sp (fun k => l.ends.ownBlock = some k) wF w2 := sp_trans (sp_grown (P := fun k => l.ends.ownBlock = some k) (World.grownBy_alloc wF o none) (by simp)) (sp_grown (P := fun k => l.ends.ownBlock = some k) gr fun k _ e => e) (fun _ _ h => h)
  have ho := own_sp h.lrow sp1 fun k hk => own_unlike h.lrow (h.lend l hml) (by decide) hk
  rw [hv] at ho
  obtain ⟨e0, e1⟩ := flatL_get hl
  exact ⟨by rw [ho.cellAt _ (by omega)]; exact e1, ho.frozenAt _, (ho.lt g rfl).2⟩

theorem leave_end {c : Cx} (ok : CxOK c) {w wF w2 : World} {s s1 : Stt} {at_ g cap i n N bj : Nat} {l : Lp} {v1 : Value} {o : Obj} (LP : LvPost c w wF s s1 at_ N bj 7 l) (hv : s.vlo = .slice (some ⟨g, 0, none⟩) s.L.length cap) (hl : s.L[i]? = some l) (hn : s.L.length - 1 - i = n) (h : AtS c w s)
    (vi : s.abs.V[n]? = some l.abs) (own : w2.ownsRow c.E 140 1 v1 (l.cls.length + 1) (l.cls.map clsV ++ [clsV (N, bj, s.out.length)])) (gr : (wF.alloc o).grownBy w2 l.ends.ownBlock) (hat : v1.ownBlock = l.ends.ownBlock ∨ v1.ownBlock = some (wF.alloc o).heap.size) (e : Ending) (he : e = .returned (.int .i64 ((at_ + 1 : Nat) : Int))) :
    WP c w s (leaveP 7 n s.abs at_) e (w2.setCell ⟨g, i * 2 + 1, none⟩ v1) := by
  have hl1 : s1.L[i]? = some l := by rw [LP.L]; exact hl
  have hlen := emit_len LP.abs
  have hcnt := lv_cnt h hl
  obtain ⟨s', g2, e2⟩ := go_note ok LP.go.at_ hl1 (g := g) (n := s.L.length) (cap := cap) (by rw [LP.lo]; exact hv) (by rw [LP.L]) own gr hat LP.f0 LP.q0 LP.fj LP.qj (by omega) (by omega)
  rw [LP.L, hn] at e2
  rw [leave_7 (b := l.beg) (js := l.cls.map fun x => x.2.2) vi LP.abs e2]
  exact ⟨he, s', go_trans LP.go g2, rfl⟩

set_option maxRecDepth 100000 in
set_option maxHeartbeats 4000000 in
theorem leave_any (c : Cx) (ok : CxOK c) (s : Stt) (at_ : Nat) (w : World) (k n kc : Int) (hk : k = 7 ∨ k = 8) (hp : c.ps[at_]? = some (k, n, kc)) (hn0 : 0 ≤ n) (hn : n < s.L.length) (hLm : s.L.length ≤ 1000) (h : AtS c w s) (hb : s.out.length + 8 * (c.ps.length - at_) + 8 ≤ 1000000000000) :
    Calls Try.prog 77 #[.pointer (some ⟨c.Bd, 0, none⟩), .int .i64 at_] w (WP c w s (leaveP k n.toNat s.abs at_)) := by
  have hja : at_ < c.ps.length := (List.getElem?_eq_some_iff.1 hp).1
  obtain ⟨bp, op, hpp⟩ := pp_some h hja
  obtain ⟨g, cap, hv, hg⟩ := loops_some h (by omega)
  obtain ⟨i, hi⟩ : ∃ i, i = s.L.length - 1 - n.toNat := ⟨_, rfl⟩
  obtain ⟨l, hl⟩ : ∃ l, s.L[i]? = some l := ⟨_, List.getElem?_eq_getElem (by omega)⟩
  have hji : (at_ : Int) < (c.ps.length : Int) := by omega
  have hnp := ok.np
  obtain ⟨c5, p0, p1, p2, lb, ld⟩ := part_cells h hpp hp
  have LC := Lib.hid (loop_cells h hv hl)
  obtain ⟨c8, l0, l1, fz, lg⟩ := LC.out
  have EM := Lib.hid (fun (w' : World) (g : w.grownBy w' none) => emit_at ok (go_grown ok h g).at_ (by omega) at_ 14 l.beg)
  have hidx : (s.L.length : Int) - 1 - n = (i : Int) := by omega
  have hi1 : (i : Int) < (s.L.length : Int) := by omega
  have HL := Lib.hid hl
  have HV := Lib.hid hv
  have HH := Lib.hid h
  clear hl h hp hi hv
  go_enter Try.func77, Try.ntmps77
  go_wp2
  go_quiet (fail)
  go_wp2
  have PRE := Lib.hid (lv_pre (k := k) (n := n) (kc := kc) HH.out LC.out nq)
  clear c5 p0 p1 p2 lb ld c8 l0 l1 fz lg hg
  generalize w.heap.size = N at *
  generalize ((w.alloc (.cells #[.pointer (some ⟨c.Bd, 0, none⟩)] 110)).alloc (.cells #[.int .i64 k, .int .i64 n, .int .i64 kc] 108)).drewN nq = W at *
  obtain ⟨f0, f1, f2, n0, n1, n2, n3, gr, p0, p1⟩ := PRE.out
  go_region_held3 (fun W' => W'.cell? ⟨N, 0, none⟩ = some (.pointer (some ⟨c.Bd, 0, none⟩)) ∧ W'.cell? ⟨N + 1, 0, none⟩ = some (.int .i64 k) ∧ W'.cell? ⟨g, i * 2, none⟩ = some (.int .i64 l.beg) ∧ N < W'.heap.size ∧ N + 1 < W'.heap.size ∧ g < W'.heap.size ∧ c.Bd < W'.heap.size) (first | exact ⟨by assumption, by assumption, by assumption, by assumption, by assumption, by assumption, by assumption⟩ | assumption | exact lv_alloc (by assumption) (by assumption) (by assumption) (by assumption) (by assumption) (by assumption) (by assumption) | exact lv_set (by assumption) (by assumption) (by assumption) (by assumption) (by assumption) (by assumption) (by assumption) (by assumption) (by assumption) (by assumption)) (first | (go_at_call 44; refine (EM.out _ (by (repeat (first | assumption | exact grownBy_refl _ none | refine grownBy_drew ?_ | refine gb_alloc ?_ _)))).mono ?_; intro e w1 hq; obtain ⟨rfl, s1, g1, a1, l1, v1⟩ := hq; have G1 := Lib.hid g1; have A1 := Lib.hid a1; have L1 := Lib.hid l1; have V1 := Lib.hid v1; have K1 := lv_callC g1 l1 v1 HV.out HL.out p0 p1 (by first | assumption | exact ⟨by assumption, by assumption, by assumption, by assumption, by assumption, by assumption, by assumption⟩); obtain ⟨k1, k2, k3, k4, k5, k6, k7⟩ := K1; try (have KB : w1.cell? ⟨W.heap.size, 0, none⟩ = some (.int .i64 0) ∧ w1.frozen? ⟨W.heap.size, 0, none⟩ = false ∧ W.heap.size < w1.heap.size := lv_box (v := .int .i64 0) (ty := 3) HH.out gr.size g1 (heap_alloc_new _ _); obtain ⟨kb1, kb2, kb3⟩ := KB); clear g1 a1 l1 v1))
  all_goals (first
    | have LP := Lib.hid (lv_B ok HH.out PRE.out (by (repeat (first | assumption | exact grownBy_refl _ none | refine grownBy_drew ?_ | refine gb_alloc ?_ _))) (by simp) G1.out A1.out L1.out V1.out k1 k2 kb1 kb2)
    | have LP := Lib.hid (lv_A ok HH.out PRE.out (by (repeat (first | assumption | exact grownBy_refl _ none | refine grownBy_drew ?_ | refine gb_alloc ?_ _))) G1.out A1.out L1.out V1.out k1 k2))
  all_goals clear EM
  all_goals (first
    | (have _t := kb1; clear _t; generalize w1.setCell ⟨W.heap.size, 0, none⟩ (.int .i64 s.out.length) = wF at *; generalize W.heap.size = bj at *)
    | (generalize w1.alloc (.cells #[.int .i64 s.out.length] 3) = wF at *; generalize w1.heap.size = bj at *))
  all_goals
    have q1 := LP.out.f1
    have hVi := rev_get HL.out
    rw [show s.L.length - 1 - i = n.toNat by omega] at hVi
    have VI := Lib.hid hVi
    clear hVi
    rcases hk with rfl | rfl
  · (
      have LP2 := Lib.hid (loop_cells LP.out.go.at_ (by rw [LP.out.lo, LP.out.L]; exact HV.out) (by rw [LP.out.L]; exact HL.out))
      obtain ⟨d8, m0, m1, mz, mg⟩ := LP2.out
      have hcnt := lv_cnt HH.out HL.out
      obtain ⟨j0, hj, hy0, hy1, hy2⟩ := info_parts fn2_info
      have hc5 : l.cls.length + 1 ≤ maxLen := by unfold maxLen; omega
      have hc6 : (l.cls.length + 1) * 8 ≤ 140737488355328 := by omega
      have hE1 : ∀ o, c.E ≤ (wF.alloc o).heap.size := fun o => by have := LP.out.go.at_.code.le; simp; omega
      have OWN := Lib.hid (LP.out.go.at_.lend l (by rw [LP.out.L]; exact List.mem_of_getElem? HL.out))
      have hbj := World.block_lt_of_cell? _ _ LP.out.fj
      have hbN := World.block_lt_of_cell? _ _ LP.out.f0
      go_wp2_with (at_builtin; refine wpList_append_own_at _ rfl _ _ 178 rfl c.E 140 j0 .nilFunc 1 8 fn2_und hj hy0 hy1 hy2 rfl (by decide) _ _ _ rfl (OWN.out.alloc _) ⟨wF.heap.size, 0, none⟩ 1 1 [clsV (N, bj, s.out.length)] rfl rfl (one_new wF _ _) (cls_cell _) hc5 hc6 (hE1 _) ?_; intro v9 w9 hown9 hgr9 hnil9 hat9; obtain ⟨g9, k9, hv9⟩ := own_succ hown9; subst hv9; have ST := lv_store LP.out.go.at_ (by rw [LP.out.lo, LP.out.L]; exact HV.out) (by rw [LP.out.L]; exact HL.out) hgr9; obtain ⟨t1, t2, t3⟩ := ST; have OW9 := Lib.hid hown9; have GR9 := Lib.hid hgr9; have AT9 := Lib.hid hat9; clear hown9 hgr9 hnil9 hat9)
      go_ret
      exact leave_end ok LP.out HV.out HL.out (by omega) HH.out VI.out OW9.out GR9.out AT9.out _ (ret_int (by go_num)))
  · go_wp2
    go_ret
    rw [leave_8 VI.out LP.out.abs]
    exact ⟨ret_int (by go_num), _, LP.out.go, rfl⟩
  · (
      have LP2 := Lib.hid (loop_cells LP.out.go.at_ (by rw [LP.out.lo, LP.out.L]; exact HV.out) (by rw [LP.out.L]; exact HL.out))
      obtain ⟨d8, m0, m1, mz, mg⟩ := LP2.out
      have hcnt := lv_cnt HH.out HL.out
      obtain ⟨j0, hj, hy0, hy1, hy2⟩ := info_parts fn2_info
      have hc5 : l.cls.length + 1 ≤ maxLen := by unfold maxLen; omega
      have hc6 : (l.cls.length + 1) * 8 ≤ 140737488355328 := by omega
      have hE1 : ∀ o, c.E ≤ (wF.alloc o).heap.size := fun o => by have := LP.out.go.at_.code.le; simp; omega
      have OWN := Lib.hid (LP.out.go.at_.lend l (by rw [LP.out.L]; exact List.mem_of_getElem? HL.out))
      have hbj := World.block_lt_of_cell? _ _ LP.out.fj
      have hbN := World.block_lt_of_cell? _ _ LP.out.f0
      go_wp2_with (at_builtin; refine wpList_append_own_at _ rfl _ _ 178 rfl c.E 140 j0 .nilFunc 1 8 fn2_und hj hy0 hy1 hy2 rfl (by decide) _ _ _ rfl (OWN.out.alloc _) ⟨wF.heap.size, 0, none⟩ 1 1 [clsV (N, bj, s.out.length)] rfl rfl (one_new wF _ _) (cls_cell _) hc5 hc6 (hE1 _) ?_; intro v9 w9 hown9 hgr9 hnil9 hat9; obtain ⟨g9, k9, hv9⟩ := own_succ hown9; subst hv9; have ST := lv_store LP.out.go.at_ (by rw [LP.out.lo, LP.out.L]; exact HV.out) (by rw [LP.out.L]; exact HL.out) hgr9; obtain ⟨t1, t2, t3⟩ := ST; have OW9 := Lib.hid hown9; have GR9 := Lib.hid hgr9; have AT9 := Lib.hid hat9; clear hown9 hgr9 hnil9 hat9)
      go_ret
      exact leave_end ok LP.out HV.out HL.out (by omega) HH.out VI.out OW9.out GR9.out AT9.out _ (ret_int (by go_num)))
  · go_wp2
    go_ret
    rw [leave_8 VI.out LP.out.abs]
    exact ⟨ret_int (by go_num), _, LP.out.go, rfl⟩

end Go.Proofs.Ytecaolkbllbokaa.TG
