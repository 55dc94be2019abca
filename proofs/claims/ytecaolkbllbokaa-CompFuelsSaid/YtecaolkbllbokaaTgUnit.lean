/-
  A unit of the small language as plain data, where it lies in memory, and what package tongue's Check answers. Conditions: as each theorem states.
-/
import Derived.Test.YtecaolkbllbokaaTgAll
namespace Go.Proofs.Ytecaolkbllbokaa.TG
open Go.RowKit Go.Great
set_option linter.unusedSimpArgs false
set_option linter.unusedVariables false

/-- A function. -/
structure Fun where
  name : ByteArray
  args : Int
  locals : List ByteArray
  parts : List (Int × Int × Int)

/-- A unit: texts (a name, bytes) and functions. -/
structure Un where
  texts : List (ByteArray × List Int)
  funcs : List Fun

def BytesB (w : World) (B : Nat) (p : Option Addr) (l : List Int) : Prop := 0 < l.length → ∃ b off : Nat, p = some ⟨b, off, none⟩ ∧ b < B ∧ ∀ i, i < l.length → w.cell? ⟨b, off + i, none⟩ = some (.int .u8 (l.getD i 0))
def StrsB (w : World) (B : Nat) (p : Option Addr) (l : List ByteArray) : Prop := 0 < l.length → ∃ b off : Nat, p = some ⟨b, off, none⟩ ∧ b < B ∧ ∀ i (h : i < l.length), w.cell? ⟨b, off + i, none⟩ = some (.string l[i])

def TextsAt (w : World) (B : Nat) (p : Option Addr) (ts : List (ByteArray × List Int)) : Prop := 0 < ts.length → ∃ b o : Nat, p = some ⟨b, o, none⟩ ∧ b < B ∧ ∀ i nm d, ts[i]? = some (nm, d) →
  w.cell? ⟨b, o + i * 2, none⟩ = some (.string nm) ∧ ∃ (pd : Option Addr) (cd : Nat), w.cell? ⟨b, o + i * 2 + 1, none⟩ = some (.slice pd d.length cd) ∧ BytesB w B pd d

def FunsAt (w : World) (B : Nat) (p : Option Addr) (us : List Fun) : Prop := 0 < us.length → ∃ b o : Nat, p = some ⟨b, o, none⟩ ∧ b < B ∧ ∀ i f, us[i]? = some f →
  w.cell? ⟨b, o + i * 4, none⟩ = some (.string f.name) ∧ w.cell? ⟨b, o + i * 4 + 1, none⟩ = some (.int .i64 f.args) ∧
  (∃ (pl : Option Addr) (cl : Nat), w.cell? ⟨b, o + i * 4 + 2, none⟩ = some (.slice pl f.locals.length cl) ∧ StrsB w B pl f.locals) ∧
  (∃ (pp : Option Addr) (cp : Nat), w.cell? ⟨b, o + i * 4 + 3, none⟩ = some (.slice pp f.parts.length cp) ∧ PartsB w B pp f.parts)

/-- The unit lies in memory, below block B. -/
structure UnitAt (w : World) (B : Nat) (pt : Option Addr) (pf : Option Addr) (u : Un) : Prop where
  le : B ≤ w.heap.size
  texts : TextsAt w B pt u.texts
  funcs : FunsAt w B pf u.funcs

/-- Its sizes are such as memory can hold. -/
structure UnWF (u : Un) : Prop where
  nt : u.texts.length ≤ 17592186044415
  nf : u.funcs.length ≤ 17592186044415
  text : ∀ x ∈ u.texts, x.1.size ≤ maxLen ∧ x.2.length ≤ 17592186044415
  name : ∀ f ∈ u.funcs, f.name.size ≤ maxLen ∧ f.locals.length ≤ 17592186044415 ∧ f.parts.length ≤ 17592186044415 ∧ ∀ s ∈ f.locals, s.size ≤ maxLen

theorem cell_low {w w' : World} {row : Option Nat} {B b o : Nat} {v : Value} (g : w.grownBy w' row) (hr : ∀ r, row = some r → B ≤ r) (hb : b < B) (h : w.cell? ⟨b, o, none⟩ = some v) : w'.cell? ⟨b, o, none⟩ = some v :=
  g.cell h (by intro e; have := hr b e.symm; omega)

theorem bytesB_kept {w w' : World} {row : Option Nat} {B : Nat} {p : Option Addr} {l : List Int} (h : BytesB w B p l) (g : w.grownBy w' row) (hr : ∀ r, row = some r → B ≤ r) : BytesB w' B p l := fun h0 => by
  obtain ⟨b, o, e, hb, hc⟩ := h h0
  exact ⟨b, o, e, hb, fun i hi => cell_low g hr hb (hc i hi)⟩
theorem strsB_kept {w w' : World} {row : Option Nat} {B : Nat} {p : Option Addr} {l : List ByteArray} (h : StrsB w B p l) (g : w.grownBy w' row) (hr : ∀ r, row = some r → B ≤ r) : StrsB w' B p l := fun h0 => by
  obtain ⟨b, o, e, hb, hc⟩ := h h0
  exact ⟨b, o, e, hb, fun i hi => cell_low g hr hb (hc i hi)⟩
theorem partsB_kept {w w' : World} {row : Option Nat} {B : Nat} {p : Option Addr} {l : List (Int × Int × Int)} (h : PartsB w B p l) (g : w.grownBy w' row) (hr : ∀ r, row = some r → B ≤ r) : PartsB w' B p l := fun h0 => by
  obtain ⟨b, o, e, hb, hc⟩ := h h0
  refine ⟨b, o, e, hb, fun j k n kc hj => ?_⟩
  obtain ⟨h1, h2, h3⟩ := hc j k n kc hj
  exact ⟨cell_low g hr hb h1, cell_low g hr hb h2, cell_low g hr hb h3⟩
theorem textsAt_kept {w w' : World} {row : Option Nat} {B : Nat} {p : Option Addr} {l : List (ByteArray × List Int)} (h : TextsAt w B p l) (g : w.grownBy w' row) (hr : ∀ r, row = some r → B ≤ r) : TextsAt w' B p l := fun h0 => by
  obtain ⟨b, o, e, hb, hc⟩ := h h0
  refine ⟨b, o, e, hb, fun i nm d hi => ?_⟩
  obtain ⟨h1, pd, cd, h2, h3⟩ := hc i nm d hi
  exact ⟨cell_low g hr hb h1, pd, cd, cell_low g hr hb h2, bytesB_kept h3 g hr⟩
theorem funsAt_kept {w w' : World} {row : Option Nat} {B : Nat} {p : Option Addr} {l : List Fun} (h : FunsAt w B p l) (g : w.grownBy w' row) (hr : ∀ r, row = some r → B ≤ r) : FunsAt w' B p l := fun h0 => by
  obtain ⟨b, o, e, hb, hc⟩ := h h0
  refine ⟨b, o, e, hb, fun i f hi => ?_⟩
  obtain ⟨h1, h2, ⟨pl, cl, h3, h4⟩, ⟨pp, cp, h5, h6⟩⟩ := hc i f hi
  exact ⟨cell_low g hr hb h1, cell_low g hr hb h2, ⟨pl, cl, cell_low g hr hb h3, strsB_kept h4 g hr⟩, ⟨pp, cp, cell_low g hr hb h5, partsB_kept h6 g hr⟩⟩
theorem unitAt_kept {w w' : World} {row : Option Nat} {B : Nat} {pt pf : Option Addr} {u : Un} (h : UnitAt w B pt pf u) (g : w.grownBy w' row) (hr : ∀ r, row = some r → B ≤ r) : UnitAt w' B pt pf u :=
  ⟨Nat.le_trans h.le g.size, textsAt_kept h.texts g hr, funsAt_kept h.funcs g hr⟩

/-- The first fault of the functions without their parts. -/
def headsE (ns : List ByteArray) : List Fun → Int
  | [] => 0
  | f :: r => if headE ns f.name f.args f.locals = 0 then headsE (f.name :: ns) r else headE ns f.name f.args f.locals

/-- The first fault of the functions' parts. -/
def allsE (nt : Nat) (fs : List Int) : List Fun → Int
  | [] => 0
  | f :: r => if allE f.locals.length nt fs f.parts = 0 then allsE nt fs r else allE f.locals.length nt fs f.parts

def bytesTo (ts : List (ByteArray × List Int)) : Nat → Int
  | 0 => 0
  | k + 1 => bytesTo ts k + ((ts.getD k (ByteArray.empty, [])).2.length : Int)

/-- What Check answers. -/
def checkE (u : Un) : Int :=
  if 64 < u.funcs.length ∨ 1024 < u.texts.length ∨ 65536 < bytesTo u.texts u.texts.length then 2
  else if u.funcs.length = 0 ∨ (u.funcs.map Fun.args).getD 0 0 ≠ 0 then 171
  else if namesE [] (u.texts.map Prod.fst) ≠ 0 then namesE [] (u.texts.map Prod.fst)
  else if headsE [] u.funcs ≠ 0 then headsE [] u.funcs
  else allsE u.texts.length (u.funcs.map Fun.args) u.funcs

theorem headsE_step (us : List Fun) (k : Nat) (f : Fun) (hf : us[k]? = some f) (h : headE ((us.map Fun.name).take k).reverse f.name f.args f.locals = 0) :
    headsE ((us.map Fun.name).take k).reverse (us.drop k) = headsE ((us.map Fun.name).take (k + 1)).reverse (us.drop (k + 1)) := by
  obtain ⟨hk, rfl⟩ := List.getElem?_eq_some_iff.1 hf
  have e : ((us.map Fun.name).take (k + 1)).reverse = us[k].name :: ((us.map Fun.name).take k).reverse := by
    rw [List.take_succ_eq_append_getElem (by simpa using hk), List.reverse_append]; simp
  rw [e, List.drop_eq_getElem_cons hk, headsE, if_pos h]
theorem headsE_stop (us : List Fun) (k : Nat) (f : Fun) (hf : us[k]? = some f) (h : headE ((us.map Fun.name).take k).reverse f.name f.args f.locals ≠ 0) :
    headsE ((us.map Fun.name).take k).reverse (us.drop k) = headE ((us.map Fun.name).take k).reverse f.name f.args f.locals := by
  obtain ⟨hk, rfl⟩ := List.getElem?_eq_some_iff.1 hf
  rw [List.drop_eq_getElem_cons hk, headsE, if_neg h]
theorem allsE_step (nt : Nat) (fs : List Int) (us : List Fun) (k : Nat) (f : Fun) (hf : us[k]? = some f) (h : allE f.locals.length nt fs f.parts = 0) : allsE nt fs (us.drop k) = allsE nt fs (us.drop (k + 1)) := by
  obtain ⟨hk, rfl⟩ := List.getElem?_eq_some_iff.1 hf
  rw [List.drop_eq_getElem_cons hk, allsE, if_pos h]
theorem allsE_stop (nt : Nat) (fs : List Int) (us : List Fun) (k : Nat) (f : Fun) (hf : us[k]? = some f) (h : allE f.locals.length nt fs f.parts ≠ 0) : allsE nt fs (us.drop k) = allE f.locals.length nt fs f.parts := by
  obtain ⟨hk, rfl⟩ := List.getElem?_eq_some_iff.1 hf
  rw [List.drop_eq_getElem_cons hk, allsE, if_neg h]

theorem bytesTo_bound (ts : List (ByteArray × List Int)) (h : ∀ x ∈ ts, x.2.length ≤ 17592186044415) : ∀ k, 0 ≤ bytesTo ts k ∧ bytesTo ts k ≤ (k : Int) * 17592186044415
  | 0 => by unfold bytesTo; omega
  | k + 1 => by
    have := bytesTo_bound ts h k
    have h2 : ((ts.getD k (ByteArray.empty, [])).2.length : Int) ≤ 17592186044415 := by
      by_cases hk : k < ts.length
      · have := h ts[k] (List.getElem_mem hk)
        simp only [List.getD, List.getElem?_eq_getElem hk, Option.getD_some]
        omega
      · simp [List.getD, List.getElem?_eq_none (by omega : ts.length ≤ k)]
    unfold bytesTo
    push_cast
    omega

end Go.Proofs.Ytecaolkbllbokaa.TG
