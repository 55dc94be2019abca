/-
  What compile tells, as plain functions; where it tells an error at once. Conditions: as each theorem states.
  Where compile's loops stand: the texts' bytes, the functions that are done. Conditions: as each theorem states.
  What compile's walk needs at each turn: the texts' bytes, a function's code. Conditions: as each theorem states.
-/
import Derived.Test.YtecaolkbllbokaaMA22
import Derived.Test.YtecaolkbllbokaaMA13
namespace Go.Proofs.Ytecaolkbllbokaa.TG
open Go.RowKit Go.Great
set_option linter.unusedSimpArgs false
set_option linter.unusedVariables false

/-- A function's code. -/
def fullP (ts : List (ByteArray × List Int)) (ps : List (Int × Int × Int)) : PS := ((writeP ts ps 65 ⟨[], [], []⟩ 0).1.emit 0 (3, 0)).emit 0 (18, 0)

def bigF (u : Un) : Bool := u.funcs.any fun f => decide (4096 < (fullP u.texts f.parts).out.length)

/-- compile's error. -/
def compE (u : Un) (mem : Int) : Int :=
  if checkE u ≠ 0 then checkE u else if mem < 0 ∨ 65536 < mem then 1 else if mem < bytesTo u.texts u.texts.length then 181 else if bigF u then 181 else 0

theorem head_locals {ns : List ByteArray} {f : Fun} (h : headE ns f.name f.args f.locals = 0) : 0 ≤ f.args ∧ f.args ≤ f.locals.length ∧ f.locals.length ≤ 64 := by
  unfold headE at h
  repeat' split at h
  all_goals first | omega | exact ⟨by omega, by omega, by omega⟩

theorem heads_all : ∀ (us : List Fun) (ns : List ByteArray), headsE ns us = 0 → ∀ f ∈ us, 0 ≤ f.args ∧ f.args ≤ f.locals.length ∧ f.locals.length ≤ 64
  | [], _, _, f, hf => by cases hf
  | g :: r, ns, h, f, hf => by
    unfold headsE at h
    by_cases h1 : headE ns g.name g.args g.locals = 0
    · rw [if_pos h1] at h
      rcases List.mem_cons.1 hf with rfl | hf
      · exact head_locals h1
      · exact heads_all r _ h f hf
    · rw [if_neg h1] at h; exact absurd h h1

theorem alls_all (nt : Nat) (fs : List Int) : ∀ (us : List Fun), allsE nt fs us = 0 → ∀ f ∈ us, allE f.locals.length nt fs f.parts = 0
  | [], _, f, hf => by cases hf
  | g :: r, h, f, hf => by
    unfold allsE at h
    by_cases h1 : allE g.locals.length nt fs g.parts = 0
    · rw [if_pos h1] at h
      rcases List.mem_cons.1 hf with rfl | hf
      · exact h1
      · exact alls_all nt fs r h f hf
    · rw [if_neg h1] at h; exact absurd h h1

/-- What a right unit is. -/
structure Right (u : Un) : Prop where
  nf : 1 ≤ u.funcs.length ∧ u.funcs.length ≤ 64
  nt : u.texts.length ≤ 1024
  by_ : bytesTo u.texts u.texts.length ≤ 65536
  a0 : (u.funcs.map Fun.args).getD 0 0 = 0
  ok : ∀ f ∈ u.funcs, okP u.texts.length f.parts 65 0 0 ∧ skipS f.parts 65 0 = f.parts.length
  lo : ∀ f ∈ u.funcs, 0 ≤ f.args ∧ f.args ≤ f.locals.length ∧ f.locals.length ≤ 64

theorem right_of {u : Un} (h : checkE u = 0) : Right u := by
  unfold checkE at h
  by_cases h1 : 64 < u.funcs.length ∨ 1024 < u.texts.length ∨ 65536 < bytesTo u.texts u.texts.length
  · rw [if_pos h1] at h; omega
  rw [if_neg h1] at h
  by_cases h2 : u.funcs.length = 0 ∨ (u.funcs.map Fun.args).getD 0 0 ≠ 0
  · rw [if_pos h2] at h; omega
  rw [if_neg h2] at h
  by_cases h3 : namesE [] (u.texts.map Prod.fst) ≠ 0
  · rw [if_pos h3] at h; exact absurd h h3
  rw [if_neg h3] at h
  by_cases h4 : headsE [] u.funcs ≠ 0
  · rw [if_pos h4] at h; exact absurd h h4
  rw [if_neg h4] at h
  refine ⟨by omega, by omega, by omega, by omega, fun f hf => ?_, heads_all u.funcs [] (by omega)⟩
  have ha := alls_all _ _ _ h f hf
  unfold allE at ha
  by_cases h5 : (partE f.locals.length u.texts.length (u.funcs.map Fun.args) f.parts 65 0 ⟨0, 0, 0⟩).2.1 ≠ 0
  · rw [if_pos h5] at ha; exact absurd ha h5
  rw [if_neg h5] at ha
  by_cases h6 : (partE f.locals.length u.texts.length (u.funcs.map Fun.args) f.parts 65 0 ⟨0, 0, 0⟩).2.2.a ≠ f.parts.length
  · rw [if_pos h6] at ha; omega
  obtain ⟨p1, p2, p3⟩ := part_ok f.locals.length u.texts.length (u.funcs.map Fun.args) f.parts 65 0 ⟨0, 0, 0⟩ 0 (by omega) rfl (by omega)
  refine ⟨p1, ?_⟩
  rw [← p2]
  omega

/-- An error: nothing is told beside it. -/
def BadPost (w : World) (code : Int) (e : Ending) (w' : World) : Prop := e = .returned (.tuple #[.agg #[.int .i64 0, .slice none 0 0, .slice none 0 0], .slice none 0 0, .int .i64 code]) ∧ w.grownBy w' none

theorem bad_grow {w w1 : World} {o o' : Obj} {a b c : Value} (hg : ((w.alloc o).alloc o').grownBy w1 none) : w.grownBy (((w1.setCell ⟨w.heap.size + 1, 0, none⟩ a).setCell ⟨w.heap.size + 1, 1, none⟩ b).setCell ⟨w.heap.size + 1, 2, none⟩ c) none := by
  have hT : w1.grownBy (((w1.setCell ⟨w.heap.size + 1, 0, none⟩ a).setCell ⟨w.heap.size + 1, 1, none⟩ b).setCell ⟨w.heap.size + 1, 2, none⟩ c) (some (w.heap.size + 1)) := grownBy_trans (grownBy_trans (grownBy_set w1 _ 0 _) (grownBy_set _ _ 1 _)) (grownBy_set _ _ 2 _)
  exact grow_new (grownBy_trans (grownBy_trans (World.grownBy_alloc w o none) (World.grownBy_alloc _ o' none)) hg) hT (by omega)

set_option maxRecDepth 100000 in
set_option maxHeartbeats 4000000 in
theorem compile_bad (u : Un) (hu : UnWF u) (mem : Int) (pt pf : Option Addr) (ct cf B : Nat) (w : World) (hU : UnitAt w B pt pf u) (hb : checkE u ≠ 0 ∨ (mem < 0 ∨ 65536 < mem) ∨ mem < bytesTo u.texts u.texts.length) :
    Calls Try.prog 27 #[.agg #[.slice pt u.texts.length ct, .slice pf u.funcs.length cf], .int .i64 mem] w (BadPost w (compE u mem)) := by
  have CA := Lib.hid (fun w' (hU' : UnitAt w' B pt pf u) => check_any u hu pt pf ct cf B w' hU')
  have UU := Lib.hid hU
  unfold compE
  by_cases h1 : checkE u = 0
  · have hr := right_of h1
    have SA := Lib.hid (fun w' (hU' : UnitAt w' B pt pf u) => size_any u.texts hr.nt hu.text pt ct B w' hU'.texts hU'.le)
    rw [if_neg (by omega)]
    by_cases h2 : mem < 0 ∨ 65536 < mem
    · rw [if_pos h2]
      generalize checkE u = ce at *
      subst h1
      rcases h2 with h2 | h2
      · clear hU hb SA hr
        go_enter Try.func27, Try.ntmps27
        go_wp2_with (go_at_call 22; refine (CA.out _ (unitAt_kept UU.out (grownBy_trans (World.grownBy_alloc w _ none) (World.grownBy_alloc _ _ none)) (by simp))).mono ?_; rintro e w1 ⟨rfl, hg1⟩; have hR := box_moved (box_two w _ _) hg1 (by simp); have r0 := cell_of_row w1 _ 0 _ _ _ hR; have r1 := cell_of_row w1 _ 1 _ _ _ hR; have r2 := cell_of_row w1 _ 2 _ _ _ hR; have z0 := frozen_of_row w1 _ 0 _ _ hR; have z1 := frozen_of_row w1 _ 1 _ _ hR; have z2 := frozen_of_row w1 _ 2 _ _ hR; have hlR := (Array.getElem?_eq_some_iff.1 hR).1; have HG := Lib.hid hg1; clear hg1 hR)
        refine bodyPost_ret (v := .tuple #[.agg #[.int .i64 0, .slice none 0 0, .slice none 0 0], .slice none 0 0, .int .i64 1]) ?_ rfl ⟨rfl, bad_grow HG.out⟩
        rw [results_cell_tmp2 rfl]
        go_simp
      · have h3 : ¬ mem < 0 := by omega
        clear hU hb SA hr
        go_enter Try.func27, Try.ntmps27
        go_wp2_with (go_at_call 22; refine (CA.out _ (unitAt_kept UU.out (grownBy_trans (World.grownBy_alloc w _ none) (World.grownBy_alloc _ _ none)) (by simp))).mono ?_; rintro e w1 ⟨rfl, hg1⟩; have hR := box_moved (box_two w _ _) hg1 (by simp); have r0 := cell_of_row w1 _ 0 _ _ _ hR; have r1 := cell_of_row w1 _ 1 _ _ _ hR; have r2 := cell_of_row w1 _ 2 _ _ _ hR; have z0 := frozen_of_row w1 _ 0 _ _ hR; have z1 := frozen_of_row w1 _ 1 _ _ hR; have z2 := frozen_of_row w1 _ 2 _ _ hR; have hlR := (Array.getElem?_eq_some_iff.1 hR).1; have HG := Lib.hid hg1; clear hg1 hR)
        refine bodyPost_ret (v := .tuple #[.agg #[.int .i64 0, .slice none 0 0, .slice none 0 0], .slice none 0 0, .int .i64 1]) ?_ rfl ⟨rfl, bad_grow HG.out⟩
        rw [results_cell_tmp2 rfl]
        go_simp
    · rw [if_neg h2]
      have h3 : mem < bytesTo u.texts u.texts.length := by omega
      have h4 : ¬ mem < 0 := by omega
      have h5 : ¬ 65536 < mem := by omega
      rw [if_pos h3]
      generalize checkE u = ce at *
      subst h1
      clear hU hb hr h2
      go_enter Try.func27, Try.ntmps27
      go_wp2_with (first
        | (go_at_call 22; refine (CA.out _ (unitAt_kept UU.out (grownBy_trans (World.grownBy_alloc w _ none) (World.grownBy_alloc _ _ none)) (by simp))).mono ?_; rintro e w1 ⟨rfl, hg1⟩; have hUB := boxU_kept (boxU_kept (boxU_new w _ _) (World.grownBy_alloc _ _ none) (by simp)) hg1 (by simp); have b0 := boxU_0 hUB; have hltB := boxU_lt hUB; have HU1 := Lib.hid (unitAt_kept UU.out (grownBy_trans (grownBy_trans (World.grownBy_alloc w _ none) (World.grownBy_alloc _ _ none)) hg1) (by simp)); have HG1 := Lib.hid hg1; clear hg1 hUB)
        | (go_at_call 41; refine (SA.out _ HU1.out).mono ?_; rintro e w2 ⟨rfl, hg2⟩; have hg3 := grownBy_trans HG1.out hg2; have hR := box_moved (box_two w _ _) hg3 (by simp); have r0 := cell_of_row w2 _ 0 _ _ _ hR; have r1 := cell_of_row w2 _ 1 _ _ _ hR; have r2 := cell_of_row w2 _ 2 _ _ _ hR; have z0 := frozen_of_row w2 _ 0 _ _ hR; have z1 := frozen_of_row w2 _ 1 _ _ hR; have z2 := frozen_of_row w2 _ 2 _ _ hR; have hlR := (Array.getElem?_eq_some_iff.1 hR).1; have HG := Lib.hid hg3; clear hg2 hg3 hR))
      refine bodyPost_ret (v := .tuple #[.agg #[.int .i64 0, .slice none 0 0, .slice none 0 0], .slice none 0 0, .int .i64 181]) ?_ rfl ⟨rfl, bad_grow HG.out⟩
      rw [results_cell_tmp2 rfl]
      go_simp
  · rw [if_pos h1]
    generalize checkE u = ce at *
    clear hU hb
    go_enter Try.func27, Try.ntmps27
    go_wp2_with (go_at_call 22; refine (CA.out _ (unitAt_kept UU.out (grownBy_trans (World.grownBy_alloc w _ none) (World.grownBy_alloc _ _ none)) (by simp))).mono ?_; rintro e w1 ⟨rfl, hg1⟩; have hR := box_moved (box_two w _ _) hg1 (by simp); have r0 := cell_of_row w1 _ 0 _ _ _ hR; have r1 := cell_of_row w1 _ 1 _ _ _ hR; have r2 := cell_of_row w1 _ 2 _ _ _ hR; have z0 := frozen_of_row w1 _ 0 _ _ hR; have z1 := frozen_of_row w1 _ 1 _ _ hR; have z2 := frozen_of_row w1 _ 2 _ _ hR; have hlR := (Array.getElem?_eq_some_iff.1 hR).1; have HG := Lib.hid hg1; clear hg1 hR)
    refine bodyPost_ret (v := .tuple #[.agg #[.int .i64 0, .slice none 0 0, .slice none 0 0], .slice none 0 0, .int .i64 ce]) ?_ rfl ⟨rfl, bad_grow HG.out⟩
    rw [results_cell_tmp2 rfl]
    go_simp

end Go.Proofs.Ytecaolkbllbokaa.TG

namespace Go.Proofs.Ytecaolkbllbokaa.TG
open Go.RowKit Go.Great
set_option linter.unusedSimpArgs false
set_option linter.unusedVariables false

def flat4 : List Fun → List (Value × Value) → List Value
  | f :: fs, r :: rs => .int .i64 f.args :: .int .i64 f.locals.length :: .int .i64 1 :: r.1 :: flat4 fs rs
  | _, _ => []
theorem flat4_snoc : ∀ {fs : List Fun} {rs : List (Value × Value)} {f : Fun} {r : Value × Value}, fs[rs.length]? = some f → flat4 fs (rs ++ [r]) = flat4 fs rs ++ [.int .i64 f.args, .int .i64 f.locals.length, .int .i64 1, r.1]
  | [], rs, f, r, h => by cases h
  | g :: fs, [], f, r, h => by
    simp at h; subst h
    simp [flat4]
  | g :: fs, x :: rs, f, r, h => by
    have ih := flat4_snoc (fs := fs) (rs := rs) (f := f) (r := r) (by simpa using h)
    simp [flat4, ih]

def dataE (u : Un) : List Int := u.texts.flatMap Prod.snd

theorem own_lower {w : World} {base base' : Nat} {e : TypeId} {size n : Nat} {v : Value} {xs : List Value} (h : w.ownsRow base e size v n xs) (hb : base' ≤ base) : w.ownsRow base' e size v n xs := by
  refine ⟨h.1, ?_⟩
  rcases h.2 with h | ⟨g, cap, cur, e1, e2, e3⟩
  · exact Or.inl h
  · exact Or.inr ⟨g, cap, cur, e1, Nat.le_trans hb e2, e3⟩
theorem own_not_box {w : World} {base : Nat} {e t : TypeId} {size n b : Nat} {v : Value} {xs : List Value} {cs : Array Value} (h : w.ownsRow base e size v n xs) (hb : w.heap[b]? = some (.cells cs t (0, 0))) (hne : e ≠ t) : v.ownBlock ≠ some b := by
  rcases h.2 with ⟨rfl, _⟩ | ⟨g, cap, cur, rfl, _, hg, _⟩
  · simp [Value.ownBlock]
  · simp only [Value.ownBlock]
    intro e'
    injection e' with e'
    subst e'
    rw [hb] at hg
    injection hg with hg
    injection hg with _ h2 _
    exact hne h2.symm

/-- Behind a function's two last emits. -/
structure FM (wr w10 : World) (E C0 Bd : Nat) (vt vf : Value) (nm : ByteArray) (ar : Int) (vl vp vo vg vlo vk : Value) (out : List (Int × Int)) (org : List Int) : Prop where
  code : CodeAt w10 E Bd vt vf nm ar vl vp vo vg vlo vk out org
  gr : wr.grownBy w10 none
  cp : w10.heap[C0]? = some (.cells #[.string nm, .int .i64 ar, vl, vp] 69 (0, 0))
  eC : C0 = wr.heap.size
  eB : Bd = C0 + 1
  lE : wr.heap.size ≤ E

def Stt.nil : Stt := ⟨.slice none 0 0, .slice none 0 0, .slice none 0 0, [], [], []⟩

theorem nil_P {c : Cx} {k : Nat} (h : c.P Stt.nil k) : k = c.Bd := by
  rcases h with (e | e | e) | e | ⟨l, hl, _⟩
  · exact e
  · cases e
  · cases e
  · cases e
  · cases hl

/-- The compiler's block, made anew. -/
theorem one_at {c : Cx} {w3 w6 : World} (h : AE w3 w6 c.Bd c.bc c.b6 c.M (.slice c.pt c.ts.length c.ct) c.vf c.nm c.ar c.vl (.slice c.pp c.ps.length c.cp)) (hE : c.E = w6.heap.size) (hB : c.B ≤ w3.heap.size) (hp : PartsB w3 c.B c.pp c.ps) (ht : TextsAt w3 c.B c.pt c.ts) :
    AtS c (w6.setCell ⟨c.Bd, 9, none⟩ (.map (some c.M))) Stt.nil := by
  have hb := one_b h
  have he := one_e h hp hB
  rw [← hE] at hb he
  have heB := h.eB
  have hs : ∀ k, k < c.B → (w6.setCell ⟨c.Bd, 9, none⟩ (.map (some c.M))).heap[k]? = w3.heap[k]? := fun k hk => by
    rw [heap_setCell_other w6 _ k _ (by simp; omega)]
    exact h.gr.block k (by omega) (by simp)
  exact ⟨hb, World.ownsRow_nil _ _ _ _, fun l hl => (by cases hl), fun i k l l' _ hi => (by cases hi), fun l hl => (by cases hl), ⟨rfl, fun x hx => (by cases hx), fun x hx => (by cases hx)⟩, he.pa, he.ki, texts_sp ht hs⟩

theorem fm_of {c : Cx} {w3 w6 w10 : World} {s10 : Stt} (h : AE w3 w6 c.Bd c.bc c.b6 c.M (.slice c.pt c.ts.length c.ct) c.vf c.nm c.ar c.vl (.slice c.pp c.ps.length c.cp)) (hE : c.E = w6.heap.size) (g : Go c (w6.setCell ⟨c.Bd, 9, none⟩ (.map (some c.M))) Stt.nil w10 s10) :
    FM w3 w10 c.E w3.heap.size c.Bd (.slice c.pt c.ts.length c.ct) c.vf c.nm c.ar c.vl (.slice c.pp c.ps.length c.cp) s10.vout s10.vorg s10.vlo (.map (some c.M)) s10.out s10.org := by
  have heB := h.eB
  have hz3 := h.gr.size
  have hB6 : c.Bd < w6.heap.size := (Array.getElem?_eq_some_iff.1 h.hb).1
  have low : ∀ k, k < w6.heap.size → k ≠ c.Bd → w10.heap[k]? = w6.heap[k]? := fun k hk hne => by
    rw [g.sp.block k (by rw [World.size_setCell]; exact hk) (fun hp => hne (nil_P hp))]
    exact heap_setCell_other w6 _ k _ hne
  have hs := g.sp.size
  rw [World.size_setCell] at hs
  refine ⟨g.at_.code, ⟨?_, ?_, ?_, by omega, fun k hk _ => ?_⟩, ?_, rfl, heB, by omega⟩
  · exact g.sp.os.trans h.gr.os
  · exact g.sp.tape.trans h.gr.tape
  · exact g.sp.output.trans h.gr.output
  · rw [low k (by omega) (by omega)]; exact h.gr.block k hk (by simp)
  · rw [low _ (by omega) (by omega)]; exact h.cp

/-- Where the loop over the functions stands: k are done. -/
structure CLoop (w wr : World) (u : Un) (mem : Int) (vt vf : Value) (P0 k : Nat) (v vd vF : Value) (rows : List (Value × Value)) : Prop where
  len : rows.length = k
  pb : wr.heap[P0]? = some (.cells #[.int .i64 mem, vd, vF] 32 (0, 0))
  rb : wr.heap[w.heap.size + 1]? = some (.cells #[.int .i64 0, .slice none 0 0, .slice none 0 0] 32 (0, 0))
  hP : w.heap.size + 1 < P0
  gr : w.grownBy wr none
  ub : BoxU wr w.heap.size vt vf
  dt : wr.ownsRow w.heap.size 5 1 vd (dataE u).length ((dataE u).map (Value.int .u8))
  fr : wr.ownsRow w.heap.size 73 4 vF k (flat4 u.funcs rows)
  or : wr.ownsRow w.heap.size 47 1 v k (rows.map Prod.snd)
  each : ∀ (i : Nat) (vo vg : Value) (f : Fun), rows[i]? = some (vo, vg) → u.funcs[i]? = some f → wr.ownsRow w.heap.size 75 2 vo (fullP u.texts f.parts).out.length (flat2 (fullP u.texts f.parts).out) ∧
    wr.ownsRow w.heap.size 3 1 vg (fullP u.texts f.parts).org.length ((fullP u.texts f.parts).org.map (Value.int .i64))
  ord : ∀ (i j : Nat) (a b a' b' : Value), i < j → rows[i]? = some (a, b) → rows[j]? = some (a', b') → ∀ (x y : Nat), (a.ownBlock = some x ∨ b.ownBlock = some x) → (a'.ownBlock = some y ∨ b'.ownBlock = some y) → x < y

theorem grown_drew_alloc (w : World) (o : Obj) : w.grownBy (w.drew.alloc o) none := grownBy_trans (grownBy_drew (grownBy_refl w none)) (World.grownBy_alloc _ o none)

theorem cloop_next {w wr w10 w11 w16 : World} {u : Un} {mem : Int} {vt vf : Value} {P0 k : Nat} {v vd vF : Value} {rows : List (Value × Value)} {f : Fun} {E C0 Bd : Nat} {ut uf : Value} {nm : ByteArray} {vl vp vo vg vlo vk v13 v16 : Value} {out : List (Int × Int)} {org : List Int} {o o' : Obj}
    (h : CLoop w wr u mem vt vf P0 k v vd vF rows) (hf : u.funcs[k]? = some f) (A : FM wr w10 E C0 Bd ut uf nm f.args vl vp vo vg vlo vk out org) (hout : out = (fullP u.texts f.parts).out) (horg : org = (fullP u.texts f.parts).org)
    (h11 : (w10.drew.alloc o).grownBy w11 vF.ownBlock) (own13 : w11.ownsRow w.heap.size 73 4 v13 (k + 1) (flat4 u.funcs rows ++ [.int .i64 f.args, .int .i64 f.locals.length, .int .i64 1, vo]))
    (h16 : ((w11.setCell ⟨P0, 2, none⟩ v13).alloc o').grownBy w16 v.ownBlock) (own16 : w16.ownsRow w.heap.size 47 1 v16 (k + 1) (rows.map Prod.snd ++ [vg])) :
    CLoop w w16 u mem vt vf P0 (k + 1) v16 vd v13 (rows ++ [(vo, vg)]) := by
  have hP0 := (Array.getElem?_eq_some_iff.1 h.pb).1
  have hlen := h.len
  have hgw := h.gr.size
  have kp : ∀ {b : Nat} {ob : Obj}, wr.heap[b]? = some ob → w10.heap[b]? = some ob := fun hb => box_moved hb A.gr (by simp)
  have ko : ∀ {base : Nat} {e : TypeId} {size n : Nat} {x : Value} {xs : List Value}, wr.ownsRow base e size x n xs → w10.ownsRow base e size x n xs := fun ho => ho.kept A.gr (Classical.em _)
  have pb10 := kp h.pb
  have fr10 := ko h.fr
  have or10 := ko h.or
  -- to w11
  have s11 : Sp (fun k => vF.ownBlock = some k) w10 w11 := sp_trans (sp_grown (P := fun k => vF.ownBlock = some k) (grown_drew_alloc w10 o) (by simp)) (sp_grown (P := fun k => vF.ownBlock = some k) h11 fun k _ e => e) (fun _ _ h => h)
  have pb11 : w11.heap[P0]? = some (.cells #[.int .i64 mem, vd, vF] 32 (0, 0)) := by
    rw [s11.block P0 (Array.getElem?_eq_some_iff.1 pb10).1 (own_not_box fr10 pb10 (by decide))]; exact pb10
  have or11 := own_sp or10 s11 fun k hk => own_unlike or10 fr10 (by decide) hk
  have hset : Sp (fun k => k = P0) w11 (w11.setCell ⟨P0, 2, none⟩ v13) := sp_grown (grownBy_set w11 P0 2 v13) fun k _ e => by injection e with e; exact e.symm
  have pbS : (w11.setCell ⟨P0, 2, none⟩ v13).heap[P0]? = some (.cells #[.int .i64 mem, vd, v13] 32 (0, 0)) := by rw [heap_set_box pb11]; rfl
  have orS := own_sp or11 hset fun k hk e => own_not_box or11 pb11 (by decide) (by rw [hk, e])
  have s16 : Sp (fun k => v.ownBlock = some k) (w11.setCell ⟨P0, 2, none⟩ v13) w16 := sp_trans (sp_grown (P := fun k => v.ownBlock = some k) (World.grownBy_alloc _ o' none) (by simp)) (sp_grown (P := fun k => v.ownBlock = some k) h16 fun k _ e => e) (fun _ _ h => h)
  have pb16 : w16.heap[P0]? = some (.cells #[.int .i64 mem, vd, v13] 32 (0, 0)) := by
    rw [s16.block P0 (Array.getElem?_eq_some_iff.1 pbS).1 (own_not_box orS pbS (by decide))]; exact pbS
  -- all at once
  have sQ : Sp (fun k => vF.ownBlock = some k ∨ k = P0 ∨ v.ownBlock = some k) w10 w16 :=
    sp_trans (sp_trans (sp_weaken s11 fun _ _ e => Or.inl e) (sp_weaken (Q := fun k => vF.ownBlock = some k ∨ k = P0 ∨ v.ownBlock = some k) hset fun _ _ e => Or.inr (Or.inl e)) (fun _ _ h => h)) (sp_weaken (Q := fun k => vF.ownBlock = some k ∨ k = P0 ∨ v.ownBlock = some k) s16 fun _ _ e => Or.inr (Or.inr e)) (fun _ _ h => h)
  have oQ : ∀ {base : Nat} {e : TypeId} {size n : Nat} {x : Value} {xs : List Value}, w10.ownsRow base e size x n xs → e ≠ 73 → e ≠ 32 → e ≠ 47 → w16.ownsRow base e size x n xs := by
    intro base e size n x xs ho h1 h2 h3
    refine own_sp ho sQ fun k hk hp => ?_
    rcases hp with e1 | e1 | e1
    · exact own_unlike (own_lower ho (Nat.zero_le _)) (own_lower fr10 (Nat.zero_le _)) h1 hk e1
    · subst e1; exact own_not_box ho pb10 h2 hk
    · exact own_unlike (own_lower ho (Nat.zero_le _)) (own_lower or10 (Nat.zero_le _)) h3 hk e1
  have bQ : ∀ {b : Nat} {cs : Array Value} {t : TypeId}, w10.heap[b]? = some (.cells cs t (0, 0)) → t ≠ 73 → b ≠ P0 → t ≠ 47 → w16.heap[b]? = some (.cells cs t (0, 0)) := by
    intro b cs t hb h1 h2 h3
    rw [sQ.block b (Array.getElem?_eq_some_iff.1 hb).1 ?_]
    · exact hb
    · rintro (e1 | e1 | e1)
      · exact own_not_box fr10 hb (Ne.symm h1) e1
      · exact h2 e1
      · exact own_not_box or10 hb (Ne.symm h3) e1
  have hPlt := h.hP
  refine ⟨by rw [List.length_append]; simp [hlen], pb16, bQ (kp h.rb) (by decide) (by omega) (by decide), h.hP, ?_, bQ (kp h.ub) (by decide) (by omega) (by decide), oQ (ko h.dt) (by decide) (by decide) (by decide), ?_, ?_, ?_, ?_⟩
  · refine sp_to_grown (sp_trans (sp_grown (P := fun k => vF.ownBlock = some k ∨ k = P0 ∨ v.ownBlock = some k) (grownBy_trans h.gr A.gr) (by simp)) sQ (fun _ _ h => h)) fun k hk hp => ?_
    rcases hp with e1 | e1 | e1
    · have := (fr10.lt k e1).1; omega
    · omega
    · have := (or10.lt k e1).1; omega
  · have hfr := own_sp (own_sp own13 hset fun k hk e => own_not_box own13 pb11 (by decide) (by rw [hk, e])) s16 fun k hk => own_unlike (own_sp own13 hset fun k hk e => own_not_box own13 pb11 (by decide) (by rw [hk, e])) orS (by decide) hk
    rw [flat4_snoc (r := (vo, vg)) (by rw [hlen]; exact hf)]
    exact hfr
  · rw [List.map_append]; exact own16
  · intro i vo' vg' f' hi hf'
    by_cases hik : i < rows.length
    · rw [List.getElem?_append_left hik] at hi
      obtain ⟨e1, e2⟩ := h.each i vo' vg' f' hi hf'
      exact ⟨oQ (ko e1) (by decide) (by decide) (by decide), oQ (ko e2) (by decide) (by decide) (by decide)⟩
    · have hik2 : i = rows.length := by
        have := (List.getElem?_eq_some_iff.1 hi).1
        simp at this; omega
      subst hik2
      rw [List.getElem?_append_right (Nat.le_refl _)] at hi
      simp at hi
      obtain ⟨rfl, rfl⟩ := hi
      rw [hlen, hf] at hf'
      injection hf' with hf'; subst hf'
      have hE : w.heap.size ≤ E := Nat.le_trans hgw A.lE
      rw [← hout, ← horg]
      exact ⟨oQ (own_lower A.code.out hE) (by decide) (by decide) (by decide), oQ (own_lower A.code.org hE) (by decide) (by decide) (by decide)⟩
  · intro i j a b a' b' hij hi hj x y hx hy
    have hjl := (List.getElem?_eq_some_iff.1 hj).1
    simp at hjl
    have hil : i < rows.length := by omega
    rw [List.getElem?_append_left hil] at hi
    by_cases hjk : j < rows.length
    · rw [List.getElem?_append_left hjk] at hj
      exact h.ord i j a b a' b' hij hi hj x y hx hy
    · have : j = rows.length := by omega
      subst this
      rw [List.getElem?_append_right (Nat.le_refl _)] at hj
      simp at hj
      obtain ⟨rfl, rfl⟩ := hj
      have hx2 : x < wr.heap.size := by
        obtain ⟨f', hf'⟩ : ∃ f', u.funcs[i]? = some f' := by
          have : k < u.funcs.length := (List.getElem?_eq_some_iff.1 hf).1
          exact ⟨_, List.getElem?_eq_getElem (by omega)⟩
        obtain ⟨e1, e2⟩ := h.each i a b f' hi hf'
        rcases hx with hx | hx
        · exact (e1.lt x hx).2
        · exact (e2.lt x hx).2
      have hy2 : E ≤ y := by
        rcases hy with hy | hy
        · exact (A.code.out.lt y hy).1
        · exact (A.code.org.lt y hy).1
      have := A.lE
      omega

end Go.Proofs.Ytecaolkbllbokaa.TG

namespace Go.Proofs.Ytecaolkbllbokaa.TG
open Go.RowKit Go.Great
set_option linter.unusedSimpArgs false
set_option linter.unusedVariables false

theorem bytesTo_len (ts : List (ByteArray × List Int)) : ∀ q, q ≤ ts.length → bytesTo ts q = (((ts.take q).flatMap Prod.snd).length : Int)
  | 0, _ => by simp [bytesTo]
  | q + 1, h => by
    have hq : q < ts.length := h
    rw [bytesTo, bytesTo_len ts q (by omega), List.take_succ_eq_append_getElem hq, List.flatMap_append, List.length_append]
    have : ts.getD q (ByteArray.empty, []) = ts[q] := by simp [List.getD, List.getElem?_eq_getElem hq]
    rw [this]
    simp
theorem bytesTo_mono (ts : List (ByteArray × List Int)) (q : Nat) : ∀ k, bytesTo ts q ≤ bytesTo ts (q + k)
  | 0 => Int.le_refl _
  | k + 1 => by
    have := bytesTo_mono ts q k
    have e : bytesTo ts (q + (k + 1)) = bytesTo ts (q + k) + ((ts.getD (q + k) (ByteArray.empty, [])).2.length : Int) := rfl
    rw [e]; omega

/-- Where the loop over the texts stands. -/
structure TLoop (w wr : World) (u : Un) (mem : Int) (vt vf : Value) (P0 q : Nat) (vd : Value) (bs : List Int) : Prop where
  pb : wr.heap[P0]? = some (.cells #[.int .i64 mem, vd, .slice none 0 0] 32 (0, 0))
  rb : wr.heap[w.heap.size + 1]? = some (.cells #[.int .i64 0, .slice none 0 0, .slice none 0 0] 32 (0, 0))
  hP : w.heap.size + 1 < P0
  gr : w.grownBy wr none
  ub : BoxU wr w.heap.size vt vf
  dt : wr.ownsRow w.heap.size 5 1 vd bs.length (bs.map (Value.int .u8))
  eb : bs = (u.texts.take q).flatMap Prod.snd

theorem tloop_next {w wr w1 : World} {u : Un} {mem : Int} {vt vf : Value} {P0 q : Nat} {vd v1 : Value} {bs d : List Int} {nm : ByteArray} {o : Obj} (h : TLoop w wr u mem vt vf P0 q vd bs) (hq : u.texts[q]? = some (nm, d)) (g : (wr.alloc o).grownBy w1 vd.ownBlock)
    (own : w1.ownsRow w.heap.size 5 1 v1 (bs.length + d.length) (bs.map (Value.int .u8) ++ d.map (Value.int .u8))) : TLoop w (w1.setCell ⟨P0, 1, none⟩ v1) u mem vt vf P0 (q + 1) v1 (bs ++ d) := by
  have hPw := (Array.getElem?_eq_some_iff.1 h.pb).1
  have hgw := h.gr.size
  have hPlt := h.hP
  have s1 : Sp (fun k => vd.ownBlock = some k) wr w1 := sp_trans (sp_grown (P := fun k => vd.ownBlock = some k) (World.grownBy_alloc wr o none) (by simp)) (sp_grown (P := fun k => vd.ownBlock = some k) g fun k _ e => e) (fun _ _ h => h)
  have pb1 : w1.heap[P0]? = some (.cells #[.int .i64 mem, vd, .slice none 0 0] 32 (0, 0)) := by
    rw [s1.block P0 hPw (own_not_box h.dt h.pb (by decide))]; exact h.pb
  have bx : ∀ {b : Nat} {cs : Array Value} {t : TypeId}, wr.heap[b]? = some (.cells cs t (0, 0)) → t ≠ 5 → b ≠ P0 → (w1.setCell ⟨P0, 1, none⟩ v1).heap[b]? = some (.cells cs t (0, 0)) := by
    intro b cs t hb h1 h2
    rw [heap_setCell_other w1 _ b _ (by simpa using h2), s1.block b (Array.getElem?_eq_some_iff.1 hb).1 (own_not_box h.dt hb (Ne.symm h1))]
    exact hb
  refine ⟨by rw [heap_set_box pb1]; rfl, bx h.rb (by decide) (by omega), h.hP, ?_, bx h.ub (by decide) (by omega), ?_, ?_⟩
  · refine sp_to_grown (sp_trans (sp_trans (sp_grown (P := fun k => vd.ownBlock = some k ∨ k = P0) h.gr (by simp)) (sp_weaken (Q := fun k => vd.ownBlock = some k ∨ k = P0) s1 fun _ _ e => Or.inl e) (fun _ _ h => h)) (sp_grown (P := fun k => vd.ownBlock = some k ∨ k = P0) (grownBy_set w1 P0 1 v1) fun k _ e => by injection e with e; exact Or.inr e.symm) (fun _ _ h => h)) fun k hk hp => ?_
    rcases hp with e | e
    · have := (h.dt.lt k e).1; omega
    · omega
  · rw [List.length_append, List.map_append]
    refine own.kept (grownBy_set w1 P0 1 v1) (Or.inr (own_not_box own pb1 (by decide)))
  · rw [h.eb]
    obtain ⟨hql, hqe⟩ := List.getElem?_eq_some_iff.1 hq
    rw [List.take_succ_eq_append_getElem hql, List.flatMap_append, hqe]
    simp

theorem cloop_start {w wr : World} {u : Un} {mem : Int} {vt vf : Value} {P0 : Nat} {vd : Value} {bs : List Int} (h : TLoop w wr u mem vt vf P0 u.texts.length vd bs) : CLoop w wr u mem vt vf P0 0 (.slice none 0 0) vd (.slice none 0 0) [] := by
  have e : bs = dataE u := by rw [h.eb, List.take_length]; rfl
  refine ⟨rfl, h.pb, h.rb, h.hP, h.gr, h.ub, ?_, ?_, World.ownsRow_nil _ _ _ _, fun i vo vg f hi => (by cases hi), fun i j a b a' b' _ hi => (by cases hi)⟩
  · rw [← e]; exact h.dt
  · have : flat4 u.funcs [] = [] := by cases u.funcs <;> rfl
    rw [this]; exact World.ownsRow_nil _ _ _ _

def mkCx (E Bd bc b6 M B cp ct : Nat) (pt pp : Option Addr) (vf vl : Value) (nm : ByteArray) (ar : Int) (ts : List (ByteArray × List Int)) (ps : List (Int × Int × Int)) : Cx := ⟨E, Bd, bc, b6, M, B, cp, ct, pt, pp, vf, vl, nm, ar, ts, ps⟩

/-- A function's write, and its two last emits. -/
theorem one_write {wr w6 : World} {Bd bc b6 M B cp ct : Nat} {pt pp : Option Addr} {vf vl : Value} {nm : ByteArray} {ar : Int} {ts : List (ByteArray × List Int)} {ps : List (Int × Int × Int)} (hA : AE wr w6 Bd bc b6 M (.slice pt ts.length ct) vf nm ar vl (.slice pp ps.length cp)) (hB : B ≤ wr.heap.size)
    (hp : PartsB wr B pp ps) (ht : TextsAt wr B pt ts) (nts : ts.length ≤ 1024) (nct : ts.length ≤ ct) (mct : ct ≤ maxLen) (wf : ∀ x ∈ ts, x.1.size ≤ maxLen ∧ x.2.length ≤ 17592186044415) (np : ps.length ≤ 100000000000) (ho : okP ts.length ps 65 0 0) :
    CxOK (mkCx w6.heap.size Bd bc b6 M B cp ct pt pp vf vl nm ar ts ps) ∧
    Calls Try.prog 43 #[.pointer (some ⟨Bd, 0, none⟩), .int .i64 0] (w6.setCell ⟨Bd, 9, none⟩ (.map (some M))) fun e w8 => ∃ s8 v, e = .returned v ∧
      Go (mkCx w6.heap.size Bd bc b6 M B cp ct pt pp vf vl nm ar ts ps) (w6.setCell ⟨Bd, 9, none⟩ (.map (some M))) Stt.nil w8 s8 ∧ s8.abs = (writeP ts ps 65 ⟨[], [], []⟩ 0).1 ∧ s8.out.length ≤ 999999999998 := by
  have heB := hA.eB
  have ok : CxOK (mkCx w6.heap.size Bd bc b6 M B cp ct pt pp vf vl nm ar ts ps) := ⟨by show B ≤ Bd; omega, nts, nct, mct, wf, by show ps.length ≤ _; omega⟩
  have h0 := one_at (c := mkCx w6.heap.size Bd bc b6 M B cp ct pt pp vf vl nm ar ts ps) hA rfl hB hp ht
  refine ⟨ok, ?_⟩
  refine (step_write ok (write_con _ ok 65) (s := Stt.nil) (at_ := 0) ho h0 (by show 0 + 8 * (ps.length - 0) + 8 ≤ _; omega)).mono ?_
  intro e w8 hq
  obtain ⟨s8, p8, rfl, g8⟩ := hq
  refine ⟨s8, _, rfl, g8.go, ?_, ?_⟩
  · have := g8.eq
    show s8.abs = (writeP ts ps 65 Stt.nil.abs 0).1
    exact (congrArg Prod.fst this).symm
  · have h1 := g8.hi
    have h2 : p8 ≤ ps.length := g8.le
    have h3 : Stt.nil.out.length = 0 := rfl
    omega

theorem emit_z {c : Cx} (ok : CxOK c) {w : World} {s : Stt} (h : AtS c w s) (hb : s.out.length ≤ 1000000000000) (o x : Int) :
    Calls Try.prog 44 #[.pointer (some ⟨c.Bd, 0, none⟩), .int .i64 0, .int .i64 o, .int .i64 x] w fun e w' => e = .returned (.int .i64 s.out.length) ∧ ∃ s', Go c w s w' s' ∧ s'.abs = s.abs.emit 0 (o, x) ∧ s'.L = s.L ∧ s'.vlo = s.vlo := emit_at ok h hb 0 o x

theorem one_emit {E Bd bc b6 M B cp ct : Nat} {pt pp : Option Addr} {vf vl : Value} {nm : ByteArray} {ar : Int} {ts : List (ByteArray × List Int)} {ps : List (Int × Int × Int)} (ok : CxOK (mkCx E Bd bc b6 M B cp ct pt pp vf vl nm ar ts ps)) {w : World} {s : Stt} (h : AtS (mkCx E Bd bc b6 M B cp ct pt pp vf vl nm ar ts ps) w s)
    (hb : s.out.length ≤ 1000000000000) (o x : Int) : Calls Try.prog 44 #[.pointer (some ⟨Bd, 0, none⟩), .int .i64 0, .int .i64 o, .int .i64 x] w fun e w' => e = .returned (.int .i64 s.out.length) ∧ ∃ s', Go (mkCx E Bd bc b6 M B cp ct pt pp vf vl nm ar ts ps) w s w' s' ∧ s'.abs = s.abs.emit 0 (o, x) := by
  refine (emit_z ok h hb o x).mono ?_
  intro e w' hq
  obtain ⟨rfl, s', g, a, -, -⟩ := hq
  exact ⟨rfl, s', g, a⟩

theorem one_fm {wr w6 w10 : World} {s10 : Stt} {Bd bc b6 M B cp ct : Nat} {pt pp : Option Addr} {vf vl : Value} {nm : ByteArray} {ar : Int} {ts : List (ByteArray × List Int)} {ps : List (Int × Int × Int)} (hA : AE wr w6 Bd bc b6 M (.slice pt ts.length ct) vf nm ar vl (.slice pp ps.length cp))
    (g : Go (mkCx w6.heap.size Bd bc b6 M B cp ct pt pp vf vl nm ar ts ps) (w6.setCell ⟨Bd, 9, none⟩ (.map (some M))) Stt.nil w10 s10) :
    FM wr w10 w6.heap.size wr.heap.size Bd (.slice pt ts.length ct) vf nm ar vl (.slice pp ps.length cp) s10.vout s10.vorg s10.vlo (.map (some M)) s10.out s10.org := fm_of (c := mkCx w6.heap.size Bd bc b6 M B cp ct pt pp vf vl nm ar ts ps) hA rfl g

theorem full_of {ts : List (ByteArray × List Int)} {ps : List (Int × Int × Int)} {s8 s9 s10 : Stt} (a8 : s8.abs = (writeP ts ps 65 ⟨[], [], []⟩ 0).1) (a9 : s9.abs = s8.abs.emit 0 (3, 0)) (a10 : s10.abs = s9.abs.emit 0 (18, 0)) : s10.out = (fullP ts ps).out ∧ s10.org = (fullP ts ps).org := by
  have e : s10.abs = fullP ts ps := by rw [a10, a9, a8]; rfl
  exact ⟨congrArg PS.out e, congrArg PS.org e⟩
theorem len_9 {s8 s9 : Stt} {x : Int × Int} (h : s8.out.length ≤ 999999999998) (a9 : s9.abs = s8.abs.emit 0 x) : s9.out.length ≤ 1000000000000 := by
  have := emit_len a9; omega

/-- What region 25 reads, and where an error is told. -/
structure MidF (w wr w10 : World) (P0 C0 Bd : Nat) (f : Fun) (vl vF vo vg : Value) : Prop where
  k0 : w10.cell? ⟨P0, 2, none⟩ = some vF
  z0 : w10.frozen? ⟨P0, 2, none⟩ = false
  k1 : w10.cell? ⟨C0, 1, none⟩ = some (.int .i64 f.args)
  k2 : w10.cell? ⟨C0, 2, none⟩ = some vl
  c6 : w10.cell? ⟨Bd, 6, none⟩ = some vo
  c7 : w10.cell? ⟨Bd, 7, none⟩ = some vg
  lP : P0 < w10.heap.size
  lC : C0 < w10.heap.size
  lB : Bd < w10.heap.size
  r0 : w10.cell? ⟨w.heap.size + 1, 0, none⟩ = some (.int .i64 0)
  r1 : w10.cell? ⟨w.heap.size + 1, 1, none⟩ = some (.slice none 0 0)
  r2 : w10.cell? ⟨w.heap.size + 1, 2, none⟩ = some (.slice none 0 0)
  y0 : w10.frozen? ⟨w.heap.size + 1, 0, none⟩ = false
  y1 : w10.frozen? ⟨w.heap.size + 1, 1, none⟩ = false
  y2 : w10.frozen? ⟨w.heap.size + 1, 2, none⟩ = false
  lR : w.heap.size + 1 < w10.heap.size
  nC : C0 ≠ P0
  nB : Bd ≠ P0

theorem mid_of {w wr w10 : World} {u : Un} {mem : Int} {vt vf : Value} {P0 k : Nat} {v vd vF : Value} {rows : List (Value × Value)} {f : Fun} {E C0 Bd : Nat} {ut uf : Value} {nm : ByteArray} {vl vp vo vg vlo vk : Value} {out : List (Int × Int)} {org : List Int}
    (h : CLoop w wr u mem vt vf P0 k v vd vF rows) (A : FM wr w10 E C0 Bd ut uf nm f.args vl vp vo vg vlo vk out org) : MidF w wr w10 P0 C0 Bd f vl vF vo vg := by
  have hP := box_moved h.pb A.gr (by simp)
  have hR := box_moved h.rb A.gr (by simp)
  have hPw := (Array.getElem?_eq_some_iff.1 h.pb).1
  have e1 := A.eC
  have e2 := A.eB
  exact ⟨cell_of_row w10 P0 2 _ _ _ hP, frozen_of_row w10 P0 2 _ _ hP, cell_of_row w10 C0 1 _ _ _ A.cp, cell_of_row w10 C0 2 _ _ _ A.cp, code_6 A.code, code_7 A.code, (Array.getElem?_eq_some_iff.1 hP).1, (Array.getElem?_eq_some_iff.1 A.cp).1, Nat.lt_of_lt_of_le A.code.lt A.code.le,
    cell_of_row w10 _ 0 _ _ _ hR, cell_of_row w10 _ 1 _ _ _ hR, cell_of_row w10 _ 2 _ _ _ hR, frozen_of_row w10 _ 0 _ _ hR, frozen_of_row w10 _ 1 _ _ hR, frozen_of_row w10 _ 2 _ _ hR, (Array.getElem?_eq_some_iff.1 hR).1, by omega, by omega⟩

theorem wpList_append_none {ops : Array Oper} {rest : List Oper} {o : Oper} {a : Act} {Q : Exit → Act → World → Prop} {w : World} (hgd : o.guard = none) (s x : Operand) (t : TypeId)
    (ho : o.op = .call { callee := .builtin .append, args := #[s, x], argTypes := #[t, t] })
    (base : Nat) (e : TypeId) (i : TypeInfo) (size : Nat) (ht : Try.prog.underlying t = some (.slice e)) (hi : Try.prog.info? e = some i)
    (v : Value) (n : Nat) (xs : List Value) (hs : a.eval s = v) (hown : w.ownsRow base e size v n xs) (hx : a.eval x = .slice none 0 0)
    (h : wpList Try.prog ops Q rest (a.put o.dst v) w) :
    wpList Try.prog ops Q (o :: rest) a w := by
  refine wpList_plain hgd fun K hK => ?_
  have hr := run_append_owned_none (P := Try.prog) (w := w) base t o.type e i size ht hi v n xs hown
  unfold Oper.wp execOp
  simp only [ho, resolve, invoke, builtin, Sem.run_bind, Sem.run_pure, Result.andThen_ok, List.map_toArray, List.map_cons, List.map_nil, hs, hx, hr]
  exact hK _ _ h

theorem byte_und : Try.prog.underlying 29 = some (.slice 5) := by kernel_rfl
theorem byte_info : (Try.prog.info? 5).map (fun i => (i.zero, i.size, i.bytes)) = some (some (.int .u8 0), 1, 1) := by kernel_rfl

/-- What the region that appends a function yields. -/
def vS (P0 C0 Bd N12 : Nat) (args len : Int) (vF vl vout v13 : Value) : Nat → Value
  | 1 => vF
  | n => vR P0 C0 Bd N12 args len vl vout v13 n

theorem bigF_true {u : Un} {k : Nat} {f : Fun} (hf : u.funcs[k]? = some f) (h : 4096 < (fullP u.texts f.parts).out.length) : bigF u = true := by
  unfold bigF
  rw [List.any_eq_true]
  exact ⟨f, List.mem_of_getElem? hf, by simpa using h⟩
theorem bigF_false {u : Un} (h : ∀ (k : Nat) (f : Fun), u.funcs[k]? = some f → (fullP u.texts f.parts).out.length ≤ 4096) : bigF u = false := by
  unfold bigF
  rw [List.any_eq_false]
  intro f hf
  obtain ⟨k, hk⟩ := List.mem_iff_getElem?.1 hf
  have := h k f hk
  simp; omega

/-- What compile leaves, where it tells a program. -/
structure CRes (w w' : World) (u : Un) (vd vF v : Value) (rows : List (Value × Value)) : Prop where
  len : rows.length = u.funcs.length
  gr : w.grownBy w' none
  dt : w'.ownsRow w.heap.size 5 1 vd (dataE u).length ((dataE u).map (Value.int .u8))
  fr : w'.ownsRow w.heap.size 73 4 vF u.funcs.length (flat4 u.funcs rows)
  or : w'.ownsRow w.heap.size 47 1 v u.funcs.length (rows.map Prod.snd)
  each : ∀ (i : Nat) (vo vg : Value) (f : Fun), rows[i]? = some (vo, vg) → u.funcs[i]? = some f → w'.ownsRow w.heap.size 75 2 vo (fullP u.texts f.parts).out.length (flat2 (fullP u.texts f.parts).out) ∧
    w'.ownsRow w.heap.size 3 1 vg (fullP u.texts f.parts).org.length ((fullP u.texts f.parts).org.map (Value.int .i64))
  ord : ∀ (i j : Nat) (a b a' b' : Value), i < j → rows[i]? = some (a, b) → rows[j]? = some (a', b') → ∀ (x y : Nat), (a.ownBlock = some x ∨ b.ownBlock = some x) → (a'.ownBlock = some y ∨ b'.ownBlock = some y) → x < y

/-- A block of the program's type is written, or new memory made: the result stands. -/
theorem cres_kept {w w' w'' : World} {u : Un} {vd vF v : Value} {rows : List (Value × Value)} {P : Nat → Prop} (h : CRes w w' u vd vF v rows) (s : Sp P w' w'') (hp : ∀ k, P k → w.heap.size ≤ k) (ho : ∀ (e : TypeId) (size n : Nat) (x : Value) (xs : List Value), w'.ownsRow w.heap.size e size x n xs → (e = 5 ∨ e = 73 ∨ e = 47 ∨ e = 75 ∨ e = 3) → ∀ k, x.ownBlock = some k → ¬ P k) : CRes w w'' u vd vF v rows := by
  refine ⟨h.len, ?_, own_sp h.dt s (ho _ _ _ _ _ h.dt (by decide)), own_sp h.fr s (ho _ _ _ _ _ h.fr (by decide)), own_sp h.or s (ho _ _ _ _ _ h.or (by decide)), fun i vo vg f hi hf => ?_, h.ord⟩
  · refine sp_to_grown (sp_trans (sp_grown (P := P) h.gr (by simp)) s (fun _ _ h => h)) fun k hk hk2 => ?_
    have := hp k hk2; omega
  · obtain ⟨e1, e2⟩ := h.each i vo vg f hi hf
    exact ⟨own_sp e1 s (ho _ _ _ _ _ e1 (by decide)), own_sp e2 s (ho _ _ _ _ _ e2 (by decide))⟩

def MainPost (w : World) (u : Un) (mem : Int) (e : Ending) (w' : World) : Prop :=
  if bigF u = true then BadPost w 181 e w' else ∃ vd vF v rows, e = .returned (.tuple #[.agg #[.int .i64 mem, vd, vF], v, .int .i64 0]) ∧ CRes w w' u vd vF v rows

theorem main_end {w wr : World} {u : Un} {mem : Int} {vt vf : Value} {P0 : Nat} {v vd vF : Value} {rows : List (Value × Value)} (h : CLoop w wr u mem vt vf P0 u.funcs.length v vd vF rows) (a b c : Value) :
    CRes w (((wr.setCell ⟨w.heap.size + 1, 0, none⟩ a).setCell ⟨w.heap.size + 1, 1, none⟩ b).setCell ⟨w.heap.size + 1, 2, none⟩ c) u vd vF v rows := by
  have hT : wr.grownBy (((wr.setCell ⟨w.heap.size + 1, 0, none⟩ a).setCell ⟨w.heap.size + 1, 1, none⟩ b).setCell ⟨w.heap.size + 1, 2, none⟩ c) (some (w.heap.size + 1)) := grownBy_trans (grownBy_trans (grownBy_set wr _ 0 _) (grownBy_set _ _ 1 _)) (grownBy_set _ _ 2 _)
  refine cres_kept (P := fun k => k = w.heap.size + 1) (w' := wr) ⟨h.len, h.gr, h.dt, h.fr, h.or, h.each, h.ord⟩ (sp_grown hT fun k _ e => by injection e with e; exact e.symm) (fun k e => by omega) ?_
  intro e size n x xs ho he k hk hk2
  refine own_not_box ho h.rb ?_ (by rw [hk, hk2])
  rcases he with rfl | rfl | rfl | rfl | rfl <;> decide

theorem main_bad {w wr w10 : World} {u : Un} {mem : Int} {vt vf : Value} {P0 k : Nat} {v vd vF : Value} {rows : List (Value × Value)} (h : CLoop w wr u mem vt vf P0 k v vd vF rows) (g : wr.grownBy w10 none) (a b c : Value) :
    w.grownBy (((w10.setCell ⟨w.heap.size + 1, 0, none⟩ a).setCell ⟨w.heap.size + 1, 1, none⟩ b).setCell ⟨w.heap.size + 1, 2, none⟩ c) none := by
  have hT : w10.grownBy (((w10.setCell ⟨w.heap.size + 1, 0, none⟩ a).setCell ⟨w.heap.size + 1, 1, none⟩ b).setCell ⟨w.heap.size + 1, 2, none⟩ c) (some (w.heap.size + 1)) := grownBy_trans (grownBy_trans (grownBy_set w10 _ 0 _) (grownBy_set _ _ 1 _)) (grownBy_set _ _ 2 _)
  exact grow_new (grownBy_trans h.gr g) hT (by omega)

end Go.Proofs.Ytecaolkbllbokaa.TG
