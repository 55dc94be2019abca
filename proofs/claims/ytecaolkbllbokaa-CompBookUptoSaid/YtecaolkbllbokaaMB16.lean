/-
  What the checker's answer says of a function's parts, for the compiler. Conditions: as each theorem states.
  What compile tells, as plain functions; where it tells an error at once. Conditions: as each theorem states.
  Where compile's loops stand: the texts' bytes, the functions that are done. Conditions: as each theorem states.
  What compile's walk needs at each turn: the texts' bytes, a function's code. Conditions: as each theorem states.
  Walk of the compiler's compile, for a right unit and memory enough. Conditions: as each theorem states.
-/
import Derived.Test.YtecaolkbllbokaaMB12
import Derived.Test.YtecaolkbllbokaaMB07
import Derived.Test.YtecaolkbllbokaaMB15
import Derived.Test.YtecaolkbllbokaaMB10
namespace Go.Proofs.Ytecaolkbllbokaa.TG
open Go.RowKit Go.Great
set_option linter.unusedSimpArgs false
set_option linter.unusedVariables false

theorem alone_well {nl nt : Nat} {fs : List Int} {m : Nat} {k n kc what : Int} (h : aloneE nl nt fs m k n kc what = 0) (hm : m ≤ 1000) : WellK nt m k n kc := by
  unfold aloneE at h
  by_cases h1 : k < 1 ∨ 27 ≤ k
  · rw [if_pos h1] at h; omega
  rw [if_neg h1] at h
  by_cases h2 : kindsE k ≠ what ∧ ¬ (kindsE k = 0 ∧ what = 1)
  · rw [if_pos h2] at h; omega
  rw [if_neg h2] at h
  by_cases h3 : numE nl nt fs.length m k n ≠ 0
  · rw [if_pos h3] at h; exact absurd h h3
  rw [if_neg h3] at h
  have h4 : numE nl nt fs.length m k n = 0 := by omega
  have key : ∀ {a b e : Int}, e ≠ 0 → amongE a b e = 0 → 0 ≤ a ∧ a < b := by
    intro a b e he hab
    unfold amongE at hab
    split at hab <;> omega
  refine ⟨hm, by omega, by omega, ?_, ?_, ?_, ?_⟩
  · intro e; subst e
    unfold kidsE at h
    simp at h
    omega
  · intro e
    unfold kidsE at h
    rw [if_neg (by omega), if_neg (by omega), if_neg (by omega), if_neg (by omega), if_neg (by omega), if_pos (by omega)] at h
    split at h <;> omega
  · intro e
    unfold kidsE at h
    rw [if_neg (by omega), if_neg (by omega), if_neg (by omega), if_neg (by omega), if_neg (by omega), if_neg (by omega)] at h
    unfold numE at h4
    rw [if_neg (by omega), if_neg (by omega), if_neg (by omega), if_neg (by omega), if_neg (by omega), if_pos (by omega)] at h4
    have := key (by decide) h4
    refine ⟨?_, this.1, this.2⟩
    split at h <;> omega
  · intro e
    unfold numE at h4
    rw [if_neg (by omega), if_neg (by omega), if_pos (by omega)] at h4
    exact key (by decide) h4

theorem loop_ok {nl nt : Nat} {fs : List Int} {ps : List (Int × Int × Int)} {g m : Nat} {k : Int} (hk : k ≠ 6)
    (IH : ∀ what s, (partE nl nt fs ps g what s).2.1 = 0 → s.l = (m : Int) → okP nt ps g m s.a ∧ (partE nl nt fs ps g what s).2.2.a = skipS ps g s.a ∧ (partE nl nt fs ps g what s).2.2.l = s.l) : ∀ (r i : Nat) (s : St) (ws : List Int),
    (loopE (partE nl nt fs ps g) k r i s ws).2.1 = 0 → s.l = (m : Int) → kidsO (okP nt ps g m) (skipS ps g) r s.a ∧ (loopE (partE nl nt fs ps g) k r i s ws).2.2.a = kidsS (skipS ps g) r s.a ∧ (loopE (partE nl nt fs ps g) k r i s ws).2.2.l = s.l
  | 0, i, s, ws, _, _ => ⟨trivial, rfl, rfl⟩
  | r + 1, i, s, ws, h, hl => by
    have e1 : stepIn k i s = s := by unfold stepIn; rw [if_neg (by omega)]
    have e2 : ∀ s', stepOut k i s' = s' := fun s' => by unfold stepOut; rw [if_neg (by omega)]
    by_cases hb : (partE nl nt fs ps g (kidE k i) (stepIn k i s)).2.1 = 0
    · rw [loopE_good _ _ _ _ _ _ hb] at h ⊢
      rw [e1] at hb
      obtain ⟨o1, o2, o3⟩ := IH _ _ hb hl
      rw [e1, e2] at h ⊢
      obtain ⟨p1, p2, p3⟩ := loop_ok hk IH r (i + 1) _ _ h (by rw [o3]; exact hl)
      rw [o2] at p1
      refine ⟨⟨o1, p1⟩, ?_, by rw [p3, o3]⟩
      rw [p2, o2]; rfl
    · rw [loopE_bad _ _ _ _ _ _ hb] at h
      exact absurd h hb

theorem part_ok (nl nt : Nat) (fs : List Int) (ps : List (Int × Int × Int)) : ∀ (g : Nat) (what : Int) (s : St) (m : Nat), (partE nl nt fs ps g what s).2.1 = 0 → s.l = (m : Int) → m + g ≤ 1000 →
    okP nt ps g m s.a ∧ (partE nl nt fs ps g what s).2.2.a = skipS ps g s.a ∧ (partE nl nt fs ps g what s).2.2.l = s.l
  | 0, what, s, m, h, hl, hg => by
    exfalso
    unfold partE at h
    cases hp : ps[s.a]? with
    | none => rw [hp] at h; simp at h
    | some x =>
      obtain ⟨k, n, kc⟩ := x
      rw [hp] at h
      simp only at h
      split at h
      · next h1 => exact h1 h
      · simp at h
  | g + 1, what, s, m, h, hl, hg => by
    have IH := fun m' (hm' : m' + g ≤ 1000) what' s' h' hl' => part_ok nl nt fs ps g what' s' m' h' hl' hm'
    cases hp : ps[s.a]? with
    | none => unfold partE at h; rw [hp] at h; simp at h
    | some x =>
      obtain ⟨k, n, kc⟩ := x
      by_cases he : aloneE nl nt fs s.l k n kc what = 0
      · have hpk := partE_kids nl nt fs ps g what s k n kc hp he _ rfl
        rw [hpk] at h ⊢
        have hw := alone_well (by rw [← hl]; exact he) (by omega : m ≤ 1000)
        have eS : skipS ps (g + 1) s.a = kidsS (skipS ps g) kc.toNat (s.a + 1) := by rw [skipS, hp]
        by_cases hr : (loopE (partE nl nt fs ps g) k kc.toNat 0 ⟨s.a + 1, s.l, s.m⟩ []).2.1 = 0
        · rw [if_neg (by omega)] at h ⊢
          rw [eS]
          by_cases h6 : k = 6
          · subst h6
            have hk2 := hw.w (Or.inl rfl)
            subst hk2
            have e0 : (2 : Int).toNat = 1 + 1 := rfl
            rw [e0] at hr ⊢
            by_cases hb : (partE nl nt fs ps g (kidE 6 (0 : Nat)) (stepIn 6 0 ⟨s.a + 1, s.l, s.m⟩)).2.1 = 0
            · rw [loopE_good _ _ _ _ _ _ hb] at hr ⊢
              have i0 : stepIn 6 0 ⟨s.a + 1, s.l, s.m⟩ = ⟨s.a + 1, s.l, s.m⟩ := rfl
              have o0 : ∀ s', stepOut 6 0 s' = s' := fun _ => rfl
              rw [i0] at hb
              obtain ⟨q1, q2, q3⟩ := IH m (by omega) _ _ hb hl
              rw [i0, o0] at hr ⊢
              generalize hs1 : (partE nl nt fs ps g (kidE 6 (0 : Nat)) ⟨s.a + 1, s.l, s.m⟩).2.2 = s1 at *
              have i1 : stepIn 6 (0 + 1) s1 = ⟨s1.a, s1.l + 1, s1.m⟩ := rfl
              by_cases hb2 : (partE nl nt fs ps g (kidE 6 ((0 + 1 : Nat) : Int)) (stepIn 6 (0 + 1) s1)).2.1 = 0
              · rw [loopE_good _ _ _ _ _ _ hb2] at hr ⊢
                rw [i1] at hb2 hr ⊢
                have hl1 : s1.l + 1 = ((m + 1 : Nat) : Int) := by rw [q3]; simp only; omega
                obtain ⟨r1, r2, r3⟩ := IH (m + 1) (by omega) _ _ hb2 hl1
                rw [loopE_zero]
                simp only at q2 q3 r1 r2 r3
                refine ⟨⟨6, n, 2, hp, hw, ?_⟩, ?_, ?_⟩
                · rw [if_pos rfl]
                  rw [q2] at r1
                  exact ⟨q1, r1⟩
                · refine Eq.trans (b := (partE nl nt fs ps g (kidE 6 ((0 + 1 : Nat) : Int)) ⟨s1.a, s1.l + 1, s1.m⟩).2.2.a) rfl ?_
                  rw [r2, q2]; rfl
                · refine Eq.trans (b := (partE nl nt fs ps g (kidE 6 ((0 + 1 : Nat) : Int)) ⟨s1.a, s1.l + 1, s1.m⟩).2.2.l - 1) rfl ?_
                  rw [r3, q3]; omega
              · rw [loopE_bad _ _ _ _ _ _ hb2] at hr
                exact absurd hr hb2
            · rw [loopE_bad _ _ _ _ _ _ hb] at hr
              exact absurd hr hb
          · obtain ⟨p1, p2, p3⟩ := loop_ok h6 (IH m (by omega)) kc.toNat 0 ⟨s.a + 1, s.l, s.m⟩ [] hr hl
            exact ⟨⟨k, n, kc, hp, hw, by rw [if_neg h6]; exact p1⟩, p2, p3⟩
        · rw [if_pos hr] at h
          exact absurd h hr
      · rw [partE_bad nl nt fs ps (g + 1) what s k n kc hp he] at h
        exact absurd h he

end Go.Proofs.Ytecaolkbllbokaa.TG

namespace Go.Proofs.Ytecaolkbllbokaa.TG
open Go.RowKit Go.Great
set_option linter.unusedSimpArgs false
set_option linter.unusedVariables false

/-- A function's code. -/
def fullP (ts : List (ByteArray × List Int)) (ps : List (Int × Int × Int)) : PS := ((writeP ts ps 65 ⟨[], [], []⟩ 0).1.emit 0 (3, 0)).emit 0 (18, 0)

def bigF (u : Un) : Bool := u.funcs.any fun f => decide (4096 < (fullP u.texts f.parts).out.length)

/-- compile's error. -/
def compE (u : Un) (mem : Int) : Int :=
  if checkE u ≠ 0 then checkE u else if mem < 0 ∨ 65536 < mem then 1 else if mem < bytesTo u.texts u.texts.length then 181 else if bigF u then 181 else 0

theorem head_locals {ns : List ByteArray} {f : Fun} (h : headE ns f.name f.args f.locals = 0) : 0 ≤ f.args ∧ f.args ≤ f.locals.length ∧ f.locals.length ≤ 64 := by
  unfold headE at h
  repeat' split at h
  all_goals first | omega | exact ⟨by omega, by omega, by omega⟩

theorem heads_all : ∀ (us : List Fun) (ns : List ByteArray), headsE ns us = 0 → ∀ f ∈ us, 0 ≤ f.args ∧ f.args ≤ f.locals.length ∧ f.locals.length ≤ 64
  | [], _, _, f, hf => by cases hf
  | g :: r, ns, h, f, hf => by
    unfold headsE at h
    by_cases h1 : headE ns g.name g.args g.locals = 0
    · rw [if_pos h1] at h
      rcases List.mem_cons.1 hf with rfl | hf
      · exact head_locals h1
      · exact heads_all r _ h f hf
    · rw [if_neg h1] at h; exact absurd h h1

theorem alls_all (nt : Nat) (fs : List Int) : ∀ (us : List Fun), allsE nt fs us = 0 → ∀ f ∈ us, allE f.locals.length nt fs f.parts = 0
  | [], _, f, hf => by cases hf
  | g :: r, h, f, hf => by
    unfold allsE at h
    by_cases h1 : allE g.locals.length nt fs g.parts = 0
    · rw [if_pos h1] at h
      rcases List.mem_cons.1 hf with rfl | hf
      · exact h1
      · exact alls_all nt fs r h f hf
    · rw [if_neg h1] at h; exact absurd h h1

/-- What a right unit is. -/
structure Right (u : Un) : Prop where
  nf : 1 ≤ u.funcs.length ∧ u.funcs.length ≤ 64
  nt : u.texts.length ≤ 1024
  by_ : bytesTo u.texts u.texts.length ≤ 65536
  a0 : (u.funcs.map Fun.args).getD 0 0 = 0
  ok : ∀ f ∈ u.funcs, okP u.texts.length f.parts 65 0 0 ∧ skipS f.parts 65 0 = f.parts.length
  lo : ∀ f ∈ u.funcs, 0 ≤ f.args ∧ f.args ≤ f.locals.length ∧ f.locals.length ≤ 64

theorem right_of {u : Un} (h : checkE u = 0) : Right u := by
  unfold checkE at h
  by_cases h1 : 64 < u.funcs.length ∨ 1024 < u.texts.length ∨ 65536 < bytesTo u.texts u.texts.length
  · rw [if_pos h1] at h; omega
  rw [if_neg h1] at h
  by_cases h2 : u.funcs.length = 0 ∨ (u.funcs.map Fun.args).getD 0 0 ≠ 0
  · rw [if_pos h2] at h; omega
  rw [if_neg h2] at h
  by_cases h3 : namesE [] (u.texts.map Prod.fst) ≠ 0
  · rw [if_pos h3] at h; exact absurd h h3
  rw [if_neg h3] at h
  by_cases h4 : headsE [] u.funcs ≠ 0
  · rw [if_pos h4] at h; exact absurd h h4
  rw [if_neg h4] at h
  refine ⟨by omega, by omega, by omega, by omega, fun f hf => ?_, heads_all u.funcs [] (by omega)⟩
  have ha := alls_all _ _ _ h f hf
  unfold allE at ha
  by_cases h5 : (partE f.locals.length u.texts.length (u.funcs.map Fun.args) f.parts 65 0 ⟨0, 0, 0⟩).2.1 ≠ 0
  · rw [if_pos h5] at ha; exact absurd ha h5
  rw [if_neg h5] at ha
  by_cases h6 : (partE f.locals.length u.texts.length (u.funcs.map Fun.args) f.parts 65 0 ⟨0, 0, 0⟩).2.2.a ≠ f.parts.length
  · rw [if_pos h6] at ha; omega
  obtain ⟨p1, p2, p3⟩ := part_ok f.locals.length u.texts.length (u.funcs.map Fun.args) f.parts 65 0 ⟨0, 0, 0⟩ 0 (by omega) rfl (by omega)
  refine ⟨p1, ?_⟩
  rw [← p2]
  omega

/-- An error: nothing is told beside it. -/
def BadPost (w : World) (code : Int) (e : Ending) (w' : World) : Prop := e = .returned (.tuple #[.agg #[.int .i64 0, .slice none 0 0, .slice none 0 0], .slice none 0 0, .int .i64 code]) ∧ w.grownBy w' none

theorem bad_grow {w w1 : World} {o o' : Obj} {a b c : Value} (hg : ((w.alloc o).alloc o').grownBy w1 none) : w.grownBy (((w1.setCell ⟨w.heap.size + 1, 0, none⟩ a).setCell ⟨w.heap.size + 1, 1, none⟩ b).setCell ⟨w.heap.size + 1, 2, none⟩ c) none := by
  have hT : w1.grownBy (((w1.setCell ⟨w.heap.size + 1, 0, none⟩ a).setCell ⟨w.heap.size + 1, 1, none⟩ b).setCell ⟨w.heap.size + 1, 2, none⟩ c) (some (w.heap.size + 1)) := grownBy_trans (grownBy_trans (grownBy_set w1 _ 0 _) (grownBy_set _ _ 1 _)) (grownBy_set _ _ 2 _)
  exact grow_new (grownBy_trans (grownBy_trans (World.grownBy_alloc w o none) (World.grownBy_alloc _ o' none)) hg) hT (by omega)

set_option maxRecDepth 100000 in
set_option maxHeartbeats 4000000 in
theorem compile_bad (u : Un) (hu : UnWF u) (mem : Int) (pt pf : Option Addr) (ct cf B : Nat) (w : World) (hU : UnitAt w B pt pf u) (hb : checkE u ≠ 0 ∨ (mem < 0 ∨ 65536 < mem) ∨ mem < bytesTo u.texts u.texts.length) :
    Calls Try.prog 27 #[.agg #[.slice pt u.texts.length ct, .slice pf u.funcs.length cf], .int .i64 mem] w (BadPost w (compE u mem)) := by
  have CA := Lib.hid (fun w' (hU' : UnitAt w' B pt pf u) => check_any u hu pt pf ct cf B w' hU')
  have UU := Lib.hid hU
  unfold compE
  by_cases h1 : checkE u = 0
  · have hr := right_of h1
    have SA := Lib.hid (fun w' (hU' : UnitAt w' B pt pf u) => size_any u.texts hr.nt hu.text pt ct B w' hU'.texts hU'.le)
    rw [if_neg (by omega)]
    by_cases h2 : mem < 0 ∨ 65536 < mem
    · rw [if_pos h2]
      generalize checkE u = ce at *
      subst h1
      rcases h2 with h2 | h2
      · clear hU hb SA hr
        go_enter Try.func27, Try.ntmps27
        go_wp2_with (go_at_call 22; refine (CA.out _ (unitAt_kept UU.out (grownBy_trans (World.grownBy_alloc w _ none) (World.grownBy_alloc _ _ none)) (by simp))).mono ?_; rintro e w1 ⟨rfl, hg1⟩; have hR := box_moved (box_two w _ _) hg1 (by simp); have r0 := cell_of_row w1 _ 0 _ _ _ hR; have r1 := cell_of_row w1 _ 1 _ _ _ hR; have r2 := cell_of_row w1 _ 2 _ _ _ hR; have z0 := frozen_of_row w1 _ 0 _ _ hR; have z1 := frozen_of_row w1 _ 1 _ _ hR; have z2 := frozen_of_row w1 _ 2 _ _ hR; have hlR := (Array.getElem?_eq_some_iff.1 hR).1; have HG := Lib.hid hg1; clear hg1 hR)
        refine bodyPost_ret (v := .tuple #[.agg #[.int .i64 0, .slice none 0 0, .slice none 0 0], .slice none 0 0, .int .i64 1]) ?_ rfl ⟨rfl, bad_grow HG.out⟩
        rw [results_cell_tmp2 rfl]
        go_simp
      · have h3 : ¬ mem < 0 := by omega
        clear hU hb SA hr
        go_enter Try.func27, Try.ntmps27
        go_wp2_with (go_at_call 22; refine (CA.out _ (unitAt_kept UU.out (grownBy_trans (World.grownBy_alloc w _ none) (World.grownBy_alloc _ _ none)) (by simp))).mono ?_; rintro e w1 ⟨rfl, hg1⟩; have hR := box_moved (box_two w _ _) hg1 (by simp); have r0 := cell_of_row w1 _ 0 _ _ _ hR; have r1 := cell_of_row w1 _ 1 _ _ _ hR; have r2 := cell_of_row w1 _ 2 _ _ _ hR; have z0 := frozen_of_row w1 _ 0 _ _ hR; have z1 := frozen_of_row w1 _ 1 _ _ hR; have z2 := frozen_of_row w1 _ 2 _ _ hR; have hlR := (Array.getElem?_eq_some_iff.1 hR).1; have HG := Lib.hid hg1; clear hg1 hR)
        refine bodyPost_ret (v := .tuple #[.agg #[.int .i64 0, .slice none 0 0, .slice none 0 0], .slice none 0 0, .int .i64 1]) ?_ rfl ⟨rfl, bad_grow HG.out⟩
        rw [results_cell_tmp2 rfl]
        go_simp
    · rw [if_neg h2]
      have h3 : mem < bytesTo u.texts u.texts.length := by omega
      have h4 : ¬ mem < 0 := by omega
      have h5 : ¬ 65536 < mem := by omega
      rw [if_pos h3]
      generalize checkE u = ce at *
      subst h1
      clear hU hb hr h2
      go_enter Try.func27, Try.ntmps27
      go_wp2_with (first
        | (go_at_call 22; refine (CA.out _ (unitAt_kept UU.out (grownBy_trans (World.grownBy_alloc w _ none) (World.grownBy_alloc _ _ none)) (by simp))).mono ?_; rintro e w1 ⟨rfl, hg1⟩; have hUB := boxU_kept (boxU_kept (boxU_new w _ _) (World.grownBy_alloc _ _ none) (by simp)) hg1 (by simp); have b0 := boxU_0 hUB; have hltB := boxU_lt hUB; have HU1 := Lib.hid (unitAt_kept UU.out (grownBy_trans (grownBy_trans (World.grownBy_alloc w _ none) (World.grownBy_alloc _ _ none)) hg1) (by simp)); have HG1 := Lib.hid hg1; clear hg1 hUB)
        | (go_at_call 41; refine (SA.out _ HU1.out).mono ?_; rintro e w2 ⟨rfl, hg2⟩; have hg3 := grownBy_trans HG1.out hg2; have hR := box_moved (box_two w _ _) hg3 (by simp); have r0 := cell_of_row w2 _ 0 _ _ _ hR; have r1 := cell_of_row w2 _ 1 _ _ _ hR; have r2 := cell_of_row w2 _ 2 _ _ _ hR; have z0 := frozen_of_row w2 _ 0 _ _ hR; have z1 := frozen_of_row w2 _ 1 _ _ hR; have z2 := frozen_of_row w2 _ 2 _ _ hR; have hlR := (Array.getElem?_eq_some_iff.1 hR).1; have HG := Lib.hid hg3; clear hg2 hg3 hR))
      refine bodyPost_ret (v := .tuple #[.agg #[.int .i64 0, .slice none 0 0, .slice none 0 0], .slice none 0 0, .int .i64 181]) ?_ rfl ⟨rfl, bad_grow HG.out⟩
      rw [results_cell_tmp2 rfl]
      go_simp
  · rw [if_pos h1]
    generalize checkE u = ce at *
    clear hU hb
    go_enter Try.func27, Try.ntmps27
    go_wp2_with (go_at_call 22; refine (CA.out _ (unitAt_kept UU.out (grownBy_trans (World.grownBy_alloc w _ none) (World.grownBy_alloc _ _ none)) (by simp))).mono ?_; rintro e w1 ⟨rfl, hg1⟩; have hR := box_moved (box_two w _ _) hg1 (by simp); have r0 := cell_of_row w1 _ 0 _ _ _ hR; have r1 := cell_of_row w1 _ 1 _ _ _ hR; have r2 := cell_of_row w1 _ 2 _ _ _ hR; have z0 := frozen_of_row w1 _ 0 _ _ hR; have z1 := frozen_of_row w1 _ 1 _ _ hR; have z2 := frozen_of_row w1 _ 2 _ _ hR; have hlR := (Array.getElem?_eq_some_iff.1 hR).1; have HG := Lib.hid hg1; clear hg1 hR)
    refine bodyPost_ret (v := .tuple #[.agg #[.int .i64 0, .slice none 0 0, .slice none 0 0], .slice none 0 0, .int .i64 ce]) ?_ rfl ⟨rfl, bad_grow HG.out⟩
    rw [results_cell_tmp2 rfl]
    go_simp

end Go.Proofs.Ytecaolkbllbokaa.TG

namespace Go.Proofs.Ytecaolkbllbokaa.TG
open Go.RowKit Go.Great
set_option linter.unusedSimpArgs false
set_option linter.unusedVariables false

def flat4 : List Fun → List (Value × Value) → List Value
  | f :: fs, r :: rs => .int .i64 f.args :: .int .i64 f.locals.length :: .int .i64 1 :: r.1 :: flat4 fs rs
  | _, _ => []
theorem flat4_snoc : ∀ {fs : List Fun} {rs : List (Value × Value)} {f : Fun} {r : Value × Value}, fs[rs.length]? = some f → flat4 fs (rs ++ [r]) = flat4 fs rs ++ [.int .i64 f.args, .int .i64 f.locals.length, .int .i64 1, r.1]
  | [], rs, f, r, h => by cases h
  | g :: fs, [], f, r, h => by
    simp at h; subst h
    simp [flat4]
  | g :: fs, x :: rs, f, r, h => by
    have ih := flat4_snoc (fs := fs) (rs := rs) (f := f) (r := r) (by simpa using h)
    simp [flat4, ih]

def dataE (u : Un) : List Int := u.texts.flatMap Prod.snd

theorem own_lower {w : World} {base base' : Nat} {e : TypeId} {size n : Nat} {v : Value} {xs : List Value} (h : w.ownsRow base e size v n xs) (hb : base' ≤ base) : w.ownsRow base' e size v n xs := by
  refine ⟨h.1, ?_⟩
  rcases h.2 with h | ⟨g, cap, cur, e1, e2, e3⟩
  · exact Or.inl h
  · exact Or.inr ⟨g, cap, cur, e1, Nat.le_trans hb e2, e3⟩
theorem own_not_box {w : World} {base : Nat} {e t : TypeId} {size n b : Nat} {v : Value} {xs : List Value} {cs : Array Value} (h : w.ownsRow base e size v n xs) (hb : w.heap[b]? = some (.cells cs t (0, 0))) (hne : e ≠ t) : v.ownBlock ≠ some b := by
  rcases h.2 with ⟨rfl, _⟩ | ⟨g, cap, cur, rfl, _, hg, _⟩
  · simp [Value.ownBlock]
  · simp only [Value.ownBlock]
    intro e'
    injection e' with e'
    subst e'
    rw [hb] at hg
    injection hg with hg
    injection hg with _ h2 _
    exact hne h2.symm

/-- Behind a function's two last emits. -/
structure FM (wr w10 : World) (E C0 Bd : Nat) (vt vf : Value) (nm : ByteArray) (ar : Int) (vl vp vo vg vlo vk : Value) (out : List (Int × Int)) (org : List Int) : Prop where
  code : CodeAt w10 E Bd vt vf nm ar vl vp vo vg vlo vk out org
  gr : wr.grownBy w10 none
  cp : w10.heap[C0]? = some (.cells #[.string nm, .int .i64 ar, vl, vp] 69 (0, 0))
  eC : C0 = wr.heap.size
  eB : Bd = C0 + 1
  lE : wr.heap.size ≤ E

def Stt.nil : Stt := ⟨.slice none 0 0, .slice none 0 0, .slice none 0 0, [], [], []⟩

theorem nil_P {c : Cx} {k : Nat} (h : c.P Stt.nil k) : k = c.Bd := by
  rcases h with (e | e | e) | e | ⟨l, hl, _⟩
  · exact e
  · cases e
  · cases e
  · cases e
  · cases hl

/-- The compiler's block, made anew. -/
theorem one_at {c : Cx} {w3 w6 : World} (h : AE w3 w6 c.Bd c.bc c.b6 c.M (.slice c.pt c.ts.length c.ct) c.vf c.nm c.ar c.vl (.slice c.pp c.ps.length c.cp)) (hE : c.E = w6.heap.size) (hB : c.B ≤ w3.heap.size) (hp : PartsB w3 c.B c.pp c.ps) (ht : TextsAt w3 c.B c.pt c.ts) :
    AtS c (w6.setCell ⟨c.Bd, 9, none⟩ (.map (some c.M))) Stt.nil := by
  have hb := one_b h
  have he := one_e h hp hB
  rw [← hE] at hb he
  have heB := h.eB
  have hs : ∀ k, k < c.B → (w6.setCell ⟨c.Bd, 9, none⟩ (.map (some c.M))).heap[k]? = w3.heap[k]? := fun k hk => by
    rw [heap_setCell_other w6 _ k _ (by simp; omega)]
    exact h.gr.block k (by omega) (by simp)
  exact ⟨hb, World.ownsRow_nil _ _ _ _, fun l hl => (by cases hl), fun i k l l' _ hi => (by cases hi), fun l hl => (by cases hl), ⟨rfl, fun x hx => (by cases hx), fun x hx => (by cases hx)⟩, he.pa, he.ki, texts_sp ht hs⟩

theorem fm_of {c : Cx} {w3 w6 w10 : World} {s10 : Stt} (h : AE w3 w6 c.Bd c.bc c.b6 c.M (.slice c.pt c.ts.length c.ct) c.vf c.nm c.ar c.vl (.slice c.pp c.ps.length c.cp)) (hE : c.E = w6.heap.size) (g : Go c (w6.setCell ⟨c.Bd, 9, none⟩ (.map (some c.M))) Stt.nil w10 s10) :
    FM w3 w10 c.E w3.heap.size c.Bd (.slice c.pt c.ts.length c.ct) c.vf c.nm c.ar c.vl (.slice c.pp c.ps.length c.cp) s10.vout s10.vorg s10.vlo (.map (some c.M)) s10.out s10.org := by
  have heB := h.eB
  have hz3 := h.gr.size
  have hB6 : c.Bd < w6.heap.size := (Array.getElem?_eq_some_iff.1 h.hb).1
  have low : ∀ k, k < w6.heap.size → k ≠ c.Bd → w10.heap[k]? = w6.heap[k]? := fun k hk hne => by
    rw [g.sp.block k (by rw [World.size_setCell]; exact hk) (fun hp => hne (nil_P hp))]
    exact heap_setCell_other w6 _ k _ hne
  have hs := g.sp.size
  rw [World.size_setCell] at hs
  refine ⟨g.at_.code, ⟨?_, ?_, ?_, by omega, fun k hk _ => ?_⟩, ?_, rfl, heB, by omega⟩
  · exact g.sp.os.trans h.gr.os
  · exact g.sp.tape.trans h.gr.tape
  · exact g.sp.output.trans h.gr.output
  · rw [low k (by omega) (by omega)]; exact h.gr.block k hk (by simp)
  · rw [low _ (by omega) (by omega)]; exact h.cp

/-- Where the loop over the functions stands: k are done. -/
structure CLoop (w wr : World) (u : Un) (mem : Int) (vt vf : Value) (P0 k : Nat) (v vd vF : Value) (rows : List (Value × Value)) : Prop where
  len : rows.length = k
  pb : wr.heap[P0]? = some (.cells #[.int .i64 mem, vd, vF] 32 (0, 0))
  rb : wr.heap[w.heap.size + 1]? = some (.cells #[.int .i64 0, .slice none 0 0, .slice none 0 0] 32 (0, 0))
  hP : w.heap.size + 1 < P0
  gr : w.grownBy wr none
  ub : BoxU wr w.heap.size vt vf
  dt : wr.ownsRow w.heap.size 5 1 vd (dataE u).length ((dataE u).map (Value.int .u8))
  fr : wr.ownsRow w.heap.size 73 4 vF k (flat4 u.funcs rows)
  or : wr.ownsRow w.heap.size 47 1 v k (rows.map Prod.snd)
  each : ∀ (i : Nat) (vo vg : Value) (f : Fun), rows[i]? = some (vo, vg) → u.funcs[i]? = some f → wr.ownsRow w.heap.size 75 2 vo (fullP u.texts f.parts).out.length (flat2 (fullP u.texts f.parts).out) ∧
    wr.ownsRow w.heap.size 3 1 vg (fullP u.texts f.parts).org.length ((fullP u.texts f.parts).org.map (Value.int .i64))
  ord : ∀ (i j : Nat) (a b a' b' : Value), i < j → rows[i]? = some (a, b) → rows[j]? = some (a', b') → ∀ (x y : Nat), (a.ownBlock = some x ∨ b.ownBlock = some x) → (a'.ownBlock = some y ∨ b'.ownBlock = some y) → x < y

theorem grown_drew_alloc (w : World) (o : Obj) : w.grownBy (w.drew.alloc o) none := grownBy_trans (grownBy_drew (grownBy_refl w none)) (World.grownBy_alloc _ o none)

theorem cloop_next {w wr w10 w11 w16 : World} {u : Un} {mem : Int} {vt vf : Value} {P0 k : Nat} {v vd vF : Value} {rows : List (Value × Value)} {f : Fun} {E C0 Bd : Nat} {ut uf : Value} {nm : ByteArray} {vl vp vo vg vlo vk v13 v16 : Value} {out : List (Int × Int)} {org : List Int} {o o' : Obj}
    (h : CLoop w wr u mem vt vf P0 k v vd vF rows) (hf : u.funcs[k]? = some f) (A : FM wr w10 E C0 Bd ut uf nm f.args vl vp vo vg vlo vk out org) (hout : out = (fullP u.texts f.parts).out) (horg : org = (fullP u.texts f.parts).org)
    (h11 : (w10.drew.alloc o).grownBy w11 vF.ownBlock) (own13 : w11.ownsRow w.heap.size 73 4 v13 (k + 1) (flat4 u.funcs rows ++ [.int .i64 f.args, .int .i64 f.locals.length, .int .i64 1, vo]))
    (h16 : ((w11.setCell ⟨P0, 2, none⟩ v13).alloc o').grownBy w16 v.ownBlock) (own16 : w16.ownsRow w.heap.size 47 1 v16 (k + 1) (rows.map Prod.snd ++ [vg])) :
    CLoop w w16 u mem vt vf P0 (k + 1) v16 vd v13 (rows ++ [(vo, vg)]) := by
  have hP0 := (Array.getElem?_eq_some_iff.1 h.pb).1
  have hlen := h.len
  have hgw := h.gr.size
  have kp : ∀ {b : Nat} {ob : Obj}, wr.heap[b]? = some ob → w10.heap[b]? = some ob := fun hb => box_moved hb A.gr (by simp)
  have ko : ∀ {base : Nat} {e : TypeId} {size n : Nat} {x : Value} {xs : List Value}, wr.ownsRow base e size x n xs → w10.ownsRow base e size x n xs := fun ho => ho.kept A.gr (Classical.em _)
  have pb10 := kp h.pb
  have fr10 := ko h.fr
  have or10 := ko h.or
  -- to w11
  have s11 : Sp (fun k => vF.ownBlock = some k) w10 w11 := sp_trans (sp_grown (P := fun k => vF.ownBlock = some k) (grown_drew_alloc w10 o) (by simp)) (sp_grown (P := fun k => vF.ownBlock = some k) h11 fun k _ e => e) (fun _ _ h => h)
  have pb11 : w11.heap[P0]? = some (.cells #[.int .i64 mem, vd, vF] 32 (0, 0)) := by
    rw [s11.block P0 (Array.getElem?_eq_some_iff.1 pb10).1 (own_not_box fr10 pb10 (by decide))]; exact pb10
  have or11 := own_sp or10 s11 fun k hk => own_unlike or10 fr10 (by decide) hk
  have hset : Sp (fun k => k = P0) w11 (w11.setCell ⟨P0, 2, none⟩ v13) := sp_grown (grownBy_set w11 P0 2 v13) fun k _ e => by injection e with e; exact e.symm
  have pbS : (w11.setCell ⟨P0, 2, none⟩ v13).heap[P0]? = some (.cells #[.int .i64 mem, vd, v13] 32 (0, 0)) := by rw [heap_set_box pb11]; rfl
  have orS := own_sp or11 hset fun k hk e => own_not_box or11 pb11 (by decide) (by rw [hk, e])
  have s16 : Sp (fun k => v.ownBlock = some k) (w11.setCell ⟨P0, 2, none⟩ v13) w16 := sp_trans (sp_grown (P := fun k => v.ownBlock = some k) (World.grownBy_alloc _ o' none) (by simp)) (sp_grown (P := fun k => v.ownBlock = some k) h16 fun k _ e => e) (fun _ _ h => h)
  have pb16 : w16.heap[P0]? = some (.cells #[.int .i64 mem, vd, v13] 32 (0, 0)) := by
    rw [s16.block P0 (Array.getElem?_eq_some_iff.1 pbS).1 (own_not_box orS pbS (by decide))]; exact pbS
  -- all at once
  have sQ : Sp (fun k => vF.ownBlock = some k ∨ k = P0 ∨ v.ownBlock = some k) w10 w16 :=
    sp_trans (sp_trans (sp_weaken s11 fun _ _ e => Or.inl e) (sp_weaken (Q := fun k => vF.ownBlock = some k ∨ k = P0 ∨ v.ownBlock = some k) hset fun _ _ e => Or.inr (Or.inl e)) (fun _ _ h => h)) (sp_weaken (Q := fun k => vF.ownBlock = some k ∨ k = P0 ∨ v.ownBlock = some k) s16 fun _ _ e => Or.inr (Or.inr e)) (fun _ _ h => h)
  have oQ : ∀ {base : Nat} {e : TypeId} {size n : Nat} {x : Value} {xs : List Value}, w10.ownsRow base e size x n xs → e ≠ 73 → e ≠ 32 → e ≠ 47 → w16.ownsRow base e size x n xs := by
    intro base e size n x xs ho h1 h2 h3
    refine own_sp ho sQ fun k hk hp => ?_
    rcases hp with e1 | e1 | e1
    · exact own_unlike (own_lower ho (Nat.zero_le _)) (own_lower fr10 (Nat.zero_le _)) h1 hk e1
    · subst e1; exact own_not_box ho pb10 h2 hk
    · exact own_unlike (own_lower ho (Nat.zero_le _)) (own_lower or10 (Nat.zero_le _)) h3 hk e1
  have bQ : ∀ {b : Nat} {cs : Array Value} {t : TypeId}, w10.heap[b]? = some (.cells cs t (0, 0)) → t ≠ 73 → b ≠ P0 → t ≠ 47 → w16.heap[b]? = some (.cells cs t (0, 0)) := by
    intro b cs t hb h1 h2 h3
    rw [sQ.block b (Array.getElem?_eq_some_iff.1 hb).1 ?_]
    · exact hb
    · rintro (e1 | e1 | e1)
      · exact own_not_box fr10 hb (Ne.symm h1) e1
      · exact h2 e1
      · exact own_not_box or10 hb (Ne.symm h3) e1
  have hPlt := h.hP
  refine ⟨by rw [List.length_append]; simp [hlen], pb16, bQ (kp h.rb) (by decide) (by omega) (by decide), h.hP, ?_, bQ (kp h.ub) (by decide) (by omega) (by decide), oQ (ko h.dt) (by decide) (by decide) (by decide), ?_, ?_, ?_, ?_⟩
  · refine sp_to_grown (sp_trans (sp_grown (P := fun k => vF.ownBlock = some k ∨ k = P0 ∨ v.ownBlock = some k) (grownBy_trans h.gr A.gr) (by simp)) sQ (fun _ _ h => h)) fun k hk hp => ?_
    rcases hp with e1 | e1 | e1
    · have := (fr10.lt k e1).1; omega
    · omega
    · have := (or10.lt k e1).1; omega
  · have hfr := own_sp (own_sp own13 hset fun k hk e => own_not_box own13 pb11 (by decide) (by rw [hk, e])) s16 fun k hk => own_unlike (own_sp own13 hset fun k hk e => own_not_box own13 pb11 (by decide) (by rw [hk, e])) orS (by decide) hk
    rw [flat4_snoc (r := (vo, vg)) (by rw [hlen]; exact hf)]
    exact hfr
  · rw [List.map_append]; exact own16
  · intro i vo' vg' f' hi hf'
    by_cases hik : i < rows.length
    · rw [List.getElem?_append_left hik] at hi
      obtain ⟨e1, e2⟩ := h.each i vo' vg' f' hi hf'
      exact ⟨oQ (ko e1) (by decide) (by decide) (by decide), oQ (ko e2) (by decide) (by decide) (by decide)⟩
    · have hik2 : i = rows.length := by
        have := (List.getElem?_eq_some_iff.1 hi).1
        simp at this; omega
      subst hik2
      rw [List.getElem?_append_right (Nat.le_refl _)] at hi
      simp at hi
      obtain ⟨rfl, rfl⟩ := hi
      rw [hlen, hf] at hf'
      injection hf' with hf'; subst hf'
      have hE : w.heap.size ≤ E := Nat.le_trans hgw A.lE
      rw [← hout, ← horg]
      exact ⟨oQ (own_lower A.code.out hE) (by decide) (by decide) (by decide), oQ (own_lower A.code.org hE) (by decide) (by decide) (by decide)⟩
  · intro i j a b a' b' hij hi hj x y hx hy
    have hjl := (List.getElem?_eq_some_iff.1 hj).1
    simp at hjl
    have hil : i < rows.length := by omega
    rw [List.getElem?_append_left hil] at hi
    by_cases hjk : j < rows.length
    · rw [List.getElem?_append_left hjk] at hj
      exact h.ord i j a b a' b' hij hi hj x y hx hy
    · have : j = rows.length := by omega
      subst this
      rw [List.getElem?_append_right (Nat.le_refl _)] at hj
      simp at hj
      obtain ⟨rfl, rfl⟩ := hj
      have hx2 : x < wr.heap.size := by
        obtain ⟨f', hf'⟩ : ∃ f', u.funcs[i]? = some f' := by
          have : k < u.funcs.length := (List.getElem?_eq_some_iff.1 hf).1
          exact ⟨_, List.getElem?_eq_getElem (by omega)⟩
        obtain ⟨e1, e2⟩ := h.each i a b f' hi hf'
        rcases hx with hx | hx
        · exact (e1.lt x hx).2
        · exact (e2.lt x hx).2
      have hy2 : E ≤ y := by
        rcases hy with hy | hy
        · exact (A.code.out.lt y hy).1
        · exact (A.code.org.lt y hy).1
      have := A.lE
      omega

end Go.Proofs.Ytecaolkbllbokaa.TG

namespace Go.Proofs.Ytecaolkbllbokaa.TG
open Go.RowKit Go.Great
set_option linter.unusedSimpArgs false
set_option linter.unusedVariables false

theorem bytesTo_len (ts : List (ByteArray × List Int)) : ∀ q, q ≤ ts.length → bytesTo ts q = (((ts.take q).flatMap Prod.snd).length : Int)
  | 0, _ => by simp [bytesTo]
  | q + 1, h => by
    have hq : q < ts.length := h
    rw [bytesTo, bytesTo_len ts q (by omega), List.take_succ_eq_append_getElem hq, List.flatMap_append, List.length_append]
    have : ts.getD q (ByteArray.empty, []) = ts[q] := by simp [List.getD, List.getElem?_eq_getElem hq]
    rw [this]
    simp
theorem bytesTo_mono (ts : List (ByteArray × List Int)) (q : Nat) : ∀ k, bytesTo ts q ≤ bytesTo ts (q + k)
  | 0 => Int.le_refl _
  | k + 1 => by
    have := bytesTo_mono ts q k
    have e : bytesTo ts (q + (k + 1)) = bytesTo ts (q + k) + ((ts.getD (q + k) (ByteArray.empty, [])).2.length : Int) := rfl
    rw [e]; omega

/-- Where the loop over the texts stands. -/
structure TLoop (w wr : World) (u : Un) (mem : Int) (vt vf : Value) (P0 q : Nat) (vd : Value) (bs : List Int) : Prop where
  pb : wr.heap[P0]? = some (.cells #[.int .i64 mem, vd, .slice none 0 0] 32 (0, 0))
  rb : wr.heap[w.heap.size + 1]? = some (.cells #[.int .i64 0, .slice none 0 0, .slice none 0 0] 32 (0, 0))
  hP : w.heap.size + 1 < P0
  gr : w.grownBy wr none
  ub : BoxU wr w.heap.size vt vf
  dt : wr.ownsRow w.heap.size 5 1 vd bs.length (bs.map (Value.int .u8))
  eb : bs = (u.texts.take q).flatMap Prod.snd

theorem tloop_next {w wr w1 : World} {u : Un} {mem : Int} {vt vf : Value} {P0 q : Nat} {vd v1 : Value} {bs d : List Int} {nm : ByteArray} {o : Obj} (h : TLoop w wr u mem vt vf P0 q vd bs) (hq : u.texts[q]? = some (nm, d)) (g : (wr.alloc o).grownBy w1 vd.ownBlock)
    (own : w1.ownsRow w.heap.size 5 1 v1 (bs.length + d.length) (bs.map (Value.int .u8) ++ d.map (Value.int .u8))) : TLoop w (w1.setCell ⟨P0, 1, none⟩ v1) u mem vt vf P0 (q + 1) v1 (bs ++ d) := by
  have hPw := (Array.getElem?_eq_some_iff.1 h.pb).1
  have hgw := h.gr.size
  have hPlt := h.hP
  have s1 : Sp (fun k => vd.ownBlock = some k) wr w1 := sp_trans (sp_grown (P := fun k => vd.ownBlock = some k) (World.grownBy_alloc wr o none) (by simp)) (sp_grown (P := fun k => vd.ownBlock = some k) g fun k _ e => e) (fun _ _ h => h)
  have pb1 : w1.heap[P0]? = some (.cells #[.int .i64 mem, vd, .slice none 0 0] 32 (0, 0)) := by
    rw [s1.block P0 hPw (own_not_box h.dt h.pb (by decide))]; exact h.pb
  have bx : ∀ {b : Nat} {cs : Array Value} {t : TypeId}, wr.heap[b]? = some (.cells cs t (0, 0)) → t ≠ 5 → b ≠ P0 → (w1.setCell ⟨P0, 1, none⟩ v1).heap[b]? = some (.cells cs t (0, 0)) := by
    intro b cs t hb h1 h2
    rw [heap_setCell_other w1 _ b _ (by simpa using h2), s1.block b (Array.getElem?_eq_some_iff.1 hb).1 (own_not_box h.dt hb (Ne.symm h1))]
    exact hb
  refine ⟨by rw [heap_set_box pb1]; rfl, bx h.rb (by decide) (by omega), h.hP, ?_, bx h.ub (by decide) (by omega), ?_, ?_⟩
  · refine sp_to_grown (sp_trans (sp_trans (sp_grown (P := fun k => vd.ownBlock = some k ∨ k = P0) h.gr (by simp)) (sp_weaken (Q := fun k => vd.ownBlock = some k ∨ k = P0) s1 fun _ _ e => Or.inl e) (fun _ _ h => h)) (sp_grown (P := fun k => vd.ownBlock = some k ∨ k = P0) (grownBy_set w1 P0 1 v1) fun k _ e => by injection e with e; exact Or.inr e.symm) (fun _ _ h => h)) fun k hk hp => ?_
    rcases hp with e | e
    · have := (h.dt.lt k e).1; omega
    · omega
  · rw [List.length_append, List.map_append]
    refine own.kept (grownBy_set w1 P0 1 v1) (Or.inr (own_not_box own pb1 (by decide)))
  · rw [h.eb]
    obtain ⟨hql, hqe⟩ := List.getElem?_eq_some_iff.1 hq
    rw [List.take_succ_eq_append_getElem hql, List.flatMap_append, hqe]
    simp

theorem cloop_start {w wr : World} {u : Un} {mem : Int} {vt vf : Value} {P0 : Nat} {vd : Value} {bs : List Int} (h : TLoop w wr u mem vt vf P0 u.texts.length vd bs) : CLoop w wr u mem vt vf P0 0 (.slice none 0 0) vd (.slice none 0 0) [] := by
  have e : bs = dataE u := by rw [h.eb, List.take_length]; rfl
  refine ⟨rfl, h.pb, h.rb, h.hP, h.gr, h.ub, ?_, ?_, World.ownsRow_nil _ _ _ _, fun i vo vg f hi => (by cases hi), fun i j a b a' b' _ hi => (by cases hi)⟩
  · rw [← e]; exact h.dt
  · have : flat4 u.funcs [] = [] := by cases u.funcs <;> rfl
    rw [this]; exact World.ownsRow_nil _ _ _ _

def mkCx (E Bd bc b6 M B cp ct : Nat) (pt pp : Option Addr) (vf vl : Value) (nm : ByteArray) (ar : Int) (ts : List (ByteArray × List Int)) (ps : List (Int × Int × Int)) : Cx := ⟨E, Bd, bc, b6, M, B, cp, ct, pt, pp, vf, vl, nm, ar, ts, ps⟩

/-- A function's write, and its two last emits. -/
theorem one_write {wr w6 : World} {Bd bc b6 M B cp ct : Nat} {pt pp : Option Addr} {vf vl : Value} {nm : ByteArray} {ar : Int} {ts : List (ByteArray × List Int)} {ps : List (Int × Int × Int)} (hA : AE wr w6 Bd bc b6 M (.slice pt ts.length ct) vf nm ar vl (.slice pp ps.length cp)) (hB : B ≤ wr.heap.size)
    (hp : PartsB wr B pp ps) (ht : TextsAt wr B pt ts) (nts : ts.length ≤ 1024) (nct : ts.length ≤ ct) (mct : ct ≤ maxLen) (wf : ∀ x ∈ ts, x.1.size ≤ maxLen ∧ x.2.length ≤ 17592186044415) (np : ps.length ≤ 100000000000) (ho : okP ts.length ps 65 0 0) :
    CxOK (mkCx w6.heap.size Bd bc b6 M B cp ct pt pp vf vl nm ar ts ps) ∧
    Calls Try.prog 43 #[.pointer (some ⟨Bd, 0, none⟩), .int .i64 0] (w6.setCell ⟨Bd, 9, none⟩ (.map (some M))) fun e w8 => ∃ s8 v, e = .returned v ∧
      Go (mkCx w6.heap.size Bd bc b6 M B cp ct pt pp vf vl nm ar ts ps) (w6.setCell ⟨Bd, 9, none⟩ (.map (some M))) Stt.nil w8 s8 ∧ s8.abs = (writeP ts ps 65 ⟨[], [], []⟩ 0).1 ∧ s8.out.length ≤ 999999999998 := by
  have heB := hA.eB
  have ok : CxOK (mkCx w6.heap.size Bd bc b6 M B cp ct pt pp vf vl nm ar ts ps) := ⟨by show B ≤ Bd; omega, nts, nct, mct, wf, by show ps.length ≤ _; omega⟩
  have h0 := one_at (c := mkCx w6.heap.size Bd bc b6 M B cp ct pt pp vf vl nm ar ts ps) hA rfl hB hp ht
  refine ⟨ok, ?_⟩
  refine (step_write ok (write_con _ ok 65) (s := Stt.nil) (at_ := 0) ho h0 (by show 0 + 8 * (ps.length - 0) + 8 ≤ _; omega)).mono ?_
  intro e w8 hq
  obtain ⟨s8, p8, rfl, g8⟩ := hq
  refine ⟨s8, _, rfl, g8.go, ?_, ?_⟩
  · have := g8.eq
    show s8.abs = (writeP ts ps 65 Stt.nil.abs 0).1
    exact (congrArg Prod.fst this).symm
  · have h1 := g8.hi
    have h2 : p8 ≤ ps.length := g8.le
    have h3 : Stt.nil.out.length = 0 := rfl
    omega

theorem emit_z {c : Cx} (ok : CxOK c) {w : World} {s : Stt} (h : AtS c w s) (hb : s.out.length ≤ 1000000000000) (o x : Int) :
    Calls Try.prog 44 #[.pointer (some ⟨c.Bd, 0, none⟩), .int .i64 0, .int .i64 o, .int .i64 x] w fun e w' => e = .returned (.int .i64 s.out.length) ∧ ∃ s', Go c w s w' s' ∧ s'.abs = s.abs.emit 0 (o, x) ∧ s'.L = s.L ∧ s'.vlo = s.vlo := emit_at ok h hb 0 o x

theorem one_emit {E Bd bc b6 M B cp ct : Nat} {pt pp : Option Addr} {vf vl : Value} {nm : ByteArray} {ar : Int} {ts : List (ByteArray × List Int)} {ps : List (Int × Int × Int)} (ok : CxOK (mkCx E Bd bc b6 M B cp ct pt pp vf vl nm ar ts ps)) {w : World} {s : Stt} (h : AtS (mkCx E Bd bc b6 M B cp ct pt pp vf vl nm ar ts ps) w s)
    (hb : s.out.length ≤ 1000000000000) (o x : Int) : Calls Try.prog 44 #[.pointer (some ⟨Bd, 0, none⟩), .int .i64 0, .int .i64 o, .int .i64 x] w fun e w' => e = .returned (.int .i64 s.out.length) ∧ ∃ s', Go (mkCx E Bd bc b6 M B cp ct pt pp vf vl nm ar ts ps) w s w' s' ∧ s'.abs = s.abs.emit 0 (o, x) := by
  refine (emit_z ok h hb o x).mono ?_
  intro e w' hq
  obtain ⟨rfl, s', g, a, -, -⟩ := hq
  exact ⟨rfl, s', g, a⟩

theorem one_fm {wr w6 w10 : World} {s10 : Stt} {Bd bc b6 M B cp ct : Nat} {pt pp : Option Addr} {vf vl : Value} {nm : ByteArray} {ar : Int} {ts : List (ByteArray × List Int)} {ps : List (Int × Int × Int)} (hA : AE wr w6 Bd bc b6 M (.slice pt ts.length ct) vf nm ar vl (.slice pp ps.length cp))
    (g : Go (mkCx w6.heap.size Bd bc b6 M B cp ct pt pp vf vl nm ar ts ps) (w6.setCell ⟨Bd, 9, none⟩ (.map (some M))) Stt.nil w10 s10) :
    FM wr w10 w6.heap.size wr.heap.size Bd (.slice pt ts.length ct) vf nm ar vl (.slice pp ps.length cp) s10.vout s10.vorg s10.vlo (.map (some M)) s10.out s10.org := fm_of (c := mkCx w6.heap.size Bd bc b6 M B cp ct pt pp vf vl nm ar ts ps) hA rfl g

theorem full_of {ts : List (ByteArray × List Int)} {ps : List (Int × Int × Int)} {s8 s9 s10 : Stt} (a8 : s8.abs = (writeP ts ps 65 ⟨[], [], []⟩ 0).1) (a9 : s9.abs = s8.abs.emit 0 (3, 0)) (a10 : s10.abs = s9.abs.emit 0 (18, 0)) : s10.out = (fullP ts ps).out ∧ s10.org = (fullP ts ps).org := by
  have e : s10.abs = fullP ts ps := by rw [a10, a9, a8]; rfl
  exact ⟨congrArg PS.out e, congrArg PS.org e⟩
theorem len_9 {s8 s9 : Stt} {x : Int × Int} (h : s8.out.length ≤ 999999999998) (a9 : s9.abs = s8.abs.emit 0 x) : s9.out.length ≤ 1000000000000 := by
  have := emit_len a9; omega

/-- What region 25 reads, and where an error is told. -/
structure MidF (w wr w10 : World) (P0 C0 Bd : Nat) (f : Fun) (vl vF vo vg : Value) : Prop where
  k0 : w10.cell? ⟨P0, 2, none⟩ = some vF
  z0 : w10.frozen? ⟨P0, 2, none⟩ = false
  k1 : w10.cell? ⟨C0, 1, none⟩ = some (.int .i64 f.args)
  k2 : w10.cell? ⟨C0, 2, none⟩ = some vl
  c6 : w10.cell? ⟨Bd, 6, none⟩ = some vo
  c7 : w10.cell? ⟨Bd, 7, none⟩ = some vg
  lP : P0 < w10.heap.size
  lC : C0 < w10.heap.size
  lB : Bd < w10.heap.size
  r0 : w10.cell? ⟨w.heap.size + 1, 0, none⟩ = some (.int .i64 0)
  r1 : w10.cell? ⟨w.heap.size + 1, 1, none⟩ = some (.slice none 0 0)
  r2 : w10.cell? ⟨w.heap.size + 1, 2, none⟩ = some (.slice none 0 0)
  y0 : w10.frozen? ⟨w.heap.size + 1, 0, none⟩ = false
  y1 : w10.frozen? ⟨w.heap.size + 1, 1, none⟩ = false
  y2 : w10.frozen? ⟨w.heap.size + 1, 2, none⟩ = false
  lR : w.heap.size + 1 < w10.heap.size
  nC : C0 ≠ P0
  nB : Bd ≠ P0

theorem mid_of {w wr w10 : World} {u : Un} {mem : Int} {vt vf : Value} {P0 k : Nat} {v vd vF : Value} {rows : List (Value × Value)} {f : Fun} {E C0 Bd : Nat} {ut uf : Value} {nm : ByteArray} {vl vp vo vg vlo vk : Value} {out : List (Int × Int)} {org : List Int}
    (h : CLoop w wr u mem vt vf P0 k v vd vF rows) (A : FM wr w10 E C0 Bd ut uf nm f.args vl vp vo vg vlo vk out org) : MidF w wr w10 P0 C0 Bd f vl vF vo vg := by
  have hP := box_moved h.pb A.gr (by simp)
  have hR := box_moved h.rb A.gr (by simp)
  have hPw := (Array.getElem?_eq_some_iff.1 h.pb).1
  have e1 := A.eC
  have e2 := A.eB
  exact ⟨cell_of_row w10 P0 2 _ _ _ hP, frozen_of_row w10 P0 2 _ _ hP, cell_of_row w10 C0 1 _ _ _ A.cp, cell_of_row w10 C0 2 _ _ _ A.cp, code_6 A.code, code_7 A.code, (Array.getElem?_eq_some_iff.1 hP).1, (Array.getElem?_eq_some_iff.1 A.cp).1, Nat.lt_of_lt_of_le A.code.lt A.code.le,
    cell_of_row w10 _ 0 _ _ _ hR, cell_of_row w10 _ 1 _ _ _ hR, cell_of_row w10 _ 2 _ _ _ hR, frozen_of_row w10 _ 0 _ _ hR, frozen_of_row w10 _ 1 _ _ hR, frozen_of_row w10 _ 2 _ _ hR, (Array.getElem?_eq_some_iff.1 hR).1, by omega, by omega⟩

theorem wpList_append_none {ops : Array Oper} {rest : List Oper} {o : Oper} {a : Act} {Q : Exit → Act → World → Prop} {w : World} (hgd : o.guard = none) (s x : Operand) (t : TypeId)
    (ho : o.op = .call { callee := .builtin .append, args := #[s, x], argTypes := #[t, t] })
    (base : Nat) (e : TypeId) (i : TypeInfo) (size : Nat) (ht : Try.prog.underlying t = some (.slice e)) (hi : Try.prog.info? e = some i)
    (v : Value) (n : Nat) (xs : List Value) (hs : a.eval s = v) (hown : w.ownsRow base e size v n xs) (hx : a.eval x = .slice none 0 0)
    (h : wpList Try.prog ops Q rest (a.put o.dst v) w) :
    wpList Try.prog ops Q (o :: rest) a w := by
  refine wpList_plain hgd fun K hK => ?_
  have hr := run_append_owned_none (P := Try.prog) (w := w) base t o.type e i size ht hi v n xs hown
  unfold Oper.wp execOp
  simp only [ho, resolve, invoke, builtin, Sem.run_bind, Sem.run_pure, Result.andThen_ok, List.map_toArray, List.map_cons, List.map_nil, hs, hx, hr]
  exact hK _ _ h

theorem byte_und : Try.prog.underlying 29 = some (.slice 5) := by kernel_rfl
theorem byte_info : (Try.prog.info? 5).map (fun i => (i.zero, i.size, i.bytes)) = some (some (.int .u8 0), 1, 1) := by kernel_rfl

/-- What the region that appends a function yields. -/
def vS (P0 C0 Bd N12 : Nat) (args len : Int) (vF vl vout v13 : Value) : Nat → Value
  | 1 => vF
  | n => vR P0 C0 Bd N12 args len vl vout v13 n

theorem bigF_true {u : Un} {k : Nat} {f : Fun} (hf : u.funcs[k]? = some f) (h : 4096 < (fullP u.texts f.parts).out.length) : bigF u = true := by
  unfold bigF
  rw [List.any_eq_true]
  exact ⟨f, List.mem_of_getElem? hf, by simpa using h⟩
theorem bigF_false {u : Un} (h : ∀ (k : Nat) (f : Fun), u.funcs[k]? = some f → (fullP u.texts f.parts).out.length ≤ 4096) : bigF u = false := by
  unfold bigF
  rw [List.any_eq_false]
  intro f hf
  obtain ⟨k, hk⟩ := List.mem_iff_getElem?.1 hf
  have := h k f hk
  simp; omega

/-- What compile leaves, where it tells a program. -/
structure CRes (w w' : World) (u : Un) (vd vF v : Value) (rows : List (Value × Value)) : Prop where
  len : rows.length = u.funcs.length
  gr : w.grownBy w' none
  dt : w'.ownsRow w.heap.size 5 1 vd (dataE u).length ((dataE u).map (Value.int .u8))
  fr : w'.ownsRow w.heap.size 73 4 vF u.funcs.length (flat4 u.funcs rows)
  or : w'.ownsRow w.heap.size 47 1 v u.funcs.length (rows.map Prod.snd)
  each : ∀ (i : Nat) (vo vg : Value) (f : Fun), rows[i]? = some (vo, vg) → u.funcs[i]? = some f → w'.ownsRow w.heap.size 75 2 vo (fullP u.texts f.parts).out.length (flat2 (fullP u.texts f.parts).out) ∧
    w'.ownsRow w.heap.size 3 1 vg (fullP u.texts f.parts).org.length ((fullP u.texts f.parts).org.map (Value.int .i64))
  ord : ∀ (i j : Nat) (a b a' b' : Value), i < j → rows[i]? = some (a, b) → rows[j]? = some (a', b') → ∀ (x y : Nat), (a.ownBlock = some x ∨ b.ownBlock = some x) → (a'.ownBlock = some y ∨ b'.ownBlock = some y) → x < y

/-- A block of the program's type is written, or new memory made: the result stands. -/
theorem cres_kept {w w' w'' : World} {u : Un} {vd vF v : Value} {rows : List (Value × Value)} {P : Nat → Prop} (h : CRes w w' u vd vF v rows) (s : Sp P w' w'') (hp : ∀ k, P k → w.heap.size ≤ k) (ho : ∀ (e : TypeId) (size n : Nat) (x : Value) (xs : List Value), w'.ownsRow w.heap.size e size x n xs → (e = 5 ∨ e = 73 ∨ e = 47 ∨ e = 75 ∨ e = 3) → ∀ k, x.ownBlock = some k → ¬ P k) : CRes w w'' u vd vF v rows := by
  refine ⟨h.len, ?_, own_sp h.dt s (ho _ _ _ _ _ h.dt (by decide)), own_sp h.fr s (ho _ _ _ _ _ h.fr (by decide)), own_sp h.or s (ho _ _ _ _ _ h.or (by decide)), fun i vo vg f hi hf => ?_, h.ord⟩
  · refine sp_to_grown (sp_trans (sp_grown (P := P) h.gr (by simp)) s (fun _ _ h => h)) fun k hk hk2 => ?_
    have := hp k hk2; omega
  · obtain ⟨e1, e2⟩ := h.each i vo vg f hi hf
    exact ⟨own_sp e1 s (ho _ _ _ _ _ e1 (by decide)), own_sp e2 s (ho _ _ _ _ _ e2 (by decide))⟩

def MainPost (w : World) (u : Un) (mem : Int) (e : Ending) (w' : World) : Prop :=
  if bigF u = true then BadPost w 181 e w' else ∃ vd vF v rows, e = .returned (.tuple #[.agg #[.int .i64 mem, vd, vF], v, .int .i64 0]) ∧ CRes w w' u vd vF v rows

theorem main_end {w wr : World} {u : Un} {mem : Int} {vt vf : Value} {P0 : Nat} {v vd vF : Value} {rows : List (Value × Value)} (h : CLoop w wr u mem vt vf P0 u.funcs.length v vd vF rows) (a b c : Value) :
    CRes w (((wr.setCell ⟨w.heap.size + 1, 0, none⟩ a).setCell ⟨w.heap.size + 1, 1, none⟩ b).setCell ⟨w.heap.size + 1, 2, none⟩ c) u vd vF v rows := by
  have hT : wr.grownBy (((wr.setCell ⟨w.heap.size + 1, 0, none⟩ a).setCell ⟨w.heap.size + 1, 1, none⟩ b).setCell ⟨w.heap.size + 1, 2, none⟩ c) (some (w.heap.size + 1)) := grownBy_trans (grownBy_trans (grownBy_set wr _ 0 _) (grownBy_set _ _ 1 _)) (grownBy_set _ _ 2 _)
  refine cres_kept (P := fun k => k = w.heap.size + 1) (w' := wr) ⟨h.len, h.gr, h.dt, h.fr, h.or, h.each, h.ord⟩ (sp_grown hT fun k _ e => by injection e with e; exact e.symm) (fun k e => by omega) ?_
  intro e size n x xs ho he k hk hk2
  refine own_not_box ho h.rb ?_ (by rw [hk, hk2])
  rcases he with rfl | rfl | rfl | rfl | rfl <;> decide

theorem main_bad {w wr w10 : World} {u : Un} {mem : Int} {vt vf : Value} {P0 k : Nat} {v vd vF : Value} {rows : List (Value × Value)} (h : CLoop w wr u mem vt vf P0 k v vd vF rows) (g : wr.grownBy w10 none) (a b c : Value) :
    w.grownBy (((w10.setCell ⟨w.heap.size + 1, 0, none⟩ a).setCell ⟨w.heap.size + 1, 1, none⟩ b).setCell ⟨w.heap.size + 1, 2, none⟩ c) none := by
  have hT : w10.grownBy (((w10.setCell ⟨w.heap.size + 1, 0, none⟩ a).setCell ⟨w.heap.size + 1, 1, none⟩ b).setCell ⟨w.heap.size + 1, 2, none⟩ c) (some (w.heap.size + 1)) := grownBy_trans (grownBy_trans (grownBy_set w10 _ 0 _) (grownBy_set _ _ 1 _)) (grownBy_set _ _ 2 _)
  exact grow_new (grownBy_trans h.gr g) hT (by omega)

end Go.Proofs.Ytecaolkbllbokaa.TG

namespace Go.Proofs.Ytecaolkbllbokaa.TG
open Go.RowKit Go.Great
set_option linter.unusedSimpArgs false
set_option linter.unusedVariables false

/-- A text's nil slice has no room. -/
def CapT (w : World) (pt : Option Addr) (u : Un) : Prop := ∀ (i : Nat) (pd : Option Addr) (n cd b o : Nat), pt = some ⟨b, o, none⟩ → i < u.texts.length → w.cell? ⟨b, o + i * 2 + 1, none⟩ = some (.slice pd n cd) → pd = none → cd = 0

theorem byte_cells (d : List Int) : ∀ u ∈ d.map (Value.int .u8), u.oneCell' = true := by
  intro u hu
  obtain ⟨x, _, rfl⟩ := List.mem_map.1 hu
  rfl

theorem byte_read {w : World} {b o : Nat} {d : List Int} (h : ∀ i, i < d.length → w.cell? ⟨b, o + i, none⟩ = some (.int .u8 (d.getD i 0))) : ∀ j u, (d.map (Value.int .u8))[j]? = some u → w.cell? ((⟨b, o, none⟩ : Addr).add j) = some u := by
  intro j u hj
  rw [List.getElem?_map] at hj
  cases hd : d[j]? with
  | none => rw [hd] at hj; cases hj
  | some x =>
    rw [hd] at hj
    injection hj with hj; subst hj
    have hjl := (List.getElem?_eq_some_iff.1 hd).1
    have := h j hjl
    simp only [List.getD, hd, Option.getD_some] at this
    unfold Addr.add
    by_cases h0 : j = 0
    · subst h0; simpa using this
    · simpa [h0] using this

theorem tloop_mid {w wr w1 : World} {u : Un} {mem : Int} {vt vf : Value} {P0 q : Nat} {vd : Value} {bs : List Int} {o : Obj} (h : TLoop w wr u mem vt vf P0 q vd bs) (g : (wr.alloc o).grownBy w1 vd.ownBlock) :
    w1.cell? ⟨P0, 1, none⟩ = some vd ∧ w1.frozen? ⟨P0, 1, none⟩ = false ∧ P0 < w1.heap.size := by
  have hb := box_moved (box_moved h.pb (World.grownBy_alloc wr o none) (by simp)) g (own_not_box h.dt h.pb (by decide))
  exact ⟨cell_of_row w1 P0 1 _ _ _ hb, frozen_of_row w1 P0 1 _ _ hb, (Array.getElem?_eq_some_iff.1 hb).1⟩

theorem tloop_bound {w wr : World} {u : Un} {mem : Int} {vt vf : Value} {P0 q : Nat} {vd : Value} {bs d : List Int} {nm : ByteArray} (h : TLoop w wr u mem vt vf P0 q vd bs) (hq : u.texts[q]? = some (nm, d)) (hb : bytesTo u.texts u.texts.length ≤ 65536) : bs.length + d.length ≤ 65536 := by
  obtain ⟨hql, hqe⟩ := List.getElem?_eq_some_iff.1 hq
  have h1 := bytesTo_len u.texts (q + 1) hql
  have h2 := bytesTo_mono u.texts (q + 1) (u.texts.length - (q + 1))
  rw [show q + 1 + (u.texts.length - (q + 1)) = u.texts.length by omega] at h2
  rw [List.take_succ_eq_append_getElem hql, List.flatMap_append, ← h.eb, hqe] at h1
  simp at h1
  omega

set_option maxRecDepth 100000 in
set_option maxHeartbeats 8000000 in
theorem compile_main (u : Un) (hu : UnWF u) (hck : checkE u = 0) (mem : Int) (hm0 : 0 ≤ mem) (hm1 : mem ≤ 65536) (hm2 : bytesTo u.texts u.texts.length ≤ mem) (hnp : ∀ f ∈ u.funcs, f.parts.length ≤ 100000000000)
    (pt pf : Option Addr) (ct cf B : Nat) (w : World) (hU : UnitAt w B pt pf u) (nct : u.texts.length ≤ ct) (mct : ct ≤ maxLen) (hcap : CapT w pt u) :
    Calls Try.prog 27 #[.agg #[.slice pt u.texts.length ct, .slice pf u.funcs.length cf], .int .i64 mem] w (MainPost w u mem) := by
  have hr := right_of hck
  have hcA := fun w' (hU' : UnitAt w' B pt pf u) => check_any u hu pt pf ct cf B w' hU'
  rw [hck] at hcA
  have CA := Lib.hid hcA
  have SA := Lib.hid (fun w' (hU' : UnitAt w' B pt pf u) => size_any u.texts hr.nt hu.text pt ct B w' hU'.texts hU'.le)
  have UU := Lib.hid hU
  have HR := Lib.hid hr
  have HU := Lib.hid hu
  have HNP := Lib.hid hnp
  have HCAP := Lib.hid hcap
  have HCT := Lib.hid (And.intro nct mct)
  have m0 : ¬ mem < 0 := by omega
  have m1 : ¬ 65536 < mem := by omega
  have m2 : ¬ mem < bytesTo u.texts u.texts.length := by omega
  have hnt := hr.nt
  have hnf := hr.nf
  clear hcA hU hr hck hu hnp hcap nct mct
  go_enter Try.func27, Try.ntmps27
  go_wp2_with (first
    | (go_at_call 22; refine (CA.out _ (unitAt_kept UU.out (grownBy_trans (World.grownBy_alloc w _ none) (World.grownBy_alloc _ _ none)) (by simp))).mono ?_; rintro e w1 ⟨rfl, hg1⟩; have hUB := boxU_kept (boxU_kept (boxU_new w _ _) (World.grownBy_alloc _ _ none) (by simp)) hg1 (by simp); have b0 := boxU_0 hUB; have b1 := boxU_1 hUB; have hltB := boxU_lt hUB; have HU1 := Lib.hid (unitAt_kept UU.out (grownBy_trans (grownBy_trans (World.grownBy_alloc w _ none) (World.grownBy_alloc _ _ none)) hg1) (by simp)); have HB1 := Lib.hid hUB; have HG1 := Lib.hid hg1; clear hg1 hUB)
    | (go_at_call 41; refine (SA.out _ HU1.out).mono ?_; rintro e w2 ⟨rfl, hg2⟩; have hg3 := grownBy_trans HG1.out hg2; have hUB2 := boxU_kept HB1.out hg2 (by simp); have d0 := boxU_0 hUB2; have d1 := boxU_1 hUB2; have hlt2 := boxU_lt hUB2; have HB2 := Lib.hid hUB2; have HG := Lib.hid hg3; clear hg2 hg3 hUB2))
  have T0 : TLoop w (w2.alloc (.cells #[.int .i64 mem, .slice none 0 0, .slice none 0 0] 32)) u mem (.slice pt u.texts.length ct) (.slice pf u.funcs.length cf) w2.heap.size 0 (.slice none 0 0) [] := by
    have hz := HG.out.size
    rw [World.size_alloc, World.size_alloc] at hz
    refine ⟨heap_alloc_new _ _, box_moved (box_moved (box_two w _ _) HG.out (by simp)) (World.grownBy_alloc _ _ none) (by simp), by omega, grownBy_trans (grownBy_trans (grownBy_trans (World.grownBy_alloc w _ none) (World.grownBy_alloc _ _ none)) HG.out) (World.grownBy_alloc _ _ none), boxU_kept HB2.out (World.grownBy_alloc _ _ none) (by simp), World.ownsRow_nil _ _ _ _, rfl⟩
  have TT := Lib.hid T0
  clear T0 CA SA b0 b1 hltB HU1 HB1 HG1 HG HB2 m0 m1 m2 d0 d1
  generalize w2.heap.size = P0 at *
  obtain ⟨bi, bi0, bi1, bi2, bi3⟩ := info_parts byte_info
  go_loopw [39] (fun i wr => ∃ (q : Nat) (vd : Value) (bs : List Int), i = .int .i64 q ∧ q ≤ u.texts.length ∧ TLoop w wr u mem (.slice pt u.texts.length ct) (.slice pf u.funcs.length cf) P0 q vd bs) (fun i _ => u.texts.length - (intOf i).toNat)
  case atStart => exact ⟨0, _, [], rfl, Nat.zero_le _, TT.out⟩
  case round =>
    obtain ⟨q, vd, bs, rfl, hq, hT⟩ := hrel
    obtain ⟨pv, cv, rfl⟩ := own_slice hT.dt
    have T := Lib.hid hT
    have k1 := cell_of_row wr P0 1 _ _ _ hT.pb
    have kz := frozen_of_row wr P0 1 _ _ hT.pb
    have kl := (Array.getElem?_eq_some_iff.1 hT.pb).1
    by_cases hlt : (q : Int) < (u.texts.length : Int)
    · obtain ⟨bt, ot, rfl, hbt, hct⟩ := UU.out.texts (by omega)
      obtain ⟨⟨nm, d⟩, hqd⟩ : ∃ x, u.texts[q]? = some x := ⟨_, List.getElem?_eq_getElem (by omega)⟩
      obtain ⟨e0, pd, cd, e1, hbd⟩ := hct q nm d hqd
      have HQD := Lib.hid hqd
      have hcd := HCAP.out q pd d.length cd bt ot rfl (by omega) e1
      have hBw := UU.out.le
      have hbw : bt < wr.heap.size := by have := hT.gr.size; omega
      have f0 := hT.gr.cell e0 (by simp)
      have f1 := hT.gr.cell e1 (by simp)
      have hbnd := tloop_bound hT hqd HR.out.by_
      have hc3 : bs.length + d.length ≤ maxLen := by unfold maxLen; omega
      have hc4 : (bs.length + d.length) * 1 ≤ 140737488355328 := by omega
      have hgs := hT.gr.size
      have hE : ∀ o, w.heap.size ≤ (wr.alloc o).heap.size := fun o => by simp; omega
      cases pd with
      | none =>
        have hd0 : d.length = 0 := by
          rcases Nat.eq_zero_or_pos d.length with h0 | h0
          · exact h0
          · obtain ⟨b', o', e', _⟩ := hbd h0; cases e'
        have hd : d = [] := List.length_eq_zero_iff.1 hd0
        subst hd
        have hcd0 := hcd rfl
        subst hcd0
        clear hct hqd hbd e0 e1 hT
        go_wp2_with (at_builtin; refine wpList_append_none rfl _ _ 29 rfl w.heap.size 5 bi 1 byte_und bi0 (.slice pv bs.length cv) bs.length (bs.map (Value.int .u8)) rfl (T.out.dt.alloc _) rfl ?_)
        go_roundw
        case rel =>
          refine ⟨q + 1, .slice pv bs.length cv, bs ++ [], by go_num, by omega, ?_⟩
          rw [← World.setCell_alloc_past _ _ _ _ kl]
          exact tloop_next T.out HQD.out (grow_w (grownBy_refl _ none)) (by simpa using T.out.dt.alloc _)
        case measure => simp [intOf]; omega
      | some ad =>
        have hnews : ∀ (o : Obj) j x, (d.map (Value.int .u8))[j]? = some x → (wr.alloc o).cell? (ad.add j) = some x := by
          intro o
          rcases Nat.eq_zero_or_pos d.length with h0 | h0
          · have hd : d = [] := List.length_eq_zero_iff.1 h0
            subst hd
            intro j x hj; simp at hj
          · obtain ⟨b', o', e', hb', hc'⟩ := hbd h0
            injection e' with e'; subst e'
            exact byte_read fun i hi => (World.grownBy_alloc wr o none).cell (hT.gr.cell (hc' i hi) (by simp)) (by simp)
        have HN := Lib.hid hnews
        clear hct hqd hbd e0 e1 hT hnews hcd
        go_wp2_with (at_builtin; refine wpList_append_own_at _ rfl _ _ 29 rfl w.heap.size 5 bi (.int .u8 0) 1 1 byte_und bi0 bi1 bi2 bi3 rfl (by decide) _ _ _ rfl (T.out.dt.alloc _) ad d.length cd (d.map (Value.int .u8)) rfl (by simp) (HN.out _) (byte_cells d) hc3 hc4 (hE _) ?_; intro v3 w3 hown3 hgr3 hnil3 hat3; obtain ⟨p3, k3, hv3⟩ := own_slice hown3; subst hv3; have TM := tloop_mid T.out hgr3; obtain ⟨t1, t2, t3⟩ := TM; have OW3 := Lib.hid hown3; have GR3 := Lib.hid hgr3; clear hown3 hgr3 hnil3 hat3)
        go_roundw
        case rel => exact ⟨q + 1, _, bs ++ d, by go_num, by omega, tloop_next T.out HQD.out GR3.out OW3.out⟩
        case measure => simp [intOf]; omega
    · have hqe : q = u.texts.length := by omega
      subst hqe
      have C0 := Lib.hid (cloop_start hT)
      have e1 := boxU_1 hT.ub
      have hub := boxU_lt hT.ub
      clear hT T k1 kz kl
      go_wp2
      obtain ⟨fi, fi0, fi1, fi2, fi3⟩ := info_parts func_info
      obtain ⟨ii, ii0, ii1, ii2, ii3⟩ := info_parts ints_info
      go_loopw [11, 53] (fun v i wr => ∃ (k : Nat) (vd vF : Value) (rows : List (Value × Value)), i = .int .i64 k ∧ k ≤ u.funcs.length ∧ CLoop w wr u mem (.slice pt u.texts.length ct) (.slice pf u.funcs.length cf) P0 k v vd vF rows ∧ (∀ (i : Nat) (f : Fun), i < k → u.funcs[i]? = some f → (fullP u.texts f.parts).out.length ≤ 4096)) (fun _ i _ => u.funcs.length - (intOf i).toNat)
      case atStart => exact ⟨0, _, _, [], rfl, Nat.zero_le _, C0.out, fun i f hi => by omega⟩
      case round =>
        obtain ⟨k, vd', vF, rows, rfl, hk, hL, hsm⟩ := hrel
        obtain ⟨pv', cv', rfl⟩ := own_slice hL.or
        obtain ⟨pF, cF, rfl⟩ := own_slice hL.fr
        have LL := Lib.hid hL
        have SM := Lib.hid hsm
        clear hsm
        by_cases hlt : (k : Int) < (u.funcs.length : Int)
        · obtain ⟨bF, oF, rfl, hbF, hcF⟩ := UU.out.funcs (by omega)
          obtain ⟨f, hf⟩ : ∃ f, u.funcs[k]? = some f := ⟨_, List.getElem?_eq_getElem (by omega)⟩
          obtain ⟨q0, q1, ⟨pl, cl, q2, _⟩, ⟨pp, cp, q3, hpp⟩⟩ := hcF k f hf
          have HF := Lib.hid hf
          have hmf := List.mem_of_getElem? hf
          have hBw := UU.out.le
          have hgs := hL.gr.size
          replace q0 := hL.gr.cell q0 (by simp)
          replace q1 := hL.gr.cell q1 (by simp)
          replace q2 := hL.gr.cell q2 (by simp)
          replace q3 := hL.gr.cell q3 (by simp)
          have hbF3 : bF < wr.heap.size := by omega
          have hB3 : B ≤ wr.heap.size := by omega
          have PP := Lib.hid (partsB_kept hpp hL.gr (by simp))
          have TX := Lib.hid (textsAt_kept UU.out.texts hL.gr (by simp))
          have HOK := Lib.hid (HR.out.ok f hmf).1
          have HNF := Lib.hid (HNP.out f hmf)
          have e0' := boxU_0 hL.ub
          have e1' := boxU_1 hL.ub
          have hub' := boxU_lt hL.ub
          clear hcF hpp hL e1 hub
          go_wp2_with (first
            | (go_at_call 42; refine (ends_any _ _).mono ?_; intro e w6 hp; obtain ⟨bc, b6, M, rfl, hA⟩ := one_a hp; have A6 := Lib.hid hA; have OWr := one_write hA hB3 PP.out TX.out HR.out.nt HCT.out.1 HCT.out.2 HU.out.text HNF.out HOK.out; obtain ⟨ok6, wa6⟩ := OWr; have OK6 := Lib.hid ok6; have WA := Lib.hid wa6; have d9 := cell_of_row w6 _ 9 _ _ _ hA.hb; have z9 := frozen_of_row w6 _ 9 _ _ hA.hb; have hlt6 := (Array.getElem?_eq_some_iff.1 hA.hb).1; clear hA hp ok6 wa6)
            | (go_at_call 43; refine WA.out.mono ?_; clear WA; intro e w8 hp; obtain ⟨s8, v8, rfl, g8, a8, h8⟩ := hp; have G8 := Lib.hid g8; have A8 := Lib.hid a8; have H8 := Lib.hid h8; have E9 := Lib.hid (one_emit OK6.out g8.at_ (Nat.le_trans h8 (by decide)) 3 0); clear g8 a8 h8)
            | (go_at_call 44; refine E9.out.mono ?_; clear E9; intro e w9 hp; obtain ⟨rfl, s9, g9, a9⟩ := hp; have G9 := Lib.hid g9; have A9 := Lib.hid a9; have E10 := Lib.hid (one_emit OK6.out g9.at_ (len_9 H8.out a9) 18 0); clear g9 a9)
            | (go_at_call 44; refine E10.out.mono ?_; clear E10; intro e w10 hp; obtain ⟨rfl, s10, g10, a10⟩ := hp; have FL := Lib.hid (full_of A8.out A9.out a10); have F10 := one_fm A6.out (go_trans (go_trans G8.out G9.out) g10); have FM10 := Lib.hid F10; obtain ⟨po, co, hvo⟩ := own_slice F10.code.out; obtain ⟨pg, cg, hvg⟩ := own_slice F10.code.org; have MD := mid_of LL.out F10; rw [hvo, hvg] at MD; have HVO := Lib.hid hvo; have HVG := Lib.hid hvg; obtain ⟨k0, z0, k1, k2, c6, c7, lP, lC, lB, r0, r1, r2, y0, y1, y2, lR, nC, nB⟩ := MD; clear g10 a10 F10 hvo hvg))
          rotate_left
          · have hsl : (fullP u.texts f.parts).out.length ≤ 4096 := by rw [← FL.out.1]; omega
            have HSL := Lib.hid hsl
            have fr10 := LL.out.fr.kept FM10.out.gr (Classical.em _)
            have nFC : (Value.slice pF k cF).ownBlock ≠ some wr.heap.size := own_not_box fr10 FM10.out.cp (by decide)
            have nFB : (Value.slice pF k cF).ownBlock ≠ some (wr.heap.size + 1) := own_not_box fr10 FM10.out.code.box (by decide)
            have hP10 := box_moved LL.out.pb FM10.out.gr (by simp)
            have nFP : (Value.slice pF k cF).ownBlock ≠ some P0 := own_not_box fr10 hP10 (by decide)
            have hz10 := FM10.out.gr.size
            have or10 := LL.out.or.kept FM10.out.gr (Classical.em _)
            generalize hC0 : wr.heap.size = C0 at *
            generalize hBd : C0 + 1 = Bd at *
            obtain ⟨v13, w11, hrun13, hown13, hgr13, _⟩ := run_append_own (P := Try.prog) (w10.drew.alloc (.cells #[.int .i64 f.args, .int .i64 f.locals.length, .int .i64 1, .slice po s10.out.length co] 73)) w.heap.size 30 30 73 fi (.agg #[.int .i64 0, .int .i64 0, .int .i64 0, .slice none 0 0]) 4 48 func_und fi0 fi1 fi2 fi3 rfl (by decide) (.slice pF k cF) k (flat4 u.funcs rows) (fr10.kept (grown_drew_alloc w10 _) (Classical.em _)) ⟨w10.heap.size, 0, none⟩ 1 1 [.int .i64 f.args, .int .i64 f.locals.length, .int .i64 1, .slice po s10.out.length co] rfl (four_new w10 _ _ _ _ _) (four_cell _ _ _ _ _ _) (by unfold maxLen; omega) (by omega) (by simp; omega)
            obtain ⟨gF, cF', rfl⟩ := own_succ hown13
            have hP11 := box_moved (box_moved hP10 (grown_drew_alloc w10 _) (by simp)) hgr13 nFP
            have k0' := cell_of_row w11 P0 2 _ _ _ hP11
            have z0' := frozen_of_row w11 P0 2 _ _ hP11
            refine region_rj (N := 104) (n := 16) (dst := dR) (val := vS P0 C0 Bd w10.heap.size f.args f.locals.length (.slice pF k cF) (.slice pl f.locals.length cl) (.slice po s10.out.length co) (.slice (some ⟨gF, 0, none⟩) (k + 1) cF')) (WS := WS25 w10.drew (w10.drew.alloc (.cells #[.int .i64 f.args, .int .i64 f.locals.length, .int .i64 1, .slice po s10.out.length co] 73)) w11 (w11.setCell ⟨P0, 2, none⟩ (.slice (some ⟨gF, 0, none⟩) (k + 1) cF'))) (by kernel_rfl) rfl rfl (dag_of (by kernel_rfl)) (ws_start _ _ _ _) ?step ?fin
            case step =>
              intro l a w' i hJ hW hi
              have hi16 : i < 16 := by
                obtain ⟨_, o, ho, _⟩ := mem_ready.1 hi
                exact (Array.getElem?_eq_some_iff.1 ho).1
              have t8 : a.tmps.getD 8 undef = .pointer (some ⟨P0, 0, none⟩) := hJ.un 8 (fun i _ _ e => by have := dR_ge i; omega)
              have t13 : a.tmps.getD 13 undef = .pointer (some ⟨C0, 0, none⟩) := hJ.un 13 (fun i _ _ e => by have := dR_ge i; omega)
              have t14 : a.tmps.getD 14 undef = .pointer (some ⟨Bd, 0, none⟩) := hJ.un 14 (fun i _ _ e => by have := dR_ge i; omega)
              have keep4 : ∀ b o v, w10.cell? ⟨b, o, none⟩ = some v → b ≠ P0 → (Value.slice pF k cF).ownBlock ≠ some b → w'.cell? ⟨b, o, none⟩ = some v := by
                intro b o v hc hb hb2
                rcases ws_any hW with rfl | rfl | rfl | rfl
                · exact hc
                · exact (World.grownBy_alloc w10.drew _ none).cell hc (by simp)
                · exact hgr13.cell ((World.grownBy_alloc w10.drew _ none).cell hc (by simp)) (Ne.symm hb2)
                · exact (grownBy_set w11 P0 2 _).cell (hgr13.cell ((World.grownBy_alloc w10.drew _ none).cell hc (by simp)) (Ne.symm hb2)) (by simpa using hb)
              have hun : l.getD i false = false := getD_both (mem_ready.1 hi).1
              rcases un_lt16 i hi16 with rfl | rfl | rfl | rfl | rfl | rfl | rfl | rfl | rfl | rfl | rfl | rfl | rfl | rfl | rfl | rfl
              · exact rg_value hJ rfl rfl rfl (by decide) (by decide) (dR_ne _ (by decide)) (w' := w') (by simp [execOp, Act.eval, t8, go_sem, vS, vR]) (ws_same hW (by decide) (by decide) (by decide))
              · have e0 : a.tmps.getD 79 undef = .pointer (some ⟨P0, 2, none⟩) := (hJ.sl 0 (by decide) (listed_of hi 0 (by kernel_rfl)) (by decide))
                have hcell : w'.cell? ⟨P0, 2, none⟩ = some (.slice pF k cF) := by
                  rcases ws_low hW hun with rfl | rfl
                  · exact k0
                  · exact (World.grownBy_alloc w10.drew _ none).cell k0 (by simp)
                exact rg_value hJ rfl rfl rfl (by decide) (by decide) (dR_ne _ (by decide)) (w' := w') (by simp [execOp, Act.eval, e0, hcell, go_sem, vS]) (ws_same hW (by decide) (by decide) (by decide))
              · exact rg_value hJ rfl rfl rfl (by decide) (by decide) (dR_ne _ (by decide)) (w' := w') (by simp [execOp, Act.eval, t13, go_sem, vS, vR]) (ws_same hW (by decide) (by decide) (by decide))
              · have e2 : a.tmps.getD 81 undef = .pointer (some ⟨C0, 1, none⟩) := (hJ.sl 2 (by decide) (listed_of hi 2 (by kernel_rfl)) (by decide))
                have hcell := keep4 _ _ _ k1 nC nFC
                exact rg_value hJ rfl rfl rfl (by decide) (by decide) (dR_ne _ (by decide)) (w' := w') (by simp [execOp, Act.eval, e2, hcell, go_sem, vS, vR]) (ws_same hW (by decide) (by decide) (by decide))
              · exact rg_value hJ rfl rfl rfl (by decide) (by decide) (dR_ne _ (by decide)) (w' := w') (by simp [execOp, Act.eval, t13, go_sem, vS, vR]) (ws_same hW (by decide) (by decide) (by decide))
              · have e4 : a.tmps.getD 83 undef = .pointer (some ⟨C0, 2, none⟩) := (hJ.sl 4 (by decide) (listed_of hi 4 (by kernel_rfl)) (by decide))
                have hcell := keep4 _ _ _ k2 nC nFC
                exact rg_value hJ rfl rfl rfl (by decide) (by decide) (dR_ne _ (by decide)) (w' := w') (by simp [execOp, Act.eval, e4, hcell, go_sem, vS, vR]) (ws_same hW (by decide) (by decide) (by decide))
              · have e5 : a.tmps.getD 84 undef = .slice pl f.locals.length cl := (hJ.sl 5 (by decide) (listed_of hi 5 (by kernel_rfl)) (by decide))
                exact rg_value hJ rfl rfl rfl (by decide) (by decide) (dR_ne _ (by decide)) (w' := w') (by simp [execOp, Act.eval, e5, go_sem, vS, vR]) (ws_same hW (by decide) (by decide) (by decide))
              · exact rg_value hJ rfl rfl rfl (by decide) (by decide) (dR_ne _ (by decide)) (w' := w') (by simp [execOp, Act.eval, t14, go_sem, vS, vR]) (ws_same hW (by decide) (by decide) (by decide))
              · have e7 : a.tmps.getD 86 undef = .pointer (some ⟨Bd, 0, none⟩) := (hJ.sl 7 (by decide) (listed_of hi 7 (by kernel_rfl)) (by decide))
                exact rg_value hJ rfl rfl rfl (by decide) (by decide) (dR_ne _ (by decide)) (w' := w') (by simp [execOp, Act.eval, e7, go_sem, vS, vR]) (ws_same hW (by decide) (by decide) (by decide))
              · have e8 : a.tmps.getD 87 undef = .pointer (some ⟨Bd, 0, none⟩) := (hJ.sl 8 (by decide) (listed_of hi 8 (by kernel_rfl)) (by decide))
                exact rg_value hJ rfl rfl rfl (by decide) (by decide) (dR_ne _ (by decide)) (w' := w') (by simp [execOp, Act.eval, e8, go_sem, vS, vR]) (ws_same hW (by decide) (by decide) (by decide))
              · have e9 : a.tmps.getD 88 undef = .pointer (some ⟨Bd, 6, none⟩) := (hJ.sl 9 (by decide) (listed_of hi 9 (by kernel_rfl)) (by decide))
                have hcell := keep4 _ _ _ c6 nB nFB
                exact rg_value hJ rfl rfl rfl (by decide) (by decide) (dR_ne _ (by decide)) (w' := w') (by simp [execOp, Act.eval, e9, hcell, go_sem, vS, vR]) (ws_same hW (by decide) (by decide) (by decide))
              · have e3 : a.tmps.getD 82 undef = .int .i64 f.args := (hJ.sl 3 (by decide) (listed_of hi 3 (by kernel_rfl)) (by decide))
                have e6 : a.tmps.getD 85 undef = .int .i64 f.locals.length := (hJ.sl 6 (by decide) (listed_of hi 6 (by kernel_rfl)) (by decide))
                have e10 : a.tmps.getD 89 undef = .slice po s10.out.length co := (hJ.sl 10 (by decide) (listed_of hi 10 (by kernel_rfl)) (by decide))
                exact rg_value hJ rfl rfl rfl (by decide) (by decide) (dR_ne _ (by decide)) (w' := w') (by rw [Array.getD_eq_getD_getElem?] at e3 e6 e10; simp [execOp, Act.eval, e3, e6, e10, go_sem, vS, vR]) (ws_same hW (by decide) (by decide) (by decide))
              · have e11 : a.tmps.getD 90 undef = .agg #[.int .i64 f.args, .int .i64 f.locals.length, .int .i64 1, .slice po s10.out.length co] := (hJ.sl 11 (by decide) (listed_of hi 11 (by kernel_rfl)) (by decide))
                obtain ⟨rfl, hW'⟩ := ws_12 hW hun
                exact rg_value hJ rfl rfl rfl (by decide) (by decide) (dR_ne _ (by decide)) (by rw [Array.getD_eq_getD_getElem?] at e11; simp [execOp, Act.eval, e11, go_sem, vS, vR]) hW'
              · have e1' : a.tmps.getD 80 undef = .slice pF k cF := (hJ.sl 1 (by decide) (listed_of hi 1 (by kernel_rfl)) (by decide))
                have e12 : a.tmps.getD 91 undef = .slice (some ⟨w10.heap.size, 0, none⟩) 1 1 := (hJ.sl 12 (by decide) (listed_of hi 12 (by kernel_rfl)) (by decide))
                obtain ⟨rfl, hW'⟩ := ws_13 hW hun (listed_of hi 12 (by kernel_rfl)) (listed_of hi 1 (by kernel_rfl))
                exact rg_value hJ rfl rfl rfl (by decide) (by decide) (dR_ne _ (by decide)) (by simp [execOp, resolve, invoke, builtin, Act.eval, e1', e12, hrun13, Result.andThen, vS, vR]) hW'
              · exact rg_value hJ rfl rfl rfl (by decide) (by decide) (dR_ne _ (by decide)) (w' := w') (by simp [execOp, Act.eval, t8, go_sem, vS, vR]) (ws_same hW (by decide) (by decide) (by decide))
              · have e13 : a.tmps.getD 92 undef = .slice (some ⟨gF, 0, none⟩) (k + 1) cF' := (hJ.sl 13 (by decide) (listed_of hi 13 (by kernel_rfl)) (by decide))
                have e14 : a.tmps.getD 93 undef = .pointer (some ⟨P0, 2, none⟩) := (hJ.sl 14 (by decide) (listed_of hi 14 (by kernel_rfl)) (by decide))
                obtain ⟨rfl, hW'⟩ := ws_15 hW hun (listed_of hi 13 (by kernel_rfl))
                exact rg_skip hJ rfl rfl rfl (by decide) (by decide) (by simp [execOp, Act.eval, e13, e14, k0', z0', go_sem]) hW'
            case fin =>
              intro l a w' hJ hW hl
              have hw := ws_end hW (hl 15 (by decide))
              subst hw
              have hput := rj_end (aF := putsF _ dR (vS P0 C0 Bd w10.heap.size f.args f.locals.length (.slice pF k cF) (.slice pl f.locals.length cl) (.slice po s10.out.length co) (.slice (some ⟨gF, 0, none⟩) (k + 1) cF')) 15) hJ hl (putsF_size rfl 15) (putsF_defers 15) (fun i hi hd => putsF_in rfl 15 (fun i j h1 h2 h3 => dR_ne j (by omega) i (by omega) h3) i (by by_cases h : i = 15 <;> first | omega | (subst h; exact absurd hd (by decide))) hd) (fun j hj => putsF_out 15 j (fun i hi => hj i (by omega)))
              subst hput
              clear hJ hW hl
              simp only [putsF, dR, vS, vR, Act.put, Nat.reduceLT, if_true, ite_true, Nat.reduceAdd, List.setIfInBounds_toArray, List.set_cons_zero, List.set_cons_succ]
              have d7 : (w11.setCell ⟨P0, 2, none⟩ (.slice (some ⟨gF, 0, none⟩) (k + 1) cF')).cell? ⟨Bd, 7, none⟩ = some (.slice pg s10.org.length cg) := (grownBy_set w11 P0 2 _).cell (hgr13.cell ((World.grownBy_alloc w10.drew _ none).cell c7 (by simp)) (Ne.symm nFB)) (by simpa using nB)
              have hz11 := hgr13.size
              rw [World.size_alloc] at hz11
              have hz12 : w10.drew.heap.size = w10.heap.size := rfl
              have hlt15 : Bd < (w11.setCell ⟨P0, 2, none⟩ (.slice (some ⟨gF, 0, none⟩) (k + 1) cF')).heap.size := by rw [World.size_setCell]; omega
              have hb16 : ∀ o, w.heap.size ≤ ((w11.setCell ⟨P0, 2, none⟩ (.slice (some ⟨gF, 0, none⟩) (k + 1) cF')).alloc o).heap.size := by intro o; simp; omega
              have or15 : (w11.setCell ⟨P0, 2, none⟩ (.slice (some ⟨gF, 0, none⟩) (k + 1) cF')).ownsRow w.heap.size 47 1 (.slice pv' k cv') k (rows.map Prod.snd) := by
                have o1 := (or10.kept (grown_drew_alloc w10 _) (Classical.em _)).kept hgr13 (own_other or10 fr10 (by decide))
                exact o1.kept (grownBy_set w11 P0 2 _) (Or.inr (own_not_box o1 hP11 (by decide)))
              have O13 := Lib.hid hown13
              have H13 := Lib.hid hgr13
              have O15 := Lib.hid or15
              have hk64 : k + 1 ≤ maxLen := by unfold maxLen; omega
              have hk65 : (k + 1) * 24 ≤ 140737488355328 := by omega
              clear hown13 hrun13 hgr13 k0' hP11 z0' or15 or10 fr10 hP10
              go_wp2_with (at_builtin; refine wpList_append_own_at _ rfl _ _ 41 rfl w.heap.size 47 ii (.slice none 0 0) 1 24 ints_und ii0 ii1 ii2 ii3 rfl (by decide) _ _ _ rfl (O15.out.alloc _) ⟨w11.heap.size, 0, none⟩ 1 1 [.slice pg s10.org.length cg] rfl rfl (one_set w11 P0 2 _ _ _) (one_slice _ _ _) hk64 hk65 (hb16 _) ?_; intro v16 w16 hown16 hgr16 hnil16 hat16; obtain ⟨gO, cO, hvO⟩ := own_succ hown16; subst hvO; have O16 := Lib.hid hown16; have G16 := Lib.hid hgr16; clear hown16 hgr16 hnil16 hat16)
              go_roundw
              case rel => exact ⟨k + 1, vd', _, rows ++ [(.slice po s10.out.length co, .slice pg s10.org.length cg)], by go_num, by omega, cloop_next LL.out HF.out (by have := FM10.out; rw [HVO.out, HVG.out] at this; exact this) FL.out.1 FL.out.2 H13.out O13.out G16.out O16.out, fun i f' hi hf' => by
                by_cases hik : i < k
                · exact SM.out i f' hik hf'
                · have : i = k := by omega
                  subst this
                  have e := HF.out
                  rw [hf'] at e; injection e with e; subst e
                  exact HSL.out⟩
              case measure => simp [intOf]; omega
          · refine bodyPost_ret (v := .tuple #[.agg #[.int .i64 0, .slice none 0 0, .slice none 0 0], .slice none 0 0, .int .i64 181]) ?_ rfl ?_
            · rw [results_cell_tmp2 rfl]
              go_simp
            · unfold MainPost
              rw [if_pos (bigF_true HF.out (by rw [← FL.out.1]; omega))]
              exact ⟨rfl, main_bad LL.out FM10.out.gr _ _ _⟩
        · have hke : k = u.funcs.length := by omega
          have p0 := cell_of_row wr P0 0 _ _ _ hL.pb
          have p1 := cell_of_row wr P0 1 _ _ _ hL.pb
          have p2 := cell_of_row wr P0 2 _ _ _ hL.pb
          have r0 := cell_of_row wr _ 0 _ _ _ hL.rb
          have r1 := cell_of_row wr _ 1 _ _ _ hL.rb
          have r2 := cell_of_row wr _ 2 _ _ _ hL.rb
          have y0 := frozen_of_row wr _ 0 _ _ hL.rb
          have y1 := frozen_of_row wr _ 1 _ _ hL.rb
          have y2 := frozen_of_row wr _ 2 _ _ hL.rb
          have hlP := (Array.getElem?_eq_some_iff.1 hL.pb).1
          have hlR := (Array.getElem?_eq_some_iff.1 hL.rb).1
          obtain ⟨pd', cd', hvd⟩ := own_slice hL.dt
          subst hvd
          clear hL
          go_wp2
          refine bodyPost_ret (v := .tuple #[.agg #[.int .i64 mem, .slice pd' (dataE u).length cd', .slice pF k cF], .slice pv' k cv', .int .i64 0]) ?_ rfl ?_
          · rw [results_cell_tmp2 rfl]
            go_simp
          · unfold MainPost
            rw [if_neg (by rw [bigF_false (fun i f hf => SM.out i f (by have := (List.getElem?_eq_some_iff.1 hf).1; omega) hf)]; simp)]
            subst hke
            exact ⟨_, _, _, rows, rfl, main_end LL.out _ _ _⟩

end Go.Proofs.Ytecaolkbllbokaa.TG
