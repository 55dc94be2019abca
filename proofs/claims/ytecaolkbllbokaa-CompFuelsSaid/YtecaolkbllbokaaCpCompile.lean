/-
  Walks of package comp's Compile, Origin and Fuel, for a unit of one function without jumps and without texts. Conditions: as each theorem states.
-/
import Derived.Test.YtecaolkbllbokaaCpOne
namespace Go.Proofs.Ytecaolkbllbokaa.TG
open Go.RowKit Go.Great
set_option linter.unusedSimpArgs false
set_option linter.unusedVariables false

def CompPost (w : World) (mem : Int) (f : Fun) (g : Nat) (e : Ending) (w' : World) : Prop := ∃ gF cF vout, e = .returned (.tuple #[.agg #[.int .i64 mem, .slice none 0 0, .slice (some ⟨gF, 0, none⟩) 1 cF], .int .i64 0]) ∧ w.grownBy w' none ∧ w'.cell? ⟨gF, 3, none⟩ = some vout ∧
  w'.ownsRow 0 75 2 vout (fullE f.parts g).length (flat2 (fullE f.parts g))
def OrigPost (w : World) (f : Fun) (g : Nat) (e : Ending) (w' : World) : Prop := ∃ gO cO vorg, e = .returned (.tuple #[.slice (some ⟨gO, 0, none⟩) 1 cO, .int .i64 0]) ∧ w.grownBy w' none ∧ w'.cell? ⟨gO, 0, none⟩ = some vorg ∧
  w'.ownsRow 0 3 1 vorg (fullO f.parts g).length ((fullO f.parts g).map (Value.int .i64))

set_option maxRecDepth 100000 in
set_option maxHeartbeats 4000000 in
theorem comp_one (u : Un) (f : Fun) (g : Nat) (hut : u.texts = []) (huf : u.funcs = [f]) (hck : checkE u = 0) (hu : UnWF u) (mem : Int) (hm0 : 0 ≤ mem) (hm1 : mem ≤ 65536) (hpl : plainT f.parts g 0 = true) (hl1 : (fullE f.parts g).length ≤ 4096) (hl2 : (fullO f.parts g).length ≤ 4096)
    (pt pf : Option Addr) (ct cf B : Nat) (w : World) (hU : UnitAt w B pt pf u) :
    Calls Try.prog 11 #[.agg #[.slice pt 0 ct, .slice pf 1 cf], .int .i64 mem] w (CompPost w mem f g) := by
  have CO := Lib.hid (fun w' (h : UnitAt w' B pt pf u) => compile_one u f g hut huf hck hu mem hm0 hm1 hpl hl1 hl2 pt pf ct cf B w' h)
  have UU := Lib.hid hU
  clear hU hu hut huf hck hpl hl1 hl2
  go_enter Try.func11, Try.ntmps11
  go_wp2_with (go_at_call 27; refine (CO.out _ (unitAt_kept UU.out (grownBy_trans (World.grownBy_alloc w _ none) (World.grownBy_alloc _ _ none)) (by simp))).mono ?_; intro e w1 hp; obtain ⟨gF, cF, gO, cO, vout, vorg, rfl, hg, ⟨b1, b2, b3, b4⟩, k0, k1, k2, k3, k4, o1, o2⟩ := hp; have hR := box_moved (box_two w _ _) hg (by simp); have r0 := cell_of_row w1 _ 0 _ _ _ hR; have r1 := cell_of_row w1 _ 1 _ _ _ hR; have r2 := cell_of_row w1 _ 2 _ _ _ hR; have z0 := frozen_of_row w1 _ 0 _ _ hR; have z1 := frozen_of_row w1 _ 1 _ _ hR; have z2 := frozen_of_row w1 _ 2 _ _ hR; have hlR := (Array.getElem?_eq_some_iff.1 hR).1; have HH := Lib.hid (And.intro k3 (And.intro o1 (And.intro b1 b3))); have HG := Lib.hid hg; clear k0 k1 k2 k3 k4 o1 o2 b1 b2 b3 b4 hg hR)
  refine bodyPost_ret (v := .tuple #[.agg #[.int .i64 mem, .slice none 0 0, .slice (some ⟨gF, 0, none⟩) 1 cF], .int .i64 0]) ?_ rfl ?_
  · rw [results_cell_tmp rfl]
    go_simp
  · obtain ⟨k3, o1, b1, b3⟩ := HH.out
    simp only [World.size_alloc] at b1 b3
    have hT : w1.grownBy ((((w1.setCell ⟨w.heap.size + 1, 0, none⟩ (.int .i64 mem)).setCell ⟨w.heap.size + 1, 1, none⟩ (.slice none 0 0)).setCell ⟨w.heap.size + 1, 2, none⟩ (.slice (some ⟨gF, 0, none⟩) 1 cF)).alloc (.cells #[.int .i64 mem, .slice none 0 0, .slice (some ⟨gF, 0, none⟩) 1 cF] 32)) (some (w.heap.size + 1)) :=
      grownBy_trans (grownBy_trans (grownBy_trans (grownBy_set w1 _ 0 _) (grownBy_set _ _ 1 _)) (grownBy_set _ _ 2 _)) (World.grownBy_alloc _ _ _)
    exact ⟨gF, cF, vout, rfl, grow_new (grownBy_trans (grownBy_trans (World.grownBy_alloc w _ none) (World.grownBy_alloc _ _ none)) HG.out) hT (by omega), hT.cell k3 (by simp; omega), o1.kept hT (Or.inr (fun e => by have := b3 _ e; omega))⟩

set_option maxRecDepth 100000 in
set_option maxHeartbeats 4000000 in
theorem orig_one (u : Un) (f : Fun) (g : Nat) (hut : u.texts = []) (huf : u.funcs = [f]) (hck : checkE u = 0) (hu : UnWF u) (hpl : plainT f.parts g 0 = true) (hl1 : (fullE f.parts g).length ≤ 4096) (hl2 : (fullO f.parts g).length ≤ 4096)
    (pt pf : Option Addr) (ct cf B : Nat) (w : World) (hU : UnitAt w B pt pf u) :
    Calls Try.prog 15 #[.agg #[.slice pt 0 ct, .slice pf 1 cf]] w (OrigPost w f g) := by
  have CO := Lib.hid (fun w' (h : UnitAt w' B pt pf u) => compile_one u f g hut huf hck hu 65536 (by decide) (by decide) hpl hl1 hl2 pt pf ct cf B w' h)
  have UU := Lib.hid hU
  clear hU hu hut huf hck hpl hl1 hl2
  go_enter Try.func15, Try.ntmps15
  go_wp2_with (go_at_call 27; refine (CO.out _ (unitAt_kept UU.out (World.grownBy_alloc w _ none) (by simp))).mono ?_; intro e w1 hp; obtain ⟨gF, cF, gO, cO, vout, vorg, rfl, hg, ⟨b1, b2, b3, b4⟩, k0, k1, k2, k3, k4, o1, o2⟩ := hp; have HH := Lib.hid (And.intro k4 o2); have HG := Lib.hid hg; clear k0 k1 k2 k3 k4 o1 o2 b1 b2 b3 b4 hg)
  refine bodyPost_ret (v := .tuple #[.slice (some ⟨gO, 0, none⟩) 1 cO, .int .i64 0]) ?_ rfl ?_
  · rw [results_tmp2 rfl]
    go_simp
  · have hT : w1.grownBy (w1.alloc (.cells #[.int .i64 65536, .slice none 0 0, .slice (some ⟨gF, 0, none⟩) 1 cF] 32)) none := World.grownBy_alloc _ _ _
    exact ⟨gO, cO, vorg, rfl, grownBy_trans (grownBy_trans (World.grownBy_alloc w _ none) HG.out) hT, hT.cell HH.out.1 (by simp), HH.out.2.kept hT (Classical.em _)⟩

def fuelE (s : Int) : Int := 8 * min (max s 0) 1048576

theorem fuel_any (s : Int) (w : World) : Calls Try.prog 18 #[.int .i64 s] w fun e w' => e = .returned (.int .i64 (fuelE s)) ∧ w = w' := by
  unfold fuelE
  go_enter Try.func18, Try.ntmps18
  go_wp2
  all_goals (go_ret; exact ⟨ret_int (by first | rfl | omega | (simp; omega)), rfl⟩)

theorem rfuel_any (s : Int) (w : World) : Calls Try.prog 19 #[.int .i64 s] w fun e w' => e = .returned (.int .i64 (fuelE s)) ∧ w = w' := by
  unfold fuelE
  by_cases c1 : s < 0
  · go_enter Try.func19, Try.ntmps19
    go_wp2
    go_ret
    exact ⟨ret_int (by omega), rfl⟩
  by_cases c2 : 1048576 < s
  · go_enter Try.func19, Try.ntmps19
    go_wp2
    go_ret
    exact ⟨ret_int (by omega), rfl⟩
  · go_enter Try.func19, Try.ntmps19
    go_wp2
    go_ret
    exact ⟨ret_int (by go_num), rfl⟩

end Go.Proofs.Ytecaolkbllbokaa.TG
