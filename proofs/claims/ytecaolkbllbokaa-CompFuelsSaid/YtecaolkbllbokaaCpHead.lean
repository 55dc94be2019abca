/-
  The fixed unit of chapter 18's laws: what it is, and that head returns true. Conditions: as each theorem states.
-/
import Derived.Test.YtecaolkbllbokaaCpCompile
namespace Go.Proofs.Ytecaolkbllbokaa.TG
open Go.RowKit Go.Great
set_option linter.unusedSimpArgs false
set_option linter.unusedVariables false

def sumF : Fun := { name := ByteArray.mk #[109, 97, 105, 110], args := 0, locals := [], parts := [(1, 0, 1), (9, 0, 1), (20, 20, 2), (12, 1, 0), (12, 2, 0)] }
def sumU : Un := { texts := [], funcs := [sumF] }

theorem sum_check : checkE sumU = 0 := by kernel_rfl
theorem sum_plain : plainT sumF.parts 4 0 = true := by kernel_rfl
theorem sum_code : fullE sumF.parts 4 = [(3, 1), (3, 2), (20, 0), (18, 0), (3, 0), (18, 0)] := by kernel_rfl
theorem sum_orig : fullO sumF.parts 4 = [3, 4, 2, 1, 0, 0] := by kernel_rfl
theorem sum_wf : UnWF sumU := ⟨by decide, by decide, fun x hx => absurd hx (by simp [sumU]), fun f hf => by
  have : f = sumF := by simpa [sumU] using hf
  subst this
  exact ⟨by decide, by decide, by decide, fun s hs => absurd hs (by simp [sumF])⟩⟩

def SumPost (w : World) (e : Ending) (w' : World) : Prop := ∃ bF, e = .returned (.agg #[.slice none 0 0, .slice (some ⟨bF, 0, none⟩) 1 1]) ∧ w.grownBy w' none ∧ UnitAt w' w'.heap.size none (some ⟨bF, 0, none⟩) sumU

theorem results_cell1 {fn : Func} {p : Tmp} {ty : TypeId} (h : fn.results = #[.cell p ty]) (tmps : Array Value) (P : Program) (w : World) :
    (results fn tmps).run P w = ((asAddr (tmps.getD p undef)).run P w).andThen fun a w₁ => (loadVar ty a).run P w₁ := by
  simp only [results, h]
  simp [Sem.run_bind, Result.andThen]

theorem sum_post (w W : World) (hW : W = ((w.alloc (.cells #[.slice none 0 0, .slice (some ⟨w.heap.size + 1 + 1, 0, none⟩) 1 1] 25)).alloc (.cells #[.int .i64 1, .int .i64 0, .int .i64 1, .int .i64 9, .int .i64 0, .int .i64 1, .int .i64 20, .int .i64 20, .int .i64 2, .int .i64 12, .int .i64 1, .int .i64 0, .int .i64 12, .int .i64 2, .int .i64 0] 108)).alloc
      (.cells #[.string (ByteArray.mk #[109, 97, 105, 110]), .int .i64 0, .slice none 0 0, .slice (some ⟨w.heap.size + 1, 0, none⟩) 5 5] 69)) :
    SumPost w (.returned (.agg #[.slice none 0 0, .slice (some ⟨w.heap.size + 1 + 1, 0, none⟩) 1 1])) W := by
  have h2 : W.heap[w.heap.size + 1 + 1]? = some (.cells #[.string (ByteArray.mk #[109, 97, 105, 110]), .int .i64 0, .slice none 0 0, .slice (some ⟨w.heap.size + 1, 0, none⟩) 5 5] 69 (0, 0)) := by
    rw [hW]
    have := heap_alloc2_new (w.alloc (.cells #[.slice none 0 0, .slice (some ⟨w.heap.size + 1 + 1, 0, none⟩) 1 1] 25)) (.cells #[.int .i64 1, .int .i64 0, .int .i64 1, .int .i64 9, .int .i64 0, .int .i64 1, .int .i64 20, .int .i64 20, .int .i64 2, .int .i64 12, .int .i64 1, .int .i64 0, .int .i64 12, .int .i64 2, .int .i64 0] 108) (.cells #[.string (ByteArray.mk #[109, 97, 105, 110]), .int .i64 0, .slice none 0 0, .slice (some ⟨w.heap.size + 1, 0, none⟩) 5 5] 69)
    rw [World.size_alloc] at this
    exact this
  have h1 : W.heap[w.heap.size + 1]? = some (.cells #[.int .i64 1, .int .i64 0, .int .i64 1, .int .i64 9, .int .i64 0, .int .i64 1, .int .i64 20, .int .i64 20, .int .i64 2, .int .i64 12, .int .i64 1, .int .i64 0, .int .i64 12, .int .i64 2, .int .i64 0] 108 (0, 0)) := by
    rw [hW]
    have := heap_alloc2_old (w.alloc (.cells #[.slice none 0 0, .slice (some ⟨w.heap.size + 1 + 1, 0, none⟩) 1 1] 25)) (.cells #[.int .i64 1, .int .i64 0, .int .i64 1, .int .i64 9, .int .i64 0, .int .i64 1, .int .i64 20, .int .i64 20, .int .i64 2, .int .i64 12, .int .i64 1, .int .i64 0, .int .i64 12, .int .i64 2, .int .i64 0] 108) (.cells #[.string (ByteArray.mk #[109, 97, 105, 110]), .int .i64 0, .slice none 0 0, .slice (some ⟨w.heap.size + 1, 0, none⟩) 5 5] 69)
    rw [World.size_alloc] at this
    exact this
  have l1 := (Array.getElem?_eq_some_iff.1 h1).1
  have l2 := (Array.getElem?_eq_some_iff.1 h2).1
  have hg : w.grownBy W none := by rw [hW]; exact grownBy_trans (grownBy_trans (World.grownBy_alloc _ _ _) (World.grownBy_alloc _ _ _)) (World.grownBy_alloc _ _ _)
  refine ⟨w.heap.size + 1 + 1, rfl, hg, Nat.le_refl _, fun h0 => absurd h0 (by simp [sumU]), fun _ => ⟨w.heap.size + 1 + 1, 0, rfl, l2, fun i f hi => ?_⟩⟩
  have hi0 : i = 0 ∧ f = sumF := by
    match i, hi with
    | 0, hi => exact ⟨rfl, (Option.some.inj hi).symm⟩
    | i + 1, hi => cases hi
  obtain ⟨rfl, rfl⟩ := hi0
  refine ⟨cell_of_row W _ 0 _ _ _ h2, cell_of_row W _ 1 _ _ _ h2, ⟨none, 0, cell_of_row W _ 2 _ _ _ h2, fun h0 => absurd h0 (by simp [sumF])⟩, ⟨some ⟨w.heap.size + 1, 0, none⟩, 5, cell_of_row W _ 3 _ _ _ h2, fun _ => ⟨w.heap.size + 1, 0, rfl, l1, fun j k n kc hj => ?_⟩⟩⟩
  match j, hj with
  | 0, hj => cases hj; exact ⟨cell_of_row W _ 0 _ _ _ h1, cell_of_row W _ 1 _ _ _ h1, cell_of_row W _ 2 _ _ _ h1⟩
  | 1, hj => cases hj; exact ⟨cell_of_row W _ 3 _ _ _ h1, cell_of_row W _ 4 _ _ _ h1, cell_of_row W _ 5 _ _ _ h1⟩
  | 2, hj => cases hj; exact ⟨cell_of_row W _ 6 _ _ _ h1, cell_of_row W _ 7 _ _ _ h1, cell_of_row W _ 8 _ _ _ h1⟩
  | 3, hj => cases hj; exact ⟨cell_of_row W _ 9 _ _ _ h1, cell_of_row W _ 10 _ _ _ h1, cell_of_row W _ 11 _ _ _ h1⟩
  | 4, hj => cases hj; exact ⟨cell_of_row W _ 12 _ _ _ h1, cell_of_row W _ 13 _ _ _ h1, cell_of_row W _ 14 _ _ _ h1⟩
  | j + 5, hj => cases hj

set_option maxRecDepth 100000 in
set_option maxHeartbeats 4000000 in
theorem sum_any (w : World) : Calls Try.prog 24 #[] w (SumPost w) := by
  go_enter Try.func24, Try.ntmps24
  go_wp2
  refine bodyPost_ret (v := .agg #[.slice none 0 0, .slice (some ⟨w.heap.size + 1 + 1, 0, none⟩) 1 1]) ?_ rfl ?_
  · rw [results_cell1 rfl]
    go_simp
  · exact sum_post w _ rfl

theorem flat_six {w : World} {v : Value} {l : List (Int × Int)} (h : w.ownsRow 0 75 2 v l.length (flat2 l)) (hl : l = [(3, 1), (3, 2), (20, 0), (18, 0), (3, 0), (18, 0)]) :
    ∃ g1 k1, v = .slice (some ⟨g1, 0, none⟩) 6 k1 ∧ g1 < w.heap.size ∧ w.cell? ⟨g1, 4, none⟩ = some (.int .i64 20) := by
  subst hl
  obtain ⟨g1, k1, hv⟩ := own_succ (n := 5) h
  subst hv
  refine ⟨g1, k1, rfl, (h.lt g1 rfl).2, ?_⟩
  have := h.cells (g := g1) rfl 4 (.int .i64 20) rfl
  simpa [Addr.add] using this

theorem orig_six {w : World} {v : Value} {l : List Int} (h : w.ownsRow 0 3 1 v l.length (l.map (Value.int .i64))) (hl : l = [3, 4, 2, 1, 0, 0]) :
    ∃ g1 k1, v = .slice (some ⟨g1, 0, none⟩) 6 k1 ∧ g1 < w.heap.size ∧ w.cell? ⟨g1, 0, none⟩ = some (.int .i64 3) := by
  subst hl
  obtain ⟨g1, k1, hv⟩ := own_succ (n := 5) h
  subst hv
  refine ⟨g1, k1, rfl, (h.lt g1 rfl).2, ?_⟩
  have := h.cells (g := g1) rfl 0 (.int .i64 3) rfl
  simpa [Addr.add] using this

theorem fuel3 (w : World) : Calls Try.prog 18 #[.int .i64 3] w fun e w' => e = .returned (.int .i64 24) ∧ w = w' := fuel_any 3 w

/-- What head's look at the program wants. -/
structure HC (w : World) (gF : Nat) (cF g1 k1 : Nat) : Prop where
  c3 : w.cell? ⟨gF, 3, none⟩ = some (.slice (some ⟨g1, 0, none⟩) 6 k1)
  c4 : w.cell? ⟨g1, 4, none⟩ = some (.int .i64 20)
  l1 : gF < w.heap.size
  l2 : g1 < w.heap.size
theorem hc_kept {w w' : World} {gF cF g1 k1 : Nat} (h : HC w gF cF g1 k1) (g : w.grownBy w' none) : HC w' gF cF g1 k1 :=
  ⟨g.cell h.c3 (by simp), g.cell h.c4 (by simp), Nat.lt_of_lt_of_le h.l1 g.size, Nat.lt_of_lt_of_le h.l2 g.size⟩
theorem hc_of {w w' : World} {e : Ending} (h : CompPost w 0 sumF 4 e w') : ∃ gF cF g1 k1, e = .returned (.tuple #[.agg #[.int .i64 0, .slice none 0 0, .slice (some ⟨gF, 0, none⟩) 1 cF], .int .i64 0]) ∧ w.grownBy w' none ∧ HC w' gF cF g1 k1 := by
  obtain ⟨gF, cF, vout, he, hg, hc, ho⟩ := h
  obtain ⟨g1, k1, rfl, h2, h4⟩ := flat_six ho sum_code
  exact ⟨gF, cF, g1, k1, he, hg, hc, h4, World.block_lt_of_cell? _ _ hc, h2⟩
structure HO (w : World) (gO : Nat) (g1 k1 : Nat) : Prop where
  c0 : w.cell? ⟨gO, 0, none⟩ = some (.slice (some ⟨g1, 0, none⟩) 6 k1)
  c1 : w.cell? ⟨g1, 0, none⟩ = some (.int .i64 3)
  l1 : gO < w.heap.size
  l2 : g1 < w.heap.size
theorem ho_of {w w' : World} {e : Ending} (h : OrigPost w sumF 4 e w') : ∃ gO cO g1 k1, e = .returned (.tuple #[.slice (some ⟨gO, 0, none⟩) 1 cO, .int .i64 0]) ∧ w.grownBy w' none ∧ HO w' gO g1 k1 := by
  obtain ⟨gO, cO, vorg, he, hg, hc, ho⟩ := h
  obtain ⟨g1, k1, rfl, h2, h4⟩ := orig_six ho sum_orig
  exact ⟨gO, cO, g1, k1, he, hg, hc, h4, World.block_lt_of_cell? _ _ hc, h2⟩

set_option maxRecDepth 100000 in
set_option maxHeartbeats 4000000 in
theorem head_true (w : World) : Calls Try.prog 9 #[] w fun e w' => e = .returned (.bool true) ∧ w.grownBy w' none := by
  have CO := Lib.hid (fun bF w' (h : UnitAt w' w'.heap.size none (some ⟨bF, 0, none⟩) sumU) => comp_one sumU sumF 4 rfl rfl sum_check sum_wf 0 (by decide) (by decide) sum_plain (by rw [sum_code]; decide) (by rw [sum_orig]; decide) none (some ⟨bF, 0, none⟩) 0 1 w'.heap.size w' h)
  have OR := Lib.hid (fun bF w' (h : UnitAt w' w'.heap.size none (some ⟨bF, 0, none⟩) sumU) => orig_one sumU sumF 4 rfl rfl sum_check sum_wf sum_plain (by rw [sum_code]; decide) (by rw [sum_orig]; decide) none (some ⟨bF, 0, none⟩) 0 1 w'.heap.size w' h)
  go_enter Try.func9, Try.ntmps9
  have S0 : True := trivial
  go_wp2_with (first
    | (go_at_call 24; have hz := S0; clear S0 hz; refine (sum_any _).mono ?_; intro e w1 hp; obtain ⟨bF, rfl, hg1, hu1⟩ := hp; have U1 := Lib.hid hu1; have G1 := Lib.hid hg1; clear hg1 hu1)
    | (go_at_call 11; refine (CO.out bF _ U1.out).mono ?_; intro e w2 hp; obtain ⟨gF, cF, g1, k1, rfl, hg2, hc2⟩ := hc_of hp; have G2 := Lib.hid hg2; have H2 := Lib.hid hc2; clear hg2 hc2 hp)
    | (go_at_call 24; refine (sum_any _).mono ?_; intro e w3 hp; obtain ⟨bF3, rfl, hg3, hu3⟩ := hp; have U3 := Lib.hid hu3; have G3 := Lib.hid hg3; have p2 := hg3.cell (a := ⟨w2.heap.size, 2, none⟩) (v := .slice (some ⟨gF, 0, none⟩) 1 cF) (by simp) (by simp); have hz3 := size_lt hg3; clear hg3 hu3)
    | (go_at_call 15; refine (OR.out bF3 _ U3.out).mono ?_; intro e w4 hp; obtain ⟨gO, cO, g2, k2, rfl, hg4, ho4⟩ := ho_of hp; have G4 := Lib.hid hg4; have q2 := hg4.cell p2 (by simp); have hz4 := Nat.lt_of_lt_of_le hz3 hg4.size; have hK := hc_kept (hc_kept (hc_kept H2.out (World.grownBy_alloc _ _ none)) G3.out) hg4; obtain ⟨x3, x4, x5, x6⟩ := hK; obtain ⟨y0, y1, y2, y3⟩ := ho4; clear hg4 hp)
    | (go_at_call 18; refine (fuel3 _).mono ?_; rintro e w5 ⟨rfl, rfl⟩))
  go_ret
  exact ⟨rfl, grownBy_trans (grownBy_trans (grownBy_trans (grownBy_trans G1.out G2.out) (World.grownBy_alloc _ _ none)) G3.out) G4.out⟩

end Go.Proofs.Ytecaolkbllbokaa.TG
