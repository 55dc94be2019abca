/-
  Walk of the compiler's compile, for a unit of one function without jumps and without texts. Conditions: as each theorem states.
  Walks of package comp's Compile, Origin and Fuel, for a unit of one function without jumps and without texts. Conditions: as each theorem states.
  The fixed unit of chapter 18's laws: what it is, and that head returns true. Conditions: as each theorem states.
  The end of a law whose walk leaves new blocks alone (frozen or not): the given row's closing condition. Conditions: as each theorem states.
  A law's end, for parameters of whatever readable types, where the walk has left all that was there alone: the given row's post. Conditions: as each theorem states.
-/
import Derived.Test.YtecaolkbllbokaaMB09
import Derived.Laws.ResultCell
import Derived.StillTailTactics
import Derived.Deep.RegionLaw
import Derived.Deep.RegionLawGrows
import Derived.Deep.RegionHeld3
import Derived.ChangeSame
import Derived.ProofKit
import Derived.OpenShut
import Derived.Below
import Derived.RowKit3
import Derived.Deep.Frames
import Derived.Carry
namespace Go.Proofs.Ytecaolkbllbokaa.TG
open Go.RowKit Go.Great
set_option linter.unusedSimpArgs false
set_option linter.unusedVariables false

theorem results_cell_tmp2 {fn : Func} {p u v : Tmp} {ty : TypeId} (h : fn.results = #[.cell p ty, .tmp u, .tmp v]) (tmps : Array Value) (P : Program) (w : World) :
    (results fn tmps).run P w =
      ((asAddr (tmps.getD p undef)).run P w).andThen fun a w₁ => ((loadVar ty a).run P w₁).andThen fun x w₂ => .ok (.tuple #[x, tmps.getD u undef, tmps.getD v undef]) w₂ := by
  simp only [results, h]
  simp [Sem.run_bind, Result.andThen]

theorem size_lt2 {w w1 : World} {o o' : Obj} {r : Option Nat} (h : ((w.alloc o).alloc o').grownBy w1 r) : w.heap.size + 1 < w1.heap.size := by
  have := h.size; rw [World.size_alloc, World.size_alloc] at this; omega

theorem box_two (w : World) (o o' : Obj) : ((w.alloc o).alloc o').heap[w.heap.size + 1]? = some o' := heap_alloc2_new w o o'

/-- Behind the call of ends. -/
structure AE (w3 w6 : World) (Bd bc b6 M : Nat) (vt vf : Value) (nm : ByteArray) (ar : Int) (vl vp : Value) : Prop where
  hb : w6.heap[Bd]? = some (.cells #[vt, vf, .string nm, .int .i64 ar, vl, vp, .slice none 0 0, .slice none 0 0, .slice none 0 0, .map none] 114 (0, 0))
  ki : KindsAt w6 Bd w6.heap.size bc b6 M
  gr : w3.grownBy w6 none
  cp : w6.heap[w3.heap.size]? = some (.cells #[.string nm, .int .i64 ar, vl, vp] 69 (0, 0))
  eB : Bd = w3.heap.size + 1

theorem one_a {w3 w6 : World} {vt vf : Value} {nm : ByteArray} {ar : Int} {vl vp : Value} {e : Ending}
    (h : EndsPost ((w3.alloc (.cells #[.string nm, .int .i64 ar, vl, vp] 69)).alloc (.cells #[vt, vf, .string nm, .int .i64 ar, vl, vp, .slice none 0 0, .slice none 0 0, .slice none 0 0, .map none] 114)) (w3.heap.size + 1) e w6) :
    ∃ bc b6 M, e = .returned (.map (some M)) ∧ AE w3 w6 (w3.heap.size + 1) bc b6 M vt vf nm ar vl vp := by
  obtain ⟨bc, b6, M, he, g, hk⟩ := kinds_of_ends h (by simp)
  refine ⟨bc, b6, M, he, box_moved (heap_alloc2_new w3 _ _) g (by simp), hk, grownBy_trans (grownBy_trans (World.grownBy_alloc w3 _ none) (World.grownBy_alloc _ _ none)) g, box_moved (heap_alloc2_old w3 _ _) g (by simp), rfl⟩

theorem one_b {w3 w6 : World} {Bd bc b6 M : Nat} {vt vf : Value} {nm : ByteArray} {ar : Int} {vl vp : Value} (h : AE w3 w6 Bd bc b6 M vt vf nm ar vl vp) :
    CodeAt (w6.setCell ⟨Bd, 9, none⟩ (.map (some M))) w6.heap.size Bd vt vf nm ar vl vp (.slice none 0 0) (.slice none 0 0) (.slice none 0 0) (.map (some M)) [] [] := by
  refine ⟨by rw [heap_set_box h.hb]; rfl, World.ownsRow_nil _ _ _ _, World.ownsRow_nil _ _ _ _, (Array.getElem?_eq_some_iff.1 h.hb).1, by rw [World.size_setCell]; exact Nat.le_refl _⟩

theorem one_e {w3 w6 : World} {Bd bc b6 M B : Nat} {vt vf : Value} {nm : ByteArray} {ar : Int} {vl vp : Value} {pp : Option Addr} {ps : List (Int × Int × Int)} (h : AE w3 w6 Bd bc b6 M vt vf nm ar vl vp) (hp : PartsB w3 B pp ps) (hB : B ≤ w3.heap.size) :
    WEnv (w6.setCell ⟨Bd, 9, none⟩ (.map (some M))) Bd w6.heap.size bc b6 M pp ps := by
  have hs : ∀ k, k ≠ Bd → (w6.setCell ⟨Bd, 9, none⟩ (.map (some M))).heap[k]? = w6.heap[k]? := fun k hk => heap_setCell_other w6 _ k _ hk
  refine ⟨fun h0 => ?_, kinds_kept h.ki fun k h1 h2 => hs k (by omega)⟩
  obtain ⟨b, o, e, hb, hc⟩ := hp h0
  have heB := h.eB
  refine ⟨b, o, e, by omega, fun j k n kc hj => ?_⟩
  obtain ⟨c0, c1, c2⟩ := hc j k n kc hj
  have hbs := hs b (by omega)
  exact ⟨by rw [heap_cell hbs]; exact h.gr.cell c0 (by simp), by rw [heap_cell hbs]; exact h.gr.cell c1 (by simp), by rw [heap_cell hbs]; exact h.gr.cell c2 (by simp)⟩

theorem own_snoc {w : World} {base : Nat} {e : TypeId} {size : Nat} {v : Value} {xs : List Value} {α : Type} {l : List α} {x : α} (h : w.ownsRow base e size v (l ++ [x]).length xs) : ∃ g cap, v = .slice (some ⟨g, 0, none⟩) (l.length + 1) cap := by
  rw [List.length_append, List.length_singleton] at h
  exact own_succ h

theorem own_len {w : World} {base : Nat} {e : TypeId} {size : Nat} {v : Value} {xs : List Value} {α : Type} {l : List α} {x : α} (h : w.ownsRow base e size v (l ++ [x]).length xs) : ∃ g cap n, v = .slice (some ⟨g, 0, none⟩) n cap ∧ n = (l ++ [x]).length := by
  obtain ⟨g, cap, hv⟩ := own_snoc h
  exact ⟨g, cap, l.length + 1, hv, by simp⟩

theorem four_new (w : World) (a b c d : Value) (t : TypeId) : ∀ j u, [a, b, c, d][j]? = some u → ((w.alloc (.cells #[a, b, c, d] t)).drew).cell? ((⟨w.heap.size, 0, none⟩ : Addr).add j) = some u := by
  intro j u hj
  match j, hj with
  | 0, hj => simp at hj; subst hj; simp [Addr.add]
  | 1, hj => simp at hj; subst hj; simp [Addr.add]
  | 2, hj => simp at hj; subst hj; simp [Addr.add]
  | 3, hj => simp at hj; subst hj; simp [Addr.add]
theorem four_cell (x y z : Int) (p : Option Addr) (n k : Nat) : ∀ u ∈ [Value.int .i64 x, Value.int .i64 y, Value.int .i64 z, Value.slice p n k], u.oneCell' = true := by
  intro u hu; simp at hu; rcases hu with rfl | rfl | rfl | rfl <;> rfl
theorem func_und : Try.prog.underlying 30 = some (.slice 73) := by kernel_rfl
theorem func_info : (Try.prog.info? 73).map (fun i => (i.zero, i.size, i.bytes)) = some (some (.agg #[.int .i64 0, .int .i64 0, .int .i64 0, .slice none 0 0]), 4, 48) := by kernel_rfl
theorem ints_und : Try.prog.underlying 41 = some (.slice 47) := by kernel_rfl
theorem ints_info : (Try.prog.info? 47).map (fun i => (i.zero, i.size, i.bytes)) = some (some (.slice none 0 0), 1, 24) := by kernel_rfl
theorem grown_keep {w w' : World} {o : Obj} (g : (w.alloc o).drew.grownBy w' none) : w.grownBy w' none := grownBy_trans (grownBy_drew (World.grownBy_alloc w o none)) g

/-- What the region that appends a function reads, but for the program's own block. -/
theorem keepF_alloc {W : World} {o : Obj} {C Bd : Nat} {x y z : Value} (h1 : W.cell? ⟨C, 1, none⟩ = some x) (h2 : W.cell? ⟨C, 2, none⟩ = some y) (h3 : W.cell? ⟨Bd, 6, none⟩ = some z) (h4 : C < W.heap.size) (h5 : Bd < W.heap.size) :
    (W.alloc o).drew.cell? ⟨C, 1, none⟩ = some x ∧ (W.alloc o).drew.cell? ⟨C, 2, none⟩ = some y ∧ (W.alloc o).drew.cell? ⟨Bd, 6, none⟩ = some z ∧ C < (W.alloc o).drew.heap.size ∧ Bd < (W.alloc o).drew.heap.size := by
  have g := grownBy_drew (World.grownBy_alloc W o none)
  exact ⟨g.cell h1 (by simp), g.cell h2 (by simp), g.cell h3 (by simp), Nat.lt_of_lt_of_le h4 g.size, Nat.lt_of_lt_of_le h5 g.size⟩
theorem keepF_set {W : World} {C Bd P0 o : Nat} {v x y z : Value} (h1 : W.cell? ⟨C, 1, none⟩ = some x) (h2 : W.cell? ⟨C, 2, none⟩ = some y) (h3 : W.cell? ⟨Bd, 6, none⟩ = some z) (h4 : C < W.heap.size) (h5 : Bd < W.heap.size) (hC : C ≠ P0) (hB : Bd ≠ P0) :
    (W.setCell ⟨P0, o, none⟩ v).cell? ⟨C, 1, none⟩ = some x ∧ (W.setCell ⟨P0, o, none⟩ v).cell? ⟨C, 2, none⟩ = some y ∧ (W.setCell ⟨P0, o, none⟩ v).cell? ⟨Bd, 6, none⟩ = some z ∧ C < (W.setCell ⟨P0, o, none⟩ v).heap.size ∧ Bd < (W.setCell ⟨P0, o, none⟩ v).heap.size := by
  have g := grownBy_set W P0 o v
  exact ⟨g.cell h1 (by simpa using hC), g.cell h2 (by simpa using hC), g.cell h3 (by simpa using hB), Nat.lt_of_lt_of_le h4 g.size, Nat.lt_of_lt_of_le h5 g.size⟩

/-- Behind the two last emits. -/
structure AM (w w3 w10 : World) (E Bd : Nat) (vt vf : Value) (nm : ByteArray) (ar : Int) (vl vp vo vg vlo vk : Value) (out : List (Int × Int)) (org : List Int) : Prop where
  code : CodeAt w10 E Bd vt vf nm ar vl vp vo vg vlo vk out org
  low : ∀ k, k < w3.heap.size + 1 → w10.heap[k]? = w3.heap[k]? ∨ k = w3.heap.size
  cp : w10.heap[w3.heap.size]? = some (.cells #[.string nm, .int .i64 ar, vl, vp] 69 (0, 0))
  gr : w.grownBy w10 none
  eB : Bd = w3.heap.size + 1

theorem one_m {w w3 w6 w7 w8 w9 w10 : World} {Bd bc b6 M : Nat} {vt vf : Value} {nm : ByteArray} {ar : Int} {vl vp vo8 vg8 vo9 vg9 vo vg vlo vk : Value} {out : List (Int × Int)} {org : List Int}
    (h : AE w3 w6 Bd bc b6 M vt vf nm ar vl vp) (hw7 : w7 = w6.setCell ⟨Bd, 9, none⟩ (.map (some M))) (g3 : w.grownBy w3 none)
    (s8 : Sp (EmitP Bd (.slice none 0 0) (.slice none 0 0)) w7 w8) (r8 : ∀ k, k < w7.heap.size → EmitP Bd vo8 vg8 k → EmitP Bd (.slice none 0 0) (.slice none 0 0) k)
    (s9 : Sp (EmitP Bd vo8 vg8) w8 w9) (r9 : ∀ k, k < w8.heap.size → EmitP Bd vo9 vg9 k → EmitP Bd vo8 vg8 k) (s10 : Sp (EmitP Bd vo9 vg9) w9 w10)
    (hC : CodeAt w10 w6.heap.size Bd vt vf nm ar vl vp vo vg vlo vk out org) : AM w w3 w10 w6.heap.size Bd vt vf nm ar vl vp vo vg vlo vk out org := by
  have hz7 : w7.heap.size = w6.heap.size := by rw [hw7, World.size_setCell]
  have hB6 : Bd < w6.heap.size := (Array.getElem?_eq_some_iff.1 h.hb).1
  have hno : ∀ k, k ≠ Bd → ¬ EmitP Bd (.slice none 0 0) (.slice none 0 0) k := by
    intro k hk hp
    rcases hp with e | e | e
    · exact hk e
    · simp [Value.ownBlock] at e
    · simp [Value.ownBlock] at e
  have low : ∀ k, k < w6.heap.size → k ≠ Bd → w10.heap[k]? = w6.heap[k]? := by
    intro k hk hne
    have n8 : ¬ EmitP Bd vo8 vg8 k := fun hp => hno k hne (r8 k (by omega) hp)
    have z8 := s8.size
    have z9 := s9.size
    have n9 : ¬ EmitP Bd vo9 vg9 k := fun hp => n8 (r9 k (by omega) hp)
    rw [s10.block k (by omega) n9, s9.block k (by omega) n8, s8.block k (by omega) (hno k hne), hw7]
    exact heap_setCell_other w6 _ k _ hne
  have heB := h.eB
  have hz3 := h.gr.size
  have hz10 : w6.heap.size ≤ w10.heap.size := by have := s8.size; have := s9.size; have := s10.size; omega
  refine ⟨hC, fun k hk => ?_, ?_, ⟨?_, ?_, ?_, ?_, ?_⟩, heB⟩
  · by_cases hkk : k = w3.heap.size
    · exact Or.inr hkk
    · left; rw [low k (by omega) (by omega)]; exact h.gr.block k (by omega) (by simp)
  · rw [low _ (by omega) (by omega)]; exact h.cp
  · exact (s10.os.trans (s9.os.trans s8.os)).trans ((by rw [hw7]; rfl : w7.os = w6.os).trans (h.gr.os.trans g3.os))
  · exact (s10.tape.trans (s9.tape.trans s8.tape)).trans ((by rw [hw7]; rfl : w7.tape = w6.tape).trans (h.gr.tape.trans g3.tape))
  · exact (s10.output.trans (s9.output.trans s8.output)).trans ((by rw [hw7]; rfl : w7.output = w6.output).trans (h.gr.output.trans g3.output))
  · have := g3.size; omega
  · intro k hk _
    have := g3.size
    rw [low k (by omega) (by omega), h.gr.block k (by omega) (by simp)]
    exact g3.block k hk (by simp)

theorem am_low {w w3 w10 : World} {E Bd : Nat} {vt vf : Value} {nm : ByteArray} {ar : Int} {vl vp vo vg vlo vk : Value} {out : List (Int × Int)} {org : List Int} (h : AM w w3 w10 E Bd vt vf nm ar vl vp vo vg vlo vk out org) {k : Nat} {o : Obj} (hb : w3.heap[k]? = some o) : w10.heap[k]? = some o := by
  have hk := (Array.getElem?_eq_some_iff.1 hb).1
  rcases h.low k (by omega) with e | e
  · rw [e]; exact hb
  · omega

theorem am_1 {w w3 w10 : World} {E Bd : Nat} {vt vf : Value} {nm : ByteArray} {ar : Int} {vl vp vo vg vlo vk : Value} {out : List (Int × Int)} {org : List Int} (h : AM w w3 w10 E Bd vt vf nm ar vl vp vo vg vlo vk out org) : w10.cell? ⟨w3.heap.size, 1, none⟩ = some (.int .i64 ar) := cell_of_row w10 _ 1 _ _ _ h.cp
theorem am_2 {w w3 w10 : World} {E Bd : Nat} {vt vf : Value} {nm : ByteArray} {ar : Int} {vl vp vo vg vlo vk : Value} {out : List (Int × Int)} {org : List Int} (h : AM w w3 w10 E Bd vt vf nm ar vl vp vo vg vlo vk out org) : w10.cell? ⟨w3.heap.size, 2, none⟩ = some vl := cell_of_row w10 _ 2 _ _ _ h.cp
theorem prog_2 {w : World} {P0 : Nat} {x y z : Value} (h : w.heap[P0]? = some (.cells #[x, y, z] 32 (0, 0))) : w.cell? ⟨P0, 2, none⟩ = some z := cell_of_row w _ 2 _ _ _ h

/-- The code of a function, with its end. -/
def fullE (ps : List (Int × Int × Int)) (g : Nat) : List (Int × Int) := (codeE ps g 0).1 ++ [(3, 0)] ++ [(18, 0)]
def fullO (ps : List (Int × Int × Int)) (g : Nat) : List Int := (codeE ps g 0).2.1 ++ [0] ++ [0]

theorem one_len {ps : List (Int × Int × Int)} {g n : Nat} (h : n = ([] ++ (codeE ps g 0).1 ++ [(3, 0)] ++ [(18, 0)]).length) (h2 : (fullE ps g).length ≤ 4096) : (n : Int) ≤ 4096 := by
  rw [h, List.nil_append]; exact Int.ofNat_le.2 h2
theorem code_6 {w : World} {E Bd : Nat} {vt vf : Value} {nm : ByteArray} {ar : Int} {vl vp vout vorg vlo vk : Value} {out : List (Int × Int)} {org : List Int} (h : CodeAt w E Bd vt vf nm ar vl vp vout vorg vlo vk out org) : w.cell? ⟨Bd, 6, none⟩ = some vout := code_cell h 6
theorem code_7 {w : World} {E Bd : Nat} {vt vf : Value} {nm : ByteArray} {ar : Int} {vl vp vout vorg vlo vk : Value} {out : List (Int × Int)} {org : List Int} (h : CodeAt w E Bd vt vf nm ar vl vp vout vorg vlo vk out org) : w.cell? ⟨Bd, 7, none⟩ = some vorg := code_cell h 7

/-- What compiling one function leaves. -/
def OnePost (w : World) (mem : Int) (f : Fun) (g : Nat) (e : Ending) (w' : World) : Prop := ∃ gF cF gO cO vout vorg, e = .returned (.tuple #[.agg #[.int .i64 mem, .slice none 0 0, .slice (some ⟨gF, 0, none⟩) 1 cF], .slice (some ⟨gO, 0, none⟩) 1 cO, .int .i64 0]) ∧ w.grownBy w' none ∧
  (w.heap.size ≤ gF ∧ w.heap.size ≤ gO ∧ (∀ k, vout.ownBlock = some k → w.heap.size ≤ k) ∧ (∀ k, vorg.ownBlock = some k → w.heap.size ≤ k)) ∧
  w'.cell? ⟨gF, 0, none⟩ = some (.int .i64 f.args) ∧ w'.cell? ⟨gF, 1, none⟩ = some (.int .i64 f.locals.length) ∧ w'.cell? ⟨gF, 2, none⟩ = some (.int .i64 1) ∧ w'.cell? ⟨gF, 3, none⟩ = some vout ∧ w'.cell? ⟨gO, 0, none⟩ = some vorg ∧
  w'.ownsRow 0 75 2 vout (fullE f.parts g).length (flat2 (fullE f.parts g)) ∧ w'.ownsRow 0 3 1 vorg (fullO f.parts g).length ((fullO f.parts g).map (Value.int .i64))

theorem one_w {w3 w6 : World} {Bd bc b6 M B : Nat} {vt vf : Value} {nm : ByteArray} {ar : Int} {vl : Value} {pp : Option Addr} {cp : Nat} {ps : List (Int × Int × Int)} {g : Nat} (h : AE w3 w6 Bd bc b6 M vt vf nm ar vl (.slice pp ps.length cp)) (hp : PartsB w3 B pp ps) (hB : B ≤ w3.heap.size) (hnp : ps.length ≤ 17592186044415)
    (hpl : plainT ps g 0 = true) (h1 : (codeE ps g 0).1.length ≤ 1000000000000) (h2 : (codeE ps g 0).2.1.length ≤ 1000000000000) :
    Calls Try.prog 43 #[.pointer (some ⟨Bd, 0, none⟩), .int .i64 0] (w6.setCell ⟨Bd, 9, none⟩ (.map (some M))) (WPost (w6.setCell ⟨Bd, 9, none⟩ (.map (some M))) w6.heap.size Bd vt vf nm ar vl (.slice pp ps.length cp) (.slice none 0 0) (.slice none 0 0) (.slice none 0 0) (.map (some M)) [] [] (codeE ps g 0)) :=
  write_any w6.heap.size Bd bc b6 M cp vt vf nm ar vl pp ps hnp (.slice none 0 0) g 0 (.slice none 0 0) (.slice none 0 0) [] [] _ hpl (one_b h) (one_e h hp hB) (by simpa using h1) (by simpa using h2)

/-- When the one function is done. -/
def OneDone (w wr : World) (mem : Int) (f : Fun) (g P0 R0 : Nat) (v : Value) : Prop := ∃ gF cF gO cO vout vorg, v = .slice (some ⟨gO, 0, none⟩) 1 cO ∧
  wr.heap[P0]? = some (.cells #[.int .i64 mem, .slice none 0 0, .slice (some ⟨gF, 0, none⟩) 1 cF] 32 (0, 0)) ∧
  wr.heap[R0]? = some (.cells #[.int .i64 0, .slice none 0 0, .slice none 0 0] 32 (0, 0)) ∧ w.grownBy wr none ∧ P0 ≠ R0 ∧ w.heap.size ≤ P0 ∧ w.heap.size ≤ R0 ∧
  (R0 < gF ∧ R0 < gO ∧ (∀ k, vout.ownBlock = some k → R0 < k) ∧ (∀ k, vorg.ownBlock = some k → R0 < k)) ∧
  wr.cell? ⟨gF, 0, none⟩ = some (.int .i64 f.args) ∧ wr.cell? ⟨gF, 1, none⟩ = some (.int .i64 f.locals.length) ∧ wr.cell? ⟨gF, 2, none⟩ = some (.int .i64 1) ∧ wr.cell? ⟨gF, 3, none⟩ = some vout ∧ wr.cell? ⟨gO, 0, none⟩ = some vorg ∧
  wr.ownsRow 0 75 2 vout (fullE f.parts g).length (flat2 (fullE f.parts g)) ∧ wr.ownsRow 0 3 1 vorg (fullO f.parts g).length ((fullO f.parts g).map (Value.int .i64))

theorem one_slice (p : Option Addr) (n k : Nat) : ∀ u ∈ [Value.slice p n k], u.oneCell' = true := by intro u hu; simp at hu; subst hu; rfl

theorem own_base {w : World} {base : Nat} {e : TypeId} {size n : Nat} {v : Value} {xs : List Value} (h : w.ownsRow base e size v n xs) : w.ownsRow 0 e size v n xs := by
  refine ⟨h.1, ?_⟩
  rcases h.2 with h | ⟨g, cap, cur, e1, e2, e3⟩
  · exact Or.inl h
  · exact Or.inr ⟨g, cap, cur, e1, Nat.zero_le _, e3⟩

theorem one_done {w wr w10 w11 w16 : World} {E Bd P0 g1 n1 k1 g2 n2 k2 gF cF gO cO : Nat} {vt vf : Value} {nm : ByteArray} {f : Fun} {g : Nat} {vl vp vlo vk : Value} {out : List (Int × Int)} {org : List Int} {mem : Int} {o : Obj}
    (A : AM w wr w10 E Bd vt vf nm f.args vl vp (.slice (some ⟨g1, 0, none⟩) n1 k1) (.slice (some ⟨g2, 0, none⟩) n2 k2) vlo vk out org) (hout : out = fullE f.parts g) (horg : org = fullO f.parts g)
    (hP : wr.heap[P0]? = some (.cells #[.int .i64 mem, .slice none 0 0, .slice none 0 0] 32 (0, 0))) (hR : wr.heap[w.heap.size + 1]? = some (.cells #[.int .i64 0, .slice none 0 0, .slice none 0 0] 32 (0, 0))) (hwP : w.heap.size + 1 < P0)
    (h11 : w10.grownBy w11 none) (own13 : w11.ownsRow w10.heap.size 73 4 (.slice (some ⟨gF, 0, none⟩) 1 cF) 1 [.int .i64 f.args, .int .i64 f.locals.length, .int .i64 1, .slice (some ⟨g1, 0, none⟩) n1 k1])
    (h16 : ((w11.setCell ⟨P0, 2, none⟩ (.slice (some ⟨gF, 0, none⟩) 1 cF)).alloc o).grownBy w16 none) (own16 : w16.ownsRow w11.heap.size 47 1 (.slice (some ⟨gO, 0, none⟩) 1 cO) 1 [.slice (some ⟨g2, 0, none⟩) n2 k2]) :
    OneDone w w16 mem f g P0 (w.heap.size + 1) (.slice (some ⟨gO, 0, none⟩) 1 cO) := by
  have hP0 := (Array.getElem?_eq_some_iff.1 hP).1
  have eB := A.eB
  have hE := A.code.lt
  have hE2 := A.code.le
  have hz11 := h11.size
  have hP11 := box_moved (am_low A hP) h11 (by simp)
  have hR11 := box_moved (am_low A hR) h11 (by simp)
  have bF := (own13.lt gF rfl).1
  have b1 := (A.code.out.lt g1 rfl).1
  have b2 := (A.code.org.lt g2 rfl).1
  have bO := (own16.lt gO rfl).1
  have hset : w11.grownBy (w11.setCell ⟨P0, 2, none⟩ (.slice (some ⟨gF, 0, none⟩) 1 cF)) (some P0) := grownBy_set w11 P0 2 _
  have hal : (w11.setCell ⟨P0, 2, none⟩ (.slice (some ⟨gF, 0, none⟩) 1 cF)).grownBy w16 none := grownBy_trans (World.grownBy_alloc _ o none) h16
  have cF' : ∀ j u, [Value.int .i64 f.args, .int .i64 f.locals.length, .int .i64 1, .slice (some ⟨g1, 0, none⟩) n1 k1][j]? = some u → w16.cell? ⟨gF, j, none⟩ = some u := by
    intro j u hj
    have hc := own13.cells (g := gF) rfl j u hj
    have ea : (⟨gF, 0, none⟩ : Addr).add j = ⟨gF, j, none⟩ := by
      unfold Addr.add
      by_cases hj0 : j = 0
      · subst hj0; simp
      · simp [hj0]
    rw [ea] at hc
    exact hal.cell (hset.cell hc (by simp; omega)) (by simp)
  refine ⟨gF, cF, gO, cO, .slice (some ⟨g1, 0, none⟩) n1 k1, .slice (some ⟨g2, 0, none⟩) n2 k2, rfl, ?_, ?_, ?_, by omega, by omega, by omega, ⟨by omega, by omega, fun k e => by simp [Value.ownBlock] at e; omega, fun k e => by simp [Value.ownBlock] at e; omega⟩,
    cF' 0 _ rfl, cF' 1 _ rfl, cF' 2 _ rfl, cF' 3 _ rfl, ?_, ?_, ?_⟩
  · refine box_moved ?_ hal (by simp)
    rw [heap_set_box hP11]; rfl
  · exact box_moved (box_moved hR11 hset (by simp; omega)) hal (by simp)
  · exact grow_new (r := none) (b := P0) (grownBy_trans A.gr h11) (grownBy_trans hset (grow_w hal)) (by omega)
  · have hc := own16.cells (g := gO) rfl 0 _ rfl
    simpa [Addr.add] using hc
  · rw [← hout]
    exact own_base (((A.code.out.kept h11 (Classical.em _)).kept hset (Or.inr (by simp [Value.ownBlock]; omega))).kept hal (Classical.em _))
  · rw [← horg]
    exact own_base (((A.code.org.kept h11 (Classical.em _)).kept hset (Or.inr (by simp [Value.ownBlock]; omega))).kept hal (Classical.em _))

set_option maxRecDepth 100000 in
set_option maxHeartbeats 4000000 in
theorem compile_one (u : Un) (f : Fun) (g : Nat) (hut : u.texts = []) (huf : u.funcs = [f]) (hck : checkE u = 0) (hu : UnWF u) (mem : Int) (hm0 : 0 ≤ mem) (hm1 : mem ≤ 65536) (hpl : plainT f.parts g 0 = true) (hl1 : (fullE f.parts g).length ≤ 4096) (hl2 : (fullO f.parts g).length ≤ 4096)
    (pt pf : Option Addr) (ct cf B : Nat) (w : World) (hU : UnitAt w B pt pf u) :
    Calls Try.prog 27 #[.agg #[.slice pt 0 ct, .slice pf 1 cf], .int .i64 mem] w (OnePost w mem f g) := by
  have hlt : u.texts.length = 0 := by rw [hut]; rfl
  have hlf : u.funcs.length = 1 := by rw [huf]; rfl
  have hcA := fun w' (hU' : UnitAt w' B pt pf u) => check_any u hu pt pf ct cf B w' hU'
  rw [hck, hlt, hlf] at hcA
  have CA := Lib.hid hcA
  have hsA : ∀ w' : World, Calls Try.prog 41 #[.slice pt 0 ct] w' fun e w'' => e = .returned (.int .i64 0) ∧ w'.grownBy w'' none := fun w' => size_any [] (by simp) (fun x hx => absurd hx (by simp)) pt ct 0 w' (fun h => absurd h (by simp)) (Nat.zero_le _)
  have SA := Lib.hid hsA
  have UU := Lib.hid hU
  have m0 : ¬ mem < 0 := by omega
  have m1 : ¬ 65536 < mem := by omega
  clear hcA hsA hU
  go_enter Try.func27, Try.ntmps27
  go_wp2_with (first
    | (go_at_call 22; refine (CA.out _ (unitAt_kept UU.out (grownBy_trans (World.grownBy_alloc w _ none) (World.grownBy_alloc _ _ none)) (by simp))).mono ?_; rintro e w1 ⟨rfl, hg1⟩; have G1 := Lib.hid hg1; have b0 := hg1.cell (a := ⟨w.heap.size, 0, none⟩) (v := .slice pt 0 ct) (by simp) (by simp); have b1 := hg1.cell (a := ⟨w.heap.size, 1, none⟩) (v := .slice pf 1 cf) (by simp) (by simp); have hz1 := size_lt2 hg1; clear hg1)
    | (go_at_call 41; refine (SA.out _).mono ?_; rintro e w2 ⟨rfl, hg2⟩; have G2 := Lib.hid hg2; have d0 := hg2.cell (a := ⟨w.heap.size, 0, none⟩) (v := .slice pt 0 ct) b0 (by simp); have d1 := hg2.cell (a := ⟨w.heap.size, 1, none⟩) (v := .slice pf 1 cf) b1 (by simp); have hz2 := Nat.lt_of_lt_of_le hz1 hg2.size; have hz3 := Nat.lt_of_succ_lt hz2; clear hg2))
  have g3 : w.grownBy (w2.alloc (.cells #[.int .i64 mem, .slice none 0 0, .slice none 0 0] 32)) none := grownBy_trans (grownBy_trans (grownBy_trans (grownBy_trans (World.grownBy_alloc w _ none) (World.grownBy_alloc _ _ none)) G1.out) G2.out) (World.grownBy_alloc _ _ none)
  have r3 : (w2.alloc (.cells #[.int .i64 mem, .slice none 0 0, .slice none 0 0] 32)).heap[w.heap.size + 1]? = some (.cells #[.int .i64 0, .slice none 0 0, .slice none 0 0] 32 (0, 0)) :=
    box_moved (box_moved (box_moved (box_two w _ _) G1.out (by simp)) G2.out (by simp)) (World.grownBy_alloc _ _ none) (by simp)
  have p3 : (w2.alloc (.cells #[.int .i64 mem, .slice none 0 0, .slice none 0 0] 32)).heap[w2.heap.size]? = some (.cells #[.int .i64 mem, .slice none 0 0, .slice none 0 0] 32 (0, 0)) := heap_alloc_new _ _
  have u3 : BoxU (w2.alloc (.cells #[.int .i64 mem, .slice none 0 0, .slice none 0 0] 32)) w.heap.size (.slice pt 0 ct) (.slice pf 1 cf) :=
    boxU_kept (boxU_kept (boxU_kept (boxU_kept (boxU_new w _ _) (World.grownBy_alloc _ _ none) (by simp)) G1.out (by simp)) G2.out (by simp)) (World.grownBy_alloc _ _ none) (by simp)
  have hw23 : w2.heap.size < (w2.alloc (.cells #[.int .i64 mem, .slice none 0 0, .slice none 0 0] 32)).heap.size := by simp
  generalize w2.alloc (.cells #[.int .i64 mem, .slice none 0 0, .slice none 0 0] 32) = w3 at *
  have G3 := Lib.hid g3
  have P3 := Lib.hid p3
  have R3 := Lib.hid r3
  have U3 := Lib.hid u3
  have e0 := boxU_0 u3
  have e1 := boxU_1 u3
  have hz4 : w.heap.size < w3.heap.size := boxU_lt u3
  clear g3 p3 r3 u3 d0 d1 b0 b1 G1 G2
  generalize hP0 : w2.heap.size = P0 at *
  clear hP0
  go_loop [39] (fun i => i = .int .i64 0) (fun _ => 0)
  case atStart => exact rfl
  case round =>
    subst hrel
    go_wp2
    obtain ⟨bF, oF, rfl, hbF, hcF⟩ := UU.out.funcs (by omega)
    obtain ⟨q0, q1, ⟨pl, cl, q2, _⟩, ⟨pp, cp, q3, hpp⟩⟩ := hcF 0 f (by rw [huf]; rfl)
    simp only [Nat.zero_mul, Nat.add_zero] at q0 q1 q2 q3
    have hBw := UU.out.le
    replace q0 := G3.out.cell q0 (by simp)
    replace q1 := G3.out.cell q1 (by simp)
    replace q2 := G3.out.cell q2 (by simp)
    replace q3 := G3.out.cell q3 (by simp)
    have hbF3 : bF < w3.heap.size := by omega
    have hB3 : B ≤ w3.heap.size := by omega
    have PP := Lib.hid (partsB_kept hpp G3.out (by simp))
    have hnm := hu.name f (by rw [huf]; exact List.mem_cons_self ..)
    have hnp := hnm.2.2.1
    have hle1 : (codeE f.parts g 0).1.length ≤ 1000000000000 := by simp only [fullE, List.length_append, List.length_cons, List.length_nil] at *; omega
    have hle2 : (codeE f.parts g 0).2.1.length ≤ 1000000000000 := by simp only [fullO, List.length_append, List.length_cons, List.length_nil] at *; omega
    have hle3 : (([] : List (Int × Int)) ++ (codeE f.parts g 0).1 ++ [(3, 0)]).length ≤ 1000000000000 := by simp only [fullE, List.length_append, List.length_cons, List.length_nil] at *; omega
    have hle4 : (([] : List Int) ++ (codeE f.parts g 0).2.1 ++ [0]).length ≤ 1000000000000 := by simp only [fullO, List.length_append, List.length_cons, List.length_nil] at *; omega
    have HL := Lib.hid (And.intro hle1 (And.intro hle2 (And.intro hle3 hle4)))
    have HC := Lib.hid (And.intro hl1 hl2)
    clear hcF hpp hnm hle1 hle2 hle3 hle4 hl1 hl2 hu CA SA
    obtain ⟨fi, fi0, fi1, fi2, fi3⟩ := info_parts func_info
    obtain ⟨ii, ii0, ii1, ii2, ii3⟩ := info_parts ints_info
    go_loopw [11, 53] (fun v i wr => (i = .int .i64 0 ∧ v = .slice none 0 0 ∧ wr = w3) ∨ (i = .int .i64 1 ∧ OneDone w wr mem f g P0 (w.heap.size + 1) v)) (fun _ i _ => 1 - (intOf i).toNat)
    case atStart => exact Or.inl ⟨rfl, rfl, rfl⟩
    case round =>
      rcases hrel with ⟨rfl, rfl, rfl⟩ | ⟨rfl, hd⟩
      · go_wp2_with (first
          | (go_at_call 42; refine (ends_any _ _).mono ?_; intro e w6 hp; obtain ⟨bc, b6, M, rfl, hA⟩ := one_a hp; have A6 := Lib.hid hA; have WA := Lib.hid (one_w (g := g) hA PP.out hB3 hnp hpl HL.out.1 HL.out.2.1); have d9 := cell_of_row w6 _ 9 _ _ _ hA.hb; have z9 := frozen_of_row w6 _ 9 _ _ hA.hb; have hlt6 := (Array.getElem?_eq_some_iff.1 hA.hb).1; clear hA hp)
          | (go_at_call 43; refine WA.out.mono ?_; intro e w8 hp; obtain ⟨rfl, hsp, vo8, vg8, hC8, hrow⟩ := hp; have S8 := Lib.hid hsp; have C8 := Lib.hid hC8; have R8 := Lib.hid hrow; have E9 := Lib.hid (emit_any _ _ _ _ _ _ _ _ _ _ _ _ _ _ 0 3 0 _ hC8 HL.out.1 HL.out.2.1); clear hsp hC8 hrow)
          | (go_at_call 44; refine E9.out.mono ?_; clear E9; intro e w9 hp; obtain ⟨rfl, hsp, vo9, vg9, hC9, hrow⟩ := hp; have S9 := Lib.hid hsp; have C9 := Lib.hid hC9; have R9 := Lib.hid hrow; have E10 := Lib.hid (emit_any _ _ _ _ _ _ _ _ _ _ _ _ _ _ 0 18 0 _ hC9 HL.out.2.2.1 HL.out.2.2.2); clear hsp hC9 hrow)
          | (go_at_call 44; refine E10.out.mono ?_; clear E10; intro e w10 hp; obtain ⟨rfl, hsp, vo, vg, hC10, hrow⟩ := hp; obtain ⟨g1, k1, n1, hv1, hn1⟩ := own_len hC10.out; subst hv1; obtain ⟨g2, k2, n2, hv2, hn2⟩ := own_len hC10.org; subst hv2; have hn3 := one_len hn1 HC.out.1; have HN1 := Lib.hid hn1; have HN2 := Lib.hid hn2; have c6 := code_6 hC10; have c7 := code_7 hC10; have hlt10 := Nat.lt_of_lt_of_le hC10.lt hC10.le; have hA10 := one_m A6.out rfl G3.out S8.out R8.out S9.out R9.out hsp hC10; have A10 := Lib.hid hA10; have hP10 := am_low hA10 P3.out; have k0 := prog_2 hP10; have z0 := frozen_of_row w10 P0 2 _ _ hP10; have k1c := am_1 hA10; have k2c := am_2 hA10; have hlP := (Array.getElem?_eq_some_iff.1 hP10).1; have hlC := (Array.getElem?_eq_some_iff.1 hA10.cp).1; clear hA10; clear hsp hC10 hrow hn1 hn2))
        have hCP : wr.heap.size ≠ P0 := by have := (Array.getElem?_eq_some_iff.1 P3.out).1; omega
        have hBP : wr.heap.size + 1 ≠ P0 := by have := (Array.getElem?_eq_some_iff.1 P3.out).1; omega
        generalize hC0 : wr.heap.size = C0 at *
        generalize hBd : C0 + 1 = Bd at *
        obtain ⟨v13, w11, hrun13, hown13, hgr13, _⟩ := run_append_own (P := Try.prog) (w10.drew.alloc (.cells #[.int .i64 f.args, .int .i64 f.locals.length, .int .i64 1, .slice (some ⟨g1, 0, none⟩) n1 k1] 73)) w10.heap.size 30 30 73 fi (.agg #[.int .i64 0, .int .i64 0, .int .i64 0, .slice none 0 0]) 4 48 func_und fi0 fi1 fi2 fi3 rfl (by decide) (.slice none 0 0) 0 [] (World.ownsRow_nil _ _ _ _) ⟨w10.heap.size, 0, none⟩ 1 1 [.int .i64 f.args, .int .i64 f.locals.length, .int .i64 1, .slice (some ⟨g1, 0, none⟩) n1 k1] rfl (four_new w10 _ _ _ _ _) (four_cell _ _ _ _ _ _) (by decide) (by decide) (by simp)
        obtain ⟨gF, cF, rfl⟩ := own_succ hown13
        have hg11 : w10.grownBy w11 none := grown_keep hgr13
        have k0' := hg11.cell k0 (by simp)
        have hP11 := box_moved hP10 hg11 (by simp)
        have z0' := frozen_of_row w11 P0 2 _ _ hP11
        refine region_rj (N := 104) (n := 16) (dst := dR) (val := vR P0 C0 Bd w10.heap.size f.args f.locals.length (.slice pl f.locals.length cl) (.slice (some ⟨g1, 0, none⟩) n1 k1) (.slice (some ⟨gF, 0, none⟩) 1 cF)) (WS := WS25 w10.drew (w10.drew.alloc (.cells #[.int .i64 f.args, .int .i64 f.locals.length, .int .i64 1, .slice (some ⟨g1, 0, none⟩) n1 k1] 73)) w11 (w11.setCell ⟨P0, 2, none⟩ (.slice (some ⟨gF, 0, none⟩) 1 cF))) (by kernel_rfl) rfl rfl (dag_of (by kernel_rfl)) (ws_start _ _ _ _) ?step ?fin
        case step =>
          intro l a w' i hJ hW hi
          have hi16 : i < 16 := by
            obtain ⟨_, o, ho, _⟩ := mem_ready.1 hi
            exact (Array.getElem?_eq_some_iff.1 ho).1
          have t8 : a.tmps.getD 8 undef = .pointer (some ⟨P0, 0, none⟩) := hJ.un 8 (fun i _ _ e => by have := dR_ge i; omega)
          have t13 : a.tmps.getD 13 undef = .pointer (some ⟨C0, 0, none⟩) := hJ.un 13 (fun i _ _ e => by have := dR_ge i; omega)
          have t14 : a.tmps.getD 14 undef = .pointer (some ⟨Bd, 0, none⟩) := hJ.un 14 (fun i _ _ e => by have := dR_ge i; omega)
          have keep4 : ∀ b o v, w10.cell? ⟨b, o, none⟩ = some v → b ≠ P0 → w'.cell? ⟨b, o, none⟩ = some v := by
            intro b o v hc hb
            rcases ws_any hW with rfl | rfl | rfl | rfl
            · exact hc
            · exact (World.grownBy_alloc w10.drew _ none).cell hc (by simp)
            · exact hg11.cell hc (by simp)
            · exact (grownBy_set w11 P0 2 _).cell (hg11.cell hc (by simp)) (by simpa using hb)
          have hun : l.getD i false = false := getD_both (mem_ready.1 hi).1
          rcases un_lt16 i hi16 with rfl | rfl | rfl | rfl | rfl | rfl | rfl | rfl | rfl | rfl | rfl | rfl | rfl | rfl | rfl | rfl
          · exact rg_value hJ rfl rfl rfl (by decide) (by decide) (dR_ne _ (by decide)) (w' := w') (by simp [execOp, Act.eval, t8, go_sem, vR]) (ws_same hW (by decide) (by decide) (by decide))
          · have e0 : a.tmps.getD 79 undef = .pointer (some ⟨P0, 2, none⟩) := (hJ.sl 0 (by decide) (listed_of hi 0 (by kernel_rfl)) (by decide))
            have hcell : w'.cell? ⟨P0, 2, none⟩ = some (.slice none 0 0) := by
              rcases ws_low hW hun with rfl | rfl
              · exact k0
              · exact (World.grownBy_alloc w10.drew _ none).cell k0 (by simp)
            exact rg_value hJ rfl rfl rfl (by decide) (by decide) (dR_ne _ (by decide)) (w' := w') (by simp [execOp, Act.eval, e0, hcell, go_sem, vR]) (ws_same hW (by decide) (by decide) (by decide))
          · exact rg_value hJ rfl rfl rfl (by decide) (by decide) (dR_ne _ (by decide)) (w' := w') (by simp [execOp, Act.eval, t13, go_sem, vR]) (ws_same hW (by decide) (by decide) (by decide))
          · have e2 : a.tmps.getD 81 undef = .pointer (some ⟨C0, 1, none⟩) := (hJ.sl 2 (by decide) (listed_of hi 2 (by kernel_rfl)) (by decide))
            have hcell := keep4 _ _ _ k1c hCP
            exact rg_value hJ rfl rfl rfl (by decide) (by decide) (dR_ne _ (by decide)) (w' := w') (by simp [execOp, Act.eval, e2, hcell, go_sem, vR]) (ws_same hW (by decide) (by decide) (by decide))
          · exact rg_value hJ rfl rfl rfl (by decide) (by decide) (dR_ne _ (by decide)) (w' := w') (by simp [execOp, Act.eval, t13, go_sem, vR]) (ws_same hW (by decide) (by decide) (by decide))
          · have e4 : a.tmps.getD 83 undef = .pointer (some ⟨C0, 2, none⟩) := (hJ.sl 4 (by decide) (listed_of hi 4 (by kernel_rfl)) (by decide))
            have hcell := keep4 _ _ _ k2c hCP
            exact rg_value hJ rfl rfl rfl (by decide) (by decide) (dR_ne _ (by decide)) (w' := w') (by simp [execOp, Act.eval, e4, hcell, go_sem, vR]) (ws_same hW (by decide) (by decide) (by decide))
          · have e5 : a.tmps.getD 84 undef = .slice pl f.locals.length cl := (hJ.sl 5 (by decide) (listed_of hi 5 (by kernel_rfl)) (by decide))
            exact rg_value hJ rfl rfl rfl (by decide) (by decide) (dR_ne _ (by decide)) (w' := w') (by simp [execOp, Act.eval, e5, go_sem, vR]) (ws_same hW (by decide) (by decide) (by decide))
          · exact rg_value hJ rfl rfl rfl (by decide) (by decide) (dR_ne _ (by decide)) (w' := w') (by simp [execOp, Act.eval, t14, go_sem, vR]) (ws_same hW (by decide) (by decide) (by decide))
          · have e7 : a.tmps.getD 86 undef = .pointer (some ⟨Bd, 0, none⟩) := (hJ.sl 7 (by decide) (listed_of hi 7 (by kernel_rfl)) (by decide))
            exact rg_value hJ rfl rfl rfl (by decide) (by decide) (dR_ne _ (by decide)) (w' := w') (by simp [execOp, Act.eval, e7, go_sem, vR]) (ws_same hW (by decide) (by decide) (by decide))
          · have e8 : a.tmps.getD 87 undef = .pointer (some ⟨Bd, 0, none⟩) := (hJ.sl 8 (by decide) (listed_of hi 8 (by kernel_rfl)) (by decide))
            exact rg_value hJ rfl rfl rfl (by decide) (by decide) (dR_ne _ (by decide)) (w' := w') (by simp [execOp, Act.eval, e8, go_sem, vR]) (ws_same hW (by decide) (by decide) (by decide))
          · have e9 : a.tmps.getD 88 undef = .pointer (some ⟨Bd, 6, none⟩) := (hJ.sl 9 (by decide) (listed_of hi 9 (by kernel_rfl)) (by decide))
            have hcell := keep4 _ _ _ c6 hBP
            exact rg_value hJ rfl rfl rfl (by decide) (by decide) (dR_ne _ (by decide)) (w' := w') (by simp [execOp, Act.eval, e9, hcell, go_sem, vR]) (ws_same hW (by decide) (by decide) (by decide))
          · have e3 : a.tmps.getD 82 undef = .int .i64 f.args := (hJ.sl 3 (by decide) (listed_of hi 3 (by kernel_rfl)) (by decide))
            have e6 : a.tmps.getD 85 undef = .int .i64 f.locals.length := (hJ.sl 6 (by decide) (listed_of hi 6 (by kernel_rfl)) (by decide))
            have e10 : a.tmps.getD 89 undef = .slice (some ⟨g1, 0, none⟩) n1 k1 := (hJ.sl 10 (by decide) (listed_of hi 10 (by kernel_rfl)) (by decide))
            exact rg_value hJ rfl rfl rfl (by decide) (by decide) (dR_ne _ (by decide)) (w' := w') (by rw [Array.getD_eq_getD_getElem?] at e3 e6 e10; simp [execOp, Act.eval, e3, e6, e10, go_sem, vR]) (ws_same hW (by decide) (by decide) (by decide))
          · have e11 : a.tmps.getD 90 undef = .agg #[.int .i64 f.args, .int .i64 f.locals.length, .int .i64 1, .slice (some ⟨g1, 0, none⟩) n1 k1] := (hJ.sl 11 (by decide) (listed_of hi 11 (by kernel_rfl)) (by decide))
            obtain ⟨rfl, hW'⟩ := ws_12 hW hun
            exact rg_value hJ rfl rfl rfl (by decide) (by decide) (dR_ne _ (by decide)) (by rw [Array.getD_eq_getD_getElem?] at e11; simp [execOp, Act.eval, e11, go_sem, vR]) hW'
          · have e1 : a.tmps.getD 80 undef = .slice none 0 0 := (hJ.sl 1 (by decide) (listed_of hi 1 (by kernel_rfl)) (by decide))
            have e12 : a.tmps.getD 91 undef = .slice (some ⟨w10.heap.size, 0, none⟩) 1 1 := (hJ.sl 12 (by decide) (listed_of hi 12 (by kernel_rfl)) (by decide))
            obtain ⟨rfl, hW'⟩ := ws_13 hW hun (listed_of hi 12 (by kernel_rfl)) (listed_of hi 1 (by kernel_rfl))
            exact rg_value hJ rfl rfl rfl (by decide) (by decide) (dR_ne _ (by decide)) (by simp [execOp, resolve, invoke, builtin, Act.eval, e1, e12, hrun13, Result.andThen, vR]) hW'
          · exact rg_value hJ rfl rfl rfl (by decide) (by decide) (dR_ne _ (by decide)) (w' := w') (by simp [execOp, Act.eval, t8, go_sem, vR]) (ws_same hW (by decide) (by decide) (by decide))
          · have e13 : a.tmps.getD 92 undef = .slice (some ⟨gF, 0, none⟩) 1 cF := (hJ.sl 13 (by decide) (listed_of hi 13 (by kernel_rfl)) (by decide))
            have e14 : a.tmps.getD 93 undef = .pointer (some ⟨P0, 2, none⟩) := (hJ.sl 14 (by decide) (listed_of hi 14 (by kernel_rfl)) (by decide))
            obtain ⟨rfl, hW'⟩ := ws_15 hW hun (listed_of hi 13 (by kernel_rfl))
            exact rg_skip hJ rfl rfl rfl (by decide) (by decide) (by simp [execOp, Act.eval, e13, e14, k0', z0', go_sem]) hW'
        case fin =>
          intro l a w' hJ hW hl
          have hw := ws_end hW (hl 15 (by decide))
          subst hw
          have hput := rj_end (aF := putsF _ dR (vR P0 C0 Bd w10.heap.size f.args f.locals.length (.slice pl f.locals.length cl) (.slice (some ⟨g1, 0, none⟩) n1 k1) (.slice (some ⟨gF, 0, none⟩) 1 cF)) 15) hJ hl (putsF_size rfl 15) (putsF_defers 15) (fun i hi hd => putsF_in rfl 15 (fun i j h1 h2 h3 => dR_ne j (by omega) i (by omega) h3) i (by by_cases h : i = 15 <;> first | omega | (subst h; exact absurd hd (by decide))) hd) (fun j hj => putsF_out 15 j (fun i hi => hj i (by omega)))
          subst hput
          clear hJ hW hl
          simp only [putsF, dR, vR, Act.put, Nat.reduceLT, if_true, ite_true, Nat.reduceAdd, List.setIfInBounds_toArray, List.set_cons_zero, List.set_cons_succ]
          have d7 : (w11.setCell ⟨P0, 2, none⟩ (.slice (some ⟨gF, 0, none⟩) 1 cF)).cell? ⟨Bd, 7, none⟩ = some (.slice (some ⟨g2, 0, none⟩) n2 k2) := (grownBy_set w11 P0 2 _).cell (hg11.cell c7 (by simp)) (by simpa using hBP)
          have hlt15 : Bd < (w11.setCell ⟨P0, 2, none⟩ (.slice (some ⟨gF, 0, none⟩) 1 cF)).heap.size := by rw [World.size_setCell]; exact Nat.lt_of_lt_of_le hlt10 hg11.size
          have hb16 : ∀ o, w11.heap.size ≤ ((w11.setCell ⟨P0, 2, none⟩ (.slice (some ⟨gF, 0, none⟩) 1 cF)).alloc o).heap.size := by intro o; simp
          have O13 := Lib.hid hown13
          have H11 := Lib.hid hg11
          clear hown13 hg11 hrun13 hgr13 k0' hP11 z0'
          go_wp2_with (at_builtin; refine wpList_append_own_at _ rfl _ _ 41 rfl w11.heap.size 47 ii (.slice none 0 0) 1 24 ints_und ii0 ii1 ii2 ii3 rfl (by decide) _ _ _ rfl (World.ownsRow_nil _ _ _ _) ⟨w11.heap.size, 0, none⟩ 1 1 [.slice (some ⟨g2, 0, none⟩) n2 k2] rfl rfl (one_set w11 P0 2 _ _ _) (one_slice _ _ _) (by decide) (by decide) (hb16 _) ?_; intro v16 w16 hown16 hgr16 hnil16 hat16; obtain ⟨gO, cO, hvO⟩ := own_succ hown16; subst hvO; have O16 := Lib.hid hown16; have G16 := Lib.hid hgr16; clear hown16 hgr16 hnil16 hat16)
          go_roundw
          case rel => exact Or.inr ⟨by go_num, one_done A10.out rfl rfl P3.out R3.out hz2 H11.out O13.out G16.out O16.out⟩
          case measure => simp [intOf]
      · obtain ⟨gF, cF, gO, cO, vout, vorg, rfl, hP, hR, hgr, hne, hP0, hR0, ⟨d1, d2, d3, d4⟩, k0, k1, k2, k3, k4, o1, o2⟩ := hd
        have p0 := cell_of_row wr P0 0 _ _ _ hP
        have p1 := cell_of_row wr P0 1 _ _ _ hP
        have p2 := cell_of_row wr P0 2 _ _ _ hP
        have r0 := cell_of_row wr _ 0 _ _ _ hR
        have r1 := cell_of_row wr _ 1 _ _ _ hR
        have r2 := cell_of_row wr _ 2 _ _ _ hR
        have z0 := frozen_of_row wr _ 0 _ _ hR
        have z1 := frozen_of_row wr _ 1 _ _ hR
        have z2 := frozen_of_row wr _ 2 _ _ hR
        have hlP := (Array.getElem?_eq_some_iff.1 hP).1
        have hlR := (Array.getElem?_eq_some_iff.1 hR).1
        have HH := Lib.hid (And.intro k0 (And.intro k1 (And.intro k2 (And.intro k3 (And.intro k4 (And.intro o1 o2))))))
        have HGR := Lib.hid hgr
        clear k0 k1 k2 k3 k4 o1 o2 hgr hP hR
        go_wp2
        refine bodyPost_ret (v := .tuple #[.agg #[.int .i64 mem, .slice none 0 0, .slice (some ⟨gF, 0, none⟩) 1 cF], .slice (some ⟨gO, 0, none⟩) 1 cO, .int .i64 0]) ?_ rfl ?_
        · rw [results_cell_tmp2 rfl]
          go_simp
        · obtain ⟨k0, k1, k2, k3, k4, o1, o2⟩ := HH.out
          have hT : wr.grownBy (((wr.setCell ⟨w.heap.size + 1, 0, none⟩ (.int .i64 mem)).setCell ⟨w.heap.size + 1, 1, none⟩ (.slice none 0 0)).setCell ⟨w.heap.size + 1, 2, none⟩ (.slice (some ⟨gF, 0, none⟩) 1 cF)) (some (w.heap.size + 1)) :=
            grownBy_trans (grownBy_trans (grownBy_set wr _ 0 _) (grownBy_set _ _ 1 _)) (grownBy_set _ _ 2 _)
          exact ⟨gF, cF, gO, cO, vout, vorg, rfl, grow_new HGR.out hT (by omega), ⟨by omega, by omega, fun k e => by have := d3 k e; omega, fun k e => by have := d4 k e; omega⟩, hT.cell k0 (by simp; omega), hT.cell k1 (by simp; omega), hT.cell k2 (by simp; omega), hT.cell k3 (by simp; omega), hT.cell k4 (by simp; omega), o1.kept hT (Or.inr (fun e => by have := d3 _ e; omega)), o2.kept hT (Or.inr (fun e => by have := d4 _ e; omega))⟩

end Go.Proofs.Ytecaolkbllbokaa.TG

namespace Go.Proofs.Ytecaolkbllbokaa.TG
open Go.RowKit Go.Great
set_option linter.unusedSimpArgs false
set_option linter.unusedVariables false

def CompPost (w : World) (mem : Int) (f : Fun) (g : Nat) (e : Ending) (w' : World) : Prop := ∃ gF cF vout, e = .returned (.tuple #[.agg #[.int .i64 mem, .slice none 0 0, .slice (some ⟨gF, 0, none⟩) 1 cF], .int .i64 0]) ∧ w.grownBy w' none ∧ w'.cell? ⟨gF, 3, none⟩ = some vout ∧
  w'.ownsRow 0 75 2 vout (fullE f.parts g).length (flat2 (fullE f.parts g))
def OrigPost (w : World) (f : Fun) (g : Nat) (e : Ending) (w' : World) : Prop := ∃ gO cO vorg, e = .returned (.tuple #[.slice (some ⟨gO, 0, none⟩) 1 cO, .int .i64 0]) ∧ w.grownBy w' none ∧ w'.cell? ⟨gO, 0, none⟩ = some vorg ∧
  w'.ownsRow 0 3 1 vorg (fullO f.parts g).length ((fullO f.parts g).map (Value.int .i64))

set_option maxRecDepth 100000 in
set_option maxHeartbeats 4000000 in
theorem comp_one (u : Un) (f : Fun) (g : Nat) (hut : u.texts = []) (huf : u.funcs = [f]) (hck : checkE u = 0) (hu : UnWF u) (mem : Int) (hm0 : 0 ≤ mem) (hm1 : mem ≤ 65536) (hpl : plainT f.parts g 0 = true) (hl1 : (fullE f.parts g).length ≤ 4096) (hl2 : (fullO f.parts g).length ≤ 4096)
    (pt pf : Option Addr) (ct cf B : Nat) (w : World) (hU : UnitAt w B pt pf u) :
    Calls Try.prog 11 #[.agg #[.slice pt 0 ct, .slice pf 1 cf], .int .i64 mem] w (CompPost w mem f g) := by
  have CO := Lib.hid (fun w' (h : UnitAt w' B pt pf u) => compile_one u f g hut huf hck hu mem hm0 hm1 hpl hl1 hl2 pt pf ct cf B w' h)
  have UU := Lib.hid hU
  clear hU hu hut huf hck hpl hl1 hl2
  go_enter Try.func11, Try.ntmps11
  go_wp2_with (go_at_call 27; refine (CO.out _ (unitAt_kept UU.out (grownBy_trans (World.grownBy_alloc w _ none) (World.grownBy_alloc _ _ none)) (by simp))).mono ?_; intro e w1 hp; obtain ⟨gF, cF, gO, cO, vout, vorg, rfl, hg, ⟨b1, b2, b3, b4⟩, k0, k1, k2, k3, k4, o1, o2⟩ := hp; have hR := box_moved (box_two w _ _) hg (by simp); have r0 := cell_of_row w1 _ 0 _ _ _ hR; have r1 := cell_of_row w1 _ 1 _ _ _ hR; have r2 := cell_of_row w1 _ 2 _ _ _ hR; have z0 := frozen_of_row w1 _ 0 _ _ hR; have z1 := frozen_of_row w1 _ 1 _ _ hR; have z2 := frozen_of_row w1 _ 2 _ _ hR; have hlR := (Array.getElem?_eq_some_iff.1 hR).1; have HH := Lib.hid (And.intro k3 (And.intro o1 (And.intro b1 b3))); have HG := Lib.hid hg; clear k0 k1 k2 k3 k4 o1 o2 b1 b2 b3 b4 hg hR)
  refine bodyPost_ret (v := .tuple #[.agg #[.int .i64 mem, .slice none 0 0, .slice (some ⟨gF, 0, none⟩) 1 cF], .int .i64 0]) ?_ rfl ?_
  · rw [results_cell_tmp rfl]
    go_simp
  · obtain ⟨k3, o1, b1, b3⟩ := HH.out
    simp only [World.size_alloc] at b1 b3
    have hT : w1.grownBy ((((w1.setCell ⟨w.heap.size + 1, 0, none⟩ (.int .i64 mem)).setCell ⟨w.heap.size + 1, 1, none⟩ (.slice none 0 0)).setCell ⟨w.heap.size + 1, 2, none⟩ (.slice (some ⟨gF, 0, none⟩) 1 cF)).alloc (.cells #[.int .i64 mem, .slice none 0 0, .slice (some ⟨gF, 0, none⟩) 1 cF] 32)) (some (w.heap.size + 1)) :=
      grownBy_trans (grownBy_trans (grownBy_trans (grownBy_set w1 _ 0 _) (grownBy_set _ _ 1 _)) (grownBy_set _ _ 2 _)) (World.grownBy_alloc _ _ _)
    exact ⟨gF, cF, vout, rfl, grow_new (grownBy_trans (grownBy_trans (World.grownBy_alloc w _ none) (World.grownBy_alloc _ _ none)) HG.out) hT (by omega), hT.cell k3 (by simp; omega), o1.kept hT (Or.inr (fun e => by have := b3 _ e; omega))⟩

set_option maxRecDepth 100000 in
set_option maxHeartbeats 4000000 in
theorem orig_one (u : Un) (f : Fun) (g : Nat) (hut : u.texts = []) (huf : u.funcs = [f]) (hck : checkE u = 0) (hu : UnWF u) (hpl : plainT f.parts g 0 = true) (hl1 : (fullE f.parts g).length ≤ 4096) (hl2 : (fullO f.parts g).length ≤ 4096)
    (pt pf : Option Addr) (ct cf B : Nat) (w : World) (hU : UnitAt w B pt pf u) :
    Calls Try.prog 15 #[.agg #[.slice pt 0 ct, .slice pf 1 cf]] w (OrigPost w f g) := by
  have CO := Lib.hid (fun w' (h : UnitAt w' B pt pf u) => compile_one u f g hut huf hck hu 65536 (by decide) (by decide) hpl hl1 hl2 pt pf ct cf B w' h)
  have UU := Lib.hid hU
  clear hU hu hut huf hck hpl hl1 hl2
  go_enter Try.func15, Try.ntmps15
  go_wp2_with (go_at_call 27; refine (CO.out _ (unitAt_kept UU.out (World.grownBy_alloc w _ none) (by simp))).mono ?_; intro e w1 hp; obtain ⟨gF, cF, gO, cO, vout, vorg, rfl, hg, ⟨b1, b2, b3, b4⟩, k0, k1, k2, k3, k4, o1, o2⟩ := hp; have HH := Lib.hid (And.intro k4 o2); have HG := Lib.hid hg; clear k0 k1 k2 k3 k4 o1 o2 b1 b2 b3 b4 hg)
  refine bodyPost_ret (v := .tuple #[.slice (some ⟨gO, 0, none⟩) 1 cO, .int .i64 0]) ?_ rfl ?_
  · rw [results_tmp2 rfl]
    go_simp
  · have hT : w1.grownBy (w1.alloc (.cells #[.int .i64 65536, .slice none 0 0, .slice (some ⟨gF, 0, none⟩) 1 cF] 32)) none := World.grownBy_alloc _ _ _
    exact ⟨gO, cO, vorg, rfl, grownBy_trans (grownBy_trans (World.grownBy_alloc w _ none) HG.out) hT, hT.cell HH.out.1 (by simp), HH.out.2.kept hT (Classical.em _)⟩

def fuelE (s : Int) : Int := 8 * min (max s 0) 1048576

theorem fuel_any (s : Int) (w : World) : Calls Try.prog 18 #[.int .i64 s] w fun e w' => e = .returned (.int .i64 (fuelE s)) ∧ w = w' := by
  unfold fuelE
  go_enter Try.func18, Try.ntmps18
  go_wp2
  all_goals (go_ret; exact ⟨ret_int (by first | rfl | omega | (simp; omega)), rfl⟩)

theorem rfuel_any (s : Int) (w : World) : Calls Try.prog 19 #[.int .i64 s] w fun e w' => e = .returned (.int .i64 (fuelE s)) ∧ w = w' := by
  unfold fuelE
  by_cases c1 : s < 0
  · go_enter Try.func19, Try.ntmps19
    go_wp2
    go_ret
    exact ⟨ret_int (by omega), rfl⟩
  by_cases c2 : 1048576 < s
  · go_enter Try.func19, Try.ntmps19
    go_wp2
    go_ret
    exact ⟨ret_int (by omega), rfl⟩
  · go_enter Try.func19, Try.ntmps19
    go_wp2
    go_ret
    exact ⟨ret_int (by go_num), rfl⟩

end Go.Proofs.Ytecaolkbllbokaa.TG

namespace Go.Proofs.Ytecaolkbllbokaa.TG
open Go.RowKit Go.Great
set_option linter.unusedSimpArgs false
set_option linter.unusedVariables false

def sumF : Fun := { name := ByteArray.mk #[109, 97, 105, 110], args := 0, locals := [], parts := [(1, 0, 1), (9, 0, 1), (20, 20, 2), (12, 1, 0), (12, 2, 0)] }
def sumU : Un := { texts := [], funcs := [sumF] }

theorem sum_check : checkE sumU = 0 := by kernel_rfl
theorem sum_plain : plainT sumF.parts 4 0 = true := by kernel_rfl
theorem sum_code : fullE sumF.parts 4 = [(3, 1), (3, 2), (20, 0), (18, 0), (3, 0), (18, 0)] := by kernel_rfl
theorem sum_orig : fullO sumF.parts 4 = [3, 4, 2, 1, 0, 0] := by kernel_rfl
theorem sum_wf : UnWF sumU := ⟨by decide, by decide, fun x hx => absurd hx (by simp [sumU]), fun f hf => by
  have : f = sumF := by simpa [sumU] using hf
  subst this
  exact ⟨by decide, by decide, by decide, fun s hs => absurd hs (by simp [sumF])⟩⟩

def SumPost (w : World) (e : Ending) (w' : World) : Prop := ∃ bF, e = .returned (.agg #[.slice none 0 0, .slice (some ⟨bF, 0, none⟩) 1 1]) ∧ w.grownBy w' none ∧ UnitAt w' w'.heap.size none (some ⟨bF, 0, none⟩) sumU

theorem results_cell1 {fn : Func} {p : Tmp} {ty : TypeId} (h : fn.results = #[.cell p ty]) (tmps : Array Value) (P : Program) (w : World) :
    (results fn tmps).run P w = ((asAddr (tmps.getD p undef)).run P w).andThen fun a w₁ => (loadVar ty a).run P w₁ := by
  simp only [results, h]
  simp [Sem.run_bind, Result.andThen]

theorem sum_post (w W : World) (hW : W = ((w.alloc (.cells #[.slice none 0 0, .slice (some ⟨w.heap.size + 1 + 1, 0, none⟩) 1 1] 25)).alloc (.cells #[.int .i64 1, .int .i64 0, .int .i64 1, .int .i64 9, .int .i64 0, .int .i64 1, .int .i64 20, .int .i64 20, .int .i64 2, .int .i64 12, .int .i64 1, .int .i64 0, .int .i64 12, .int .i64 2, .int .i64 0] 108)).alloc
      (.cells #[.string (ByteArray.mk #[109, 97, 105, 110]), .int .i64 0, .slice none 0 0, .slice (some ⟨w.heap.size + 1, 0, none⟩) 5 5] 69)) :
    SumPost w (.returned (.agg #[.slice none 0 0, .slice (some ⟨w.heap.size + 1 + 1, 0, none⟩) 1 1])) W := by
  have h2 : W.heap[w.heap.size + 1 + 1]? = some (.cells #[.string (ByteArray.mk #[109, 97, 105, 110]), .int .i64 0, .slice none 0 0, .slice (some ⟨w.heap.size + 1, 0, none⟩) 5 5] 69 (0, 0)) := by
    rw [hW]
    have := heap_alloc2_new (w.alloc (.cells #[.slice none 0 0, .slice (some ⟨w.heap.size + 1 + 1, 0, none⟩) 1 1] 25)) (.cells #[.int .i64 1, .int .i64 0, .int .i64 1, .int .i64 9, .int .i64 0, .int .i64 1, .int .i64 20, .int .i64 20, .int .i64 2, .int .i64 12, .int .i64 1, .int .i64 0, .int .i64 12, .int .i64 2, .int .i64 0] 108) (.cells #[.string (ByteArray.mk #[109, 97, 105, 110]), .int .i64 0, .slice none 0 0, .slice (some ⟨w.heap.size + 1, 0, none⟩) 5 5] 69)
    rw [World.size_alloc] at this
    exact this
  have h1 : W.heap[w.heap.size + 1]? = some (.cells #[.int .i64 1, .int .i64 0, .int .i64 1, .int .i64 9, .int .i64 0, .int .i64 1, .int .i64 20, .int .i64 20, .int .i64 2, .int .i64 12, .int .i64 1, .int .i64 0, .int .i64 12, .int .i64 2, .int .i64 0] 108 (0, 0)) := by
    rw [hW]
    have := heap_alloc2_old (w.alloc (.cells #[.slice none 0 0, .slice (some ⟨w.heap.size + 1 + 1, 0, none⟩) 1 1] 25)) (.cells #[.int .i64 1, .int .i64 0, .int .i64 1, .int .i64 9, .int .i64 0, .int .i64 1, .int .i64 20, .int .i64 20, .int .i64 2, .int .i64 12, .int .i64 1, .int .i64 0, .int .i64 12, .int .i64 2, .int .i64 0] 108) (.cells #[.string (ByteArray.mk #[109, 97, 105, 110]), .int .i64 0, .slice none 0 0, .slice (some ⟨w.heap.size + 1, 0, none⟩) 5 5] 69)
    rw [World.size_alloc] at this
    exact this
  have l1 := (Array.getElem?_eq_some_iff.1 h1).1
  have l2 := (Array.getElem?_eq_some_iff.1 h2).1
  have hg : w.grownBy W none := by rw [hW]; exact grownBy_trans (grownBy_trans (World.grownBy_alloc _ _ _) (World.grownBy_alloc _ _ _)) (World.grownBy_alloc _ _ _)
  refine ⟨w.heap.size + 1 + 1, rfl, hg, Nat.le_refl _, fun h0 => absurd h0 (by simp [sumU]), fun _ => ⟨w.heap.size + 1 + 1, 0, rfl, l2, fun i f hi => ?_⟩⟩
  have hi0 : i = 0 ∧ f = sumF := by
    match i, hi with
    | 0, hi => exact ⟨rfl, (Option.some.inj hi).symm⟩
    | i + 1, hi => cases hi
  obtain ⟨rfl, rfl⟩ := hi0
  refine ⟨cell_of_row W _ 0 _ _ _ h2, cell_of_row W _ 1 _ _ _ h2, ⟨none, 0, cell_of_row W _ 2 _ _ _ h2, fun h0 => absurd h0 (by simp [sumF])⟩, ⟨some ⟨w.heap.size + 1, 0, none⟩, 5, cell_of_row W _ 3 _ _ _ h2, fun _ => ⟨w.heap.size + 1, 0, rfl, l1, fun j k n kc hj => ?_⟩⟩⟩
  match j, hj with
  | 0, hj => cases hj; exact ⟨cell_of_row W _ 0 _ _ _ h1, cell_of_row W _ 1 _ _ _ h1, cell_of_row W _ 2 _ _ _ h1⟩
  | 1, hj => cases hj; exact ⟨cell_of_row W _ 3 _ _ _ h1, cell_of_row W _ 4 _ _ _ h1, cell_of_row W _ 5 _ _ _ h1⟩
  | 2, hj => cases hj; exact ⟨cell_of_row W _ 6 _ _ _ h1, cell_of_row W _ 7 _ _ _ h1, cell_of_row W _ 8 _ _ _ h1⟩
  | 3, hj => cases hj; exact ⟨cell_of_row W _ 9 _ _ _ h1, cell_of_row W _ 10 _ _ _ h1, cell_of_row W _ 11 _ _ _ h1⟩
  | 4, hj => cases hj; exact ⟨cell_of_row W _ 12 _ _ _ h1, cell_of_row W _ 13 _ _ _ h1, cell_of_row W _ 14 _ _ _ h1⟩
  | j + 5, hj => cases hj

set_option maxRecDepth 100000 in
set_option maxHeartbeats 4000000 in
theorem sum_any (w : World) : Calls Try.prog 24 #[] w (SumPost w) := by
  go_enter Try.func24, Try.ntmps24
  go_wp2
  refine bodyPost_ret (v := .agg #[.slice none 0 0, .slice (some ⟨w.heap.size + 1 + 1, 0, none⟩) 1 1]) ?_ rfl ?_
  · rw [results_cell1 rfl]
    go_simp
  · exact sum_post w _ rfl

theorem flat_six {w : World} {v : Value} {l : List (Int × Int)} (h : w.ownsRow 0 75 2 v l.length (flat2 l)) (hl : l = [(3, 1), (3, 2), (20, 0), (18, 0), (3, 0), (18, 0)]) :
    ∃ g1 k1, v = .slice (some ⟨g1, 0, none⟩) 6 k1 ∧ g1 < w.heap.size ∧ w.cell? ⟨g1, 4, none⟩ = some (.int .i64 20) := by
  subst hl
  obtain ⟨g1, k1, hv⟩ := own_succ (n := 5) h
  subst hv
  refine ⟨g1, k1, rfl, (h.lt g1 rfl).2, ?_⟩
  have := h.cells (g := g1) rfl 4 (.int .i64 20) rfl
  simpa [Addr.add] using this

theorem orig_six {w : World} {v : Value} {l : List Int} (h : w.ownsRow 0 3 1 v l.length (l.map (Value.int .i64))) (hl : l = [3, 4, 2, 1, 0, 0]) :
    ∃ g1 k1, v = .slice (some ⟨g1, 0, none⟩) 6 k1 ∧ g1 < w.heap.size ∧ w.cell? ⟨g1, 0, none⟩ = some (.int .i64 3) := by
  subst hl
  obtain ⟨g1, k1, hv⟩ := own_succ (n := 5) h
  subst hv
  refine ⟨g1, k1, rfl, (h.lt g1 rfl).2, ?_⟩
  have := h.cells (g := g1) rfl 0 (.int .i64 3) rfl
  simpa [Addr.add] using this

theorem fuel3 (w : World) : Calls Try.prog 18 #[.int .i64 3] w fun e w' => e = .returned (.int .i64 24) ∧ w = w' := fuel_any 3 w

/-- What head's look at the program wants. -/
structure HC (w : World) (gF : Nat) (cF g1 k1 : Nat) : Prop where
  c3 : w.cell? ⟨gF, 3, none⟩ = some (.slice (some ⟨g1, 0, none⟩) 6 k1)
  c4 : w.cell? ⟨g1, 4, none⟩ = some (.int .i64 20)
  l1 : gF < w.heap.size
  l2 : g1 < w.heap.size
theorem hc_kept {w w' : World} {gF cF g1 k1 : Nat} (h : HC w gF cF g1 k1) (g : w.grownBy w' none) : HC w' gF cF g1 k1 :=
  ⟨g.cell h.c3 (by simp), g.cell h.c4 (by simp), Nat.lt_of_lt_of_le h.l1 g.size, Nat.lt_of_lt_of_le h.l2 g.size⟩
theorem hc_of {w w' : World} {e : Ending} (h : CompPost w 0 sumF 4 e w') : ∃ gF cF g1 k1, e = .returned (.tuple #[.agg #[.int .i64 0, .slice none 0 0, .slice (some ⟨gF, 0, none⟩) 1 cF], .int .i64 0]) ∧ w.grownBy w' none ∧ HC w' gF cF g1 k1 := by
  obtain ⟨gF, cF, vout, he, hg, hc, ho⟩ := h
  obtain ⟨g1, k1, rfl, h2, h4⟩ := flat_six ho sum_code
  exact ⟨gF, cF, g1, k1, he, hg, hc, h4, World.block_lt_of_cell? _ _ hc, h2⟩
structure HO (w : World) (gO : Nat) (g1 k1 : Nat) : Prop where
  c0 : w.cell? ⟨gO, 0, none⟩ = some (.slice (some ⟨g1, 0, none⟩) 6 k1)
  c1 : w.cell? ⟨g1, 0, none⟩ = some (.int .i64 3)
  l1 : gO < w.heap.size
  l2 : g1 < w.heap.size
theorem ho_of {w w' : World} {e : Ending} (h : OrigPost w sumF 4 e w') : ∃ gO cO g1 k1, e = .returned (.tuple #[.slice (some ⟨gO, 0, none⟩) 1 cO, .int .i64 0]) ∧ w.grownBy w' none ∧ HO w' gO g1 k1 := by
  obtain ⟨gO, cO, vorg, he, hg, hc, ho⟩ := h
  obtain ⟨g1, k1, rfl, h2, h4⟩ := orig_six ho sum_orig
  exact ⟨gO, cO, g1, k1, he, hg, hc, h4, World.block_lt_of_cell? _ _ hc, h2⟩

set_option maxRecDepth 100000 in
set_option maxHeartbeats 4000000 in
theorem head_true (w : World) : Calls Try.prog 9 #[] w fun e w' => e = .returned (.bool true) ∧ w.grownBy w' none := by
  have CO := Lib.hid (fun bF w' (h : UnitAt w' w'.heap.size none (some ⟨bF, 0, none⟩) sumU) => comp_one sumU sumF 4 rfl rfl sum_check sum_wf 0 (by decide) (by decide) sum_plain (by rw [sum_code]; decide) (by rw [sum_orig]; decide) none (some ⟨bF, 0, none⟩) 0 1 w'.heap.size w' h)
  have OR := Lib.hid (fun bF w' (h : UnitAt w' w'.heap.size none (some ⟨bF, 0, none⟩) sumU) => orig_one sumU sumF 4 rfl rfl sum_check sum_wf sum_plain (by rw [sum_code]; decide) (by rw [sum_orig]; decide) none (some ⟨bF, 0, none⟩) 0 1 w'.heap.size w' h)
  go_enter Try.func9, Try.ntmps9
  have S0 : True := trivial
  go_wp2_with (first
    | (go_at_call 24; have hz := S0; clear S0 hz; refine (sum_any _).mono ?_; intro e w1 hp; obtain ⟨bF, rfl, hg1, hu1⟩ := hp; have U1 := Lib.hid hu1; have G1 := Lib.hid hg1; clear hg1 hu1)
    | (go_at_call 11; refine (CO.out bF _ U1.out).mono ?_; intro e w2 hp; obtain ⟨gF, cF, g1, k1, rfl, hg2, hc2⟩ := hc_of hp; have G2 := Lib.hid hg2; have H2 := Lib.hid hc2; clear hg2 hc2 hp)
    | (go_at_call 24; refine (sum_any _).mono ?_; intro e w3 hp; obtain ⟨bF3, rfl, hg3, hu3⟩ := hp; have U3 := Lib.hid hu3; have G3 := Lib.hid hg3; have p2 := hg3.cell (a := ⟨w2.heap.size, 2, none⟩) (v := .slice (some ⟨gF, 0, none⟩) 1 cF) (by simp) (by simp); have hz3 := size_lt hg3; clear hg3 hu3)
    | (go_at_call 15; refine (OR.out bF3 _ U3.out).mono ?_; intro e w4 hp; obtain ⟨gO, cO, g2, k2, rfl, hg4, ho4⟩ := ho_of hp; have G4 := Lib.hid hg4; have q2 := hg4.cell p2 (by simp); have hz4 := Nat.lt_of_lt_of_le hz3 hg4.size; have hK := hc_kept (hc_kept (hc_kept H2.out (World.grownBy_alloc _ _ none)) G3.out) hg4; obtain ⟨x3, x4, x5, x6⟩ := hK; obtain ⟨y0, y1, y2, y3⟩ := ho4; clear hg4 hp)
    | (go_at_call 18; refine (fuel3 _).mono ?_; rintro e w5 ⟨rfl, rfl⟩))
  go_ret
  exact ⟨rfl, grownBy_trans (grownBy_trans (grownBy_trans (grownBy_trans G1.out G2.out) (World.grownBy_alloc _ _ none)) G3.out) G4.out⟩

end Go.Proofs.Ytecaolkbllbokaa.TG

namespace Go.Proofs.Ytecaolkbllbokaa.TG
open Go.RowKit Go.ChangeShapes Go.WideShapes
set_option linter.unusedSimpArgs false
set_option linter.unusedVariables false

theorem keptBut_grown {w w' : World} (h : w.grownBy w' none) (may : MemPlace → Prop) : w.keptBut w' may := by
  refine ⟨h.os, h.output, fun i hi => ?_⟩
  rw [h.block i hi (by simp)]
  cases w.heap[i]? with
  | none => rfl
  | some o =>
    cases o with
    | cells c t fr => exact ⟨rfl, rfl, rfl, fun _ _ => rfl⟩
    | map es ck => exact Or.inr ⟨rfl, rfl⟩
    | _ => rfl

theorem frozen_grown {w w' : World} (h : w.grownBy w' none) (a : Addr) (ha : a.block < w.heap.size) : w'.frozen? a = w.frozen? a := by
  unfold World.frozen?
  rw [h.block a.block ha (by simp)]

theorem post_of_grown {H : Type} {enc : TypeId × Value → H} {P : Program} {f : Func} {s : ChangeSpec} {apart fresh handsOn again : Bool} {W W' : World} {args : Array Value} {v : Value} {ds gs : List (DataW H)} {before pa pv : List MemPlace}
    (hW : DataW.Whole enc P f.params.toList s.vars apart W args.toList ds gs before)
    (hres : ∀ (b : Nat) (sp : Nat → Bool) (hd : Bool), DataW.TrodAll enc P W' b sp hd f.resultTypes.toList (v.resultList f.resultTypes.size) (s.fn H (ds ++ gs)).results [])
    (hargs : ∀ sp : Nat → Bool, (∀ p ∈ before, sp p.block = true) → DataW.TrodAll enc P W' 0 sp true f.params.toList args.toList (s.fn H (ds ++ gs)).args pa)
    (hvars : ∀ sp : Nat → Bool, (∀ p ∈ before, sp p.block = true) → DataW.TrodVars enc P W' sp s.vars (s.fn H (ds ++ gs)).vars pv)
    (hps : before = pa ++ pv) (hg : W.grownBy W' none)
    (hok : ∀ (j : Nat) (t : TypeId) (r : Value), f.resultTypes[j]? = some t → (v.resultList f.resultTypes.size)[j]? = some r → Value.okWide P W' .any 0 t r) :
    s.post enc P f apart fresh handsOn again W args v W' := by
  subst hps
  have low := hW.lt
  have hold : ∀ p ∈ pa ++ pv, (fun b => decide (b < W.heap.size)) p.block = true := fun p hp => decide_eq_true (low p hp)
  have hall : ∀ p ∈ pa ++ pv, (fun _ : Nat => true) p.block = true := fun _ _ => rfl
  have hW0 := hW
  obtain ⟨_, _, _, _, _, hz, hn⟩ := hW0
  refine ⟨ds, gs, pa ++ pv, [], pa, pv, hW, hres _ _ _, hargs _ hold, hvars _ hold, keptBut_grown hg _, fun _ => ⟨hok, _, _, pa ++ pv, ⟨pa, pv, trodAll_append (p := []) (hargs _ hall) (hres _ _ _), hvars _ hall, rfl, ?_, hn⟩, fun p hp _ => hp⟩⟩
  intro b off hp
  rw [frozen_grown hg _ (low _ hp)]
  exact hz b off hp

end Go.Proofs.Ytecaolkbllbokaa.TG

namespace Go.Proofs.Ytecaolkbllbokaa.TG
open Go.ChangeShapes Go.WideShapes Go.ChangeAt Go.RowKit
set_option linter.unusedSimpArgs false
set_option linter.unusedVariables false

section
variable {H : Type} {enc : TypeId × Value → H} {P : Program}

theorem same_grown {W W' : World} (hg : W.grownBy W' none) {p : MemPlace} (hp : p.block < W.heap.size) : W.sameAt W' p := by
  have hb := hg.block p.block hp (by simp)
  cases p with
  | cell b off => exact World.cell?_of_block (w := W) hb
  | map b => exact hb

theorem args_grown (hl : laidOutB P = true) {W W' : World} {sp : Nat → Bool} (hg : W.grownBy W' none) :
    ∀ {ts : List TypeId} {vs : List Value} {ds : List (DataW H)} {ps : List MemPlace}, (∀ t ∈ ts, P.readableRec t = true ∧ t < P.types.size) →
    DataW.TrodAll enc P W 0 (fun _ => true) true ts vs ds ps → (∀ p ∈ ps, p.block < W.heap.size) → (∀ p ∈ ps, sp p.block = true) → DataW.TrodAll enc P W' 0 sp true ts vs ds ps
  | [], [], [], _, _, h, _, _ => h
  | t :: ts, _ :: _, _ :: _, _, hr, ⟨p, q, h1, h2, e⟩, hlt, hs =>
    ⟨p, q, WideElems.Trod_stays hl (hr t (List.mem_cons.2 (Or.inl rfl))).1 (hr t (List.mem_cons.2 (Or.inl rfl))).2 h1
        (fun x hx => same_grown hg (hlt x (by rw [e]; exact List.mem_append_left _ hx)))
        (fun x hx => hs x (by rw [e]; exact List.mem_append_left _ hx)),
      args_grown hl hg (fun t ht => hr t (List.mem_cons.2 (Or.inr ht))) h2
        (fun x hx => hlt x (by rw [e]; exact List.mem_append_right _ hx)) (fun x hx => hs x (by rw [e]; exact List.mem_append_right _ hx)), e⟩

theorem law_post_g {f : Func} {s : ChangeSpec} {tb : TypeId} {apart fresh handsOn again : Bool} {W W' : World} {args : Array Value} {ds gs : List (DataW H)} {before : List MemPlace}
    (hl : laidOutB P = true) (hr : ∀ t ∈ f.params.toList, P.readableRec t = true ∧ t < P.types.size) (hv : s.vars = [])
    (hres : f.resultTypes = #[tb]) (hb : P.underlying tb = some .bool)
    (hW : DataW.Whole enc P f.params.toList s.vars apart W args.toList ds gs before)
    (hfn : gs = [] → s.fn H (ds ++ gs) = { results := [.lit (.bool true)], args := ds }) (hg : W.grownBy W' none) :
    s.post enc P f apart fresh handsOn again W args (.bool true) W' := by
  have hW' := hW
  obtain ⟨p, q, hA, hV, rfl, hfz, hnd⟩ := hW'
  have hgs : gs = [] ∧ q = [] := by
    rw [hv] at hV
    cases gs with
    | nil => exact ⟨rfl, hV⟩
    | cons g gs => exact absurd hV (fun h => h)
  obtain ⟨rfl, rfl⟩ := hgs
  have hf := hfn rfl
  refine post_of_grown (pa := p) (pv := []) hW (fun b sp hd => ?_) (fun sp hsp => ?_) (fun sp hsp => ?_) (by simp) hg ?_
  · rw [hf, hres]
    exact trodAll_cons_mk (shut_bool hb _) trodAll_mk0
  · rw [hf]
    exact args_grown hl hg hr hA (fun x hx => hW.lt x (List.mem_append_left _ hx)) (fun x hx => hsp x (List.mem_append_left _ hx))
  · rw [hf, hv]; exact rfl
  · exact ok_one hres rfl (okWide_bool_mk hb _)
end

end Go.Proofs.Ytecaolkbllbokaa.TG
