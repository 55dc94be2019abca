/-
  Walk of the reference's Compile, for a right unit and memory enough. Conditions: as each theorem states.
-/
import Derived.Test.YtecaolkbllbokaaMB28
namespace Go.Proofs.Ytecaolkbllbokaa.TG
open Go.RowKit Go.Great
set_option linter.unusedSimpArgs false
set_option linter.unusedVariables false

theorem run_append_bytes {w : World} (ty : TypeId) (base : Nat) (v : Value) (bs d : List Int) (hown : w.ownsRow base 5 1 v bs.length (bs.map (Value.int .u8))) (pd : Option Addr) (cd : Nat) (hpd : (pd = none ∧ cd = 0 ∧ d = []) ∨ ∃ ad, pd = some ad ∧ ∀ j x, (d.map (Value.int .u8))[j]? = some x → w.cell? (ad.add j) = some x)
    (hb : bs.length + d.length ≤ 1000000) (hbase : base ≤ w.heap.size) :
    ∃ v' w', (Builtin.append_ #[29, 29] ty #[v, .slice pd d.length cd]).run Try.prog w = .ok v' w' ∧ w'.ownsRow base 5 1 v' (bs.length + d.length) (bs.map (Value.int .u8) ++ d.map (Value.int .u8)) ∧ w.grownBy w' v.ownBlock := by
  obtain ⟨bi, bi0, bi1, bi2, bi3⟩ := info_parts byte_info
  rcases hpd with ⟨rfl, rfl, rfl⟩ | ⟨ad, rfl, hn⟩
  · exact ⟨v, w, run_append_owned_none (P := Try.prog) (w := w) base 29 ty 5 bi 1 byte_und bi0 v bs.length (bs.map (Value.int .u8)) hown, by simpa using hown, grow_w (grownBy_refl w none)⟩
  · obtain ⟨v', w', hr, ho', hg', _⟩ := run_append_own_at (P := Try.prog) (w := w) base 29 ty 5 bi (.int .u8 0) 1 1 byte_und bi0 bi1 bi2 bi3 rfl (by decide) v bs.length (bs.map (Value.int .u8)) hown ad d.length cd (d.map (Value.int .u8)) (by simp) hn (byte_cells d) (by unfold maxLen; omega) (by omega) hbase
    exact ⟨v', w', hr, ho', hg'⟩

/-! ### The region that appends a text's bytes to the data -/
def dT (i : Nat) : Nat := if i < 10 then 45 + i else 1000
def vT (P0 U0 bt ot q : Nat) (vd vts vdt v3 : Value) : Nat → Value
  | 0 => .pointer (some ⟨P0, 1, none⟩)
  | 1 => vd
  | 2 => .pointer (some ⟨U0, 0, none⟩)
  | 3 => vts
  | 4 => .int .i64 q
  | 5 => .pointer (some ⟨bt, ot + q * 2, none⟩)
  | 6 => .pointer (some ⟨bt, ot + q * 2 + 1, none⟩)
  | 7 => vdt
  | 8 => v3
  | 9 => .pointer (some ⟨P0, 1, none⟩)
  | _ => undef

structure WS12 (W w3 w4 : World) (l : Array Bool) (w : World) : Prop where
  st : (l.getD 8 false = false ∧ l.getD 10 false = false ∧ w = W) ∨ (l.getD 8 false = true ∧ l.getD 10 false = false ∧ w = w3) ∨ (l.getD 8 false = true ∧ l.getD 10 false = true ∧ w = w4)
  sz : l.size = 11
  c1 : l.getD 8 false = true → l.getD 1 false = true ∧ l.getD 3 false = true ∧ l.getD 7 false = true
  c3 : l.getD 5 false = true ∨ l.getD 6 false = true ∨ l.getD 7 false = true → l.getD 3 false = true

theorem wt_same {W w3 w4 w : World} {l : Array Bool} {i : Nat} (h : WS12 W w3 w4 l w) (h8 : i ≠ 8) (h10 : i ≠ 10) (hk : i = 5 ∨ i = 6 ∨ i = 7 → l.getD 3 false = true) : WS12 W w3 w4 (l.setIfInBounds i true) w := by
  have hgs : ∀ j, j ≠ i → (l.setIfInBounds i true).getD j false = l.getD j false := fun j hj => by
    simp [Array.getD_eq_getD_getElem?, Array.getElem?_setIfInBounds_ne (Ne.symm hj)]
  have hup : ∀ j, l.getD j false = true → (l.setIfInBounds i true).getD j false = true := fun j hj => by
    by_cases e : j = i
    · subst e
      have : j < l.size := by
        rcases Nat.lt_or_ge j l.size with h' | h'
        · exact h'
        · simp [Array.getElem?_eq_none h'] at hj
      simp [this]
    · rw [hgs j e]; exact hj
  refine ⟨?_, by simp [h.sz], fun h1 => ?_, fun h1 => ?_⟩
  · rw [hgs 8 (Ne.symm h8), hgs 10 (Ne.symm h10)]; exact h.st
  · rw [hgs 8 (Ne.symm h8)] at h1
    exact ⟨hup _ (h.c1 h1).1, hup _ (h.c1 h1).2.1, hup _ (h.c1 h1).2.2⟩
  · refine hup _ ?_
    by_cases e : i = 5 ∨ i = 6 ∨ i = 7
    · exact hk e
    · refine h.c3 ?_
      rw [hgs 5 (by omega), hgs 6 (by omega), hgs 7 (by omega)] at h1
      exact h1
theorem wt_8 {W w3 w4 w : World} {l : Array Bool} (h : WS12 W w3 w4 l w) (hun : l.getD 8 false = false) (h1 : l.getD 1 false = true) (h3 : l.getD 3 false = true) (h7 : l.getD 7 false = true) : w = W ∧ WS12 W w3 w4 (l.setIfInBounds 8 true) w3 := by
  have hgs : ∀ j, (l.setIfInBounds 8 true).getD j false = if j = 8 then true else l.getD j false := fun j => getD_set l 8 j (by rw [h.sz]; decide)
  rcases h.st with ⟨_, h2, e⟩ | ⟨h2, _⟩ | ⟨h2, _⟩
  · exact ⟨e, Or.inr (Or.inl ⟨by rw [hgs]; rfl, by rw [hgs]; exact h2, rfl⟩), by simp [h.sz], fun _ => ⟨by rw [hgs]; exact h1, by rw [hgs]; exact h3, by rw [hgs]; exact h7⟩, fun _ => by rw [hgs]; exact h3⟩
  · rw [h2] at hun; cases hun
  · rw [h2] at hun; cases hun
theorem wt_10 {W w3 w4 w : World} {l : Array Bool} (h : WS12 W w3 w4 l w) (hun : l.getD 10 false = false) (h8 : l.getD 8 false = true) : w = w3 ∧ WS12 W w3 w4 (l.setIfInBounds 10 true) w4 := by
  have hgs : ∀ j, (l.setIfInBounds 10 true).getD j false = if j = 10 then true else l.getD j false := fun j => getD_set l 10 j (by rw [h.sz]; decide)
  have hc := h.c1 h8
  rcases h.st with ⟨h2, _⟩ | ⟨_, _, e⟩ | ⟨_, h2, _⟩
  · rw [h2] at h8; cases h8
  · exact ⟨e, Or.inr (Or.inr ⟨by rw [hgs]; exact h8, by rw [hgs]; rfl, rfl⟩), by simp [h.sz], fun _ => ⟨by rw [hgs]; exact hc.1, by rw [hgs]; exact hc.2.1, by rw [hgs]; exact hc.2.2⟩, fun _ => by rw [hgs]; exact hc.2.1⟩
  · rw [h2] at hun; cases hun
theorem wt_end {W w3 w4 w : World} {l : Array Bool} (h : WS12 W w3 w4 l w) (h10 : l.getD 10 false = true) : w = w4 := by
  rcases h.st with ⟨_, h2, _⟩ | ⟨_, h2, _⟩ | ⟨_, _, e⟩
  · rw [h2] at h10; cases h10
  · rw [h2] at h10; cases h10
  · exact e
theorem wt_low {W w3 w4 w : World} {l : Array Bool} (h : WS12 W w3 w4 l w) (hun : l.getD 1 false = false ∨ l.getD 3 false = false ∨ l.getD 7 false = false) : w = W := by
  have key : l.getD 8 false = true → False := fun h2 => by
    obtain ⟨a, b, c⟩ := h.c1 h2
    rw [a, b, c] at hun
    simp at hun
  rcases h.st with ⟨_, _, e⟩ | ⟨h2, _⟩ | ⟨h2, _⟩
  · exact e
  · exact (key h2).elim
  · exact (key h2).elim
theorem wt_start (W w3 w4 : World) : WS12 W w3 w4 (Array.replicate 11 false) W :=
  ⟨Or.inl ⟨getD_replicate_false _ _, getD_replicate_false _ _, rfl⟩, by simp, (fun h => by rw [getD_replicate_false] at h; cases h), (fun h => by rw [getD_replicate_false, getD_replicate_false, getD_replicate_false] at h; simp at h)⟩
theorem dT_ge (i : Nat) : 45 ≤ dT i := by unfold dT; split <;> omega
theorem dT_ne : ∀ i, i < 11 → ∀ j, j < 11 → j ≠ i → dT j ≠ dT i := by decide
theorem un_lt11 (i : Nat) (h : i < 11) : i = 0 ∨ i = 1 ∨ i = 2 ∨ i = 3 ∨ i = 4 ∨ i = 5 ∨ i = 6 ∨ i = 7 ∨ i = 8 ∨ i = 9 ∨ i = 10 := by omega

/-! ### A function's instructions -/
/-- Where the loop over a function's lines stands. -/
structure RIn (wB wj : World) (F0 : Nat) (args len : Int) (R : List Ln) (j : Nat) (vc : Value) : Prop where
  gr : wB.grownBy wj (some F0)
  bx : wj.heap[F0]? = some (.cells #[.int .i64 args, .int .i64 len, .int .i64 1, vc] 73 (0, 0))
  own : wj.ownsRow wB.heap.size 75 2 vc j (flat2 (resolveL 0 (R.take j)))
  lt : F0 < wB.heap.size

theorem rin_start (w6 : World) (args len : Int) (R : List Ln) : RIn (w6.alloc (.cells #[.int .i64 args, .int .i64 len, .int .i64 1, .slice none 0 0] 73)).drew (w6.alloc (.cells #[.int .i64 args, .int .i64 len, .int .i64 1, .slice none 0 0] 73)).drew w6.heap.size args len R 0 (.slice none 0 0) :=
  ⟨grownBy_refl _ _, heap_alloc_new w6 _, World.ownsRow_nil _ _ _ _, by show _ < (w6.alloc _).heap.size; simp⟩

theorem rin_app {wB wj w5 : World} {F0 : Nat} {args len : Int} {R : List Ln} {j : Nat} {vc : Value} {o o2 : Obj} (h : RIn wB wj F0 args len R j vc) (g : ((wj.alloc o).alloc o2).grownBy w5 vc.ownBlock) :
    w5.heap[F0]? = some (.cells #[.int .i64 args, .int .i64 len, .int .i64 1, vc] 73 (0, 0)) ∧ wB.grownBy w5 (some F0) := by
  have hlt := h.lt
  have ne : vc.ownBlock ≠ some F0 := fun e => by have := (h.own.lt F0 e).1; omega
  have g2 : wB.grownBy ((wj.alloc o).alloc o2) (some F0) := grownBy_trans (grownBy_trans h.gr (World.grownBy_alloc _ _ _)) (World.grownBy_alloc _ _ _)
  refine ⟨box_moved (box_moved (box_moved h.bx (World.grownBy_alloc _ _ none) (by simp)) (World.grownBy_alloc _ _ none) (by simp)) g ne, ?_⟩
  cases hv : vc.ownBlock with
  | none => rw [hv] at g; exact grownBy_trans g2 (grow_w g)
  | some b => rw [hv] at g; exact grow_new g2 g (h.own.lt b hv).1

theorem rin_cells {wB wj w5 : World} {F0 : Nat} {args len : Int} {R : List Ln} {j : Nat} {vc : Value} {o o2 : Obj} (h : RIn wB wj F0 args len R j vc) (g : ((wj.alloc o).alloc o2).grownBy w5 vc.ownBlock) :
    w5.cell? ⟨F0, 3, none⟩ = some vc ∧ w5.frozen? ⟨F0, 3, none⟩ = false ∧ F0 < w5.heap.size := by
  have hb := (rin_app h g).1
  exact ⟨cell_of_row w5 F0 3 _ _ _ hb, frozen_of_row w5 F0 3 _ _ hb, (Array.getElem?_eq_some_iff.1 hb).1⟩

theorem rin_next {wB wj w5 : World} {F0 : Nat} {args len : Int} {R : List Ln} {j : Nat} {vc v5 : Value} {o o2 : Obj} {x : Ln} {a : Int} (h : RIn wB wj F0 args len R j vc) (hx : R[j]? = some x) (ha : a = bif x.j then x.a + (j : Int) else x.a) (g : ((wj.alloc o).alloc o2).grownBy w5 vc.ownBlock)
    (own : w5.ownsRow wB.heap.size 75 2 v5 (j + 1) (flat2 (resolveL 0 (R.take j)) ++ [.int .i64 x.op, .int .i64 a])) : RIn wB (w5.setCell ⟨F0, 3, none⟩ v5) F0 args len R (j + 1) v5 := by
  obtain ⟨hb, hg⟩ := rin_app h g
  subst ha
  have hlt := h.lt
  refine ⟨grownBy_trans hg (grownBy_set w5 F0 3 v5), by rw [heap_set_box hb]; rfl, ?_, hlt⟩
  rw [resolveL_take R j x hx, flat2_append]
  exact own.kept (grownBy_set w5 F0 3 v5) (Or.inr fun e => by have := (own.lt F0 e).1; omega)

theorem rbad {w wr w10 : World} {u : Un} {mem : Int} {vt vf : Value} {P0 k : Nat} {vd vF : Value} {rows : List Value} (h : RLoop w wr u mem vt vf P0 k vd vF rows) (g : wr.grownBy w10 none) (a b c : Value) :
    w.grownBy (((w10.setCell ⟨w.heap.size + 1, 0, none⟩ a).setCell ⟨w.heap.size + 1, 1, none⟩ b).setCell ⟨w.heap.size + 1, 2, none⟩ c) none := by
  have hT : w10.grownBy (((w10.setCell ⟨w.heap.size + 1, 0, none⟩ a).setCell ⟨w.heap.size + 1, 1, none⟩ b).setCell ⟨w.heap.size + 1, 2, none⟩ c) (some (w.heap.size + 1)) := grownBy_trans (grownBy_trans (grownBy_set w10 _ 0 _) (grownBy_set _ _ 1 _)) (grownBy_set _ _ 2 _)
  exact grow_new (grownBy_trans h.gr g) hT (by omega)

theorem bigR_true {u : Un} {k : Nat} {f : Fun} (hf : u.funcs[k]? = some f) (h : funOk u f = false) : bigR u = true := by
  unfold bigR
  rw [List.any_eq_true]
  exact ⟨f, List.mem_of_getElem? hf, by simpa using h⟩
theorem bigR_false {u : Un} (h : ∀ (k : Nat) (f : Fun), u.funcs[k]? = some f → funOk u f = true) : bigR u = false := by
  unfold bigR
  rw [List.any_eq_false]
  intro f hf
  obtain ⟨k, hk⟩ := List.mem_iff_getElem?.1 hf
  have := h k f hk
  simp [this]

theorem rmain_end {w wr : World} {u : Un} {mem : Int} {vt vf : Value} {P0 : Nat} {vd vF : Value} {rows : List Value} (h : RLoop w wr u mem vt vf P0 u.funcs.length vd vF rows) (a b c : Value) :
    RRes w (((wr.setCell ⟨w.heap.size + 1, 0, none⟩ a).setCell ⟨w.heap.size + 1, 1, none⟩ b).setCell ⟨w.heap.size + 1, 2, none⟩ c) u vd vF rows := by
  have hT : wr.grownBy (((wr.setCell ⟨w.heap.size + 1, 0, none⟩ a).setCell ⟨w.heap.size + 1, 1, none⟩ b).setCell ⟨w.heap.size + 1, 2, none⟩ c) (some (w.heap.size + 1)) := grownBy_trans (grownBy_trans (grownBy_set wr _ 0 _) (grownBy_set _ _ 1 _)) (grownBy_set _ _ 2 _)
  have oQ : ∀ {e : TypeId} {size n : Nat} {x : Value} {xs : List Value}, wr.ownsRow w.heap.size e size x n xs → e ≠ 32 → (((wr.setCell ⟨w.heap.size + 1, 0, none⟩ a).setCell ⟨w.heap.size + 1, 1, none⟩ b).setCell ⟨w.heap.size + 1, 2, none⟩ c).ownsRow w.heap.size e size x n xs := fun ho he => ho.kept hT (Or.inr (own_not_box ho h.rb he))
  exact ⟨h.len, grow_new h.gr hT (by omega), oQ h.dt (by decide), oQ h.fr (by decide), fun i vo f hi hf => oQ (h.each i vo f hi hf) (by decide)⟩

theorem rloop_cell {w wj w5 : World} {u : Un} {mem : Int} {vt vf : Value} {P0 k : Nat} {vd vF : Value} {rows : List Value} {o : Obj} (h : RLoop w wj u mem vt vf P0 k vd vF rows) (g : (wj.alloc o).grownBy w5 vF.ownBlock) :
    w5.cell? ⟨P0, 2, none⟩ = some vF ∧ w5.frozen? ⟨P0, 2, none⟩ = false ∧ P0 < w5.heap.size := by
  have hb := box_moved (box_moved h.pb (World.grownBy_alloc wj o none) (by simp)) g (own_not_box h.fr h.pb (by decide))
  exact ⟨cell_of_row w5 P0 2 _ _ _ hb, frozen_of_row w5 P0 2 _ _ hb, (Array.getElem?_eq_some_iff.1 hb).1⟩

theorem rin_code {wB wj : World} {F0 b : Nat} {args len : Int} {u : Un} {f : Fun} {vc : Value} (h : RIn wB wj F0 args len (funL u f) (funL u f).length vc) (hb : b ≤ wB.heap.size) : wj.ownsRow b 75 2 vc (codeR u f).length (flat2 (codeR u f)) := by
  have := own_lower h.own hb
  rw [List.take_length] at this
  unfold codeR; rw [resolveL_length]; exact this

theorem two_new2 (w : World) (o : Obj) (x y : Value) (t : TypeId) : ∀ j u, [x, y][j]? = some u → ((w.alloc o).alloc (.cells #[x, y] t)).cell? ((⟨w.heap.size + 1, 0, none⟩ : Addr).add j) = some u := by
  have h := two_new (w.alloc o) x y t
  rw [World.size_alloc] at h
  exact h
theorem four_new2 (w : World) (a b c d : Value) (t : TypeId) : ∀ j u, [a, b, c, d][j]? = some u → (w.alloc (.cells #[a, b, c, d] t)).cell? ((⟨w.heap.size, 0, none⟩ : Addr).add j) = some u := four_new w a b c d t

set_option maxRecDepth 100000 in
set_option maxHeartbeats 8000000 in
theorem rcompile_main (u : Un) (hu : UnWF u) (hck : checkE u = 0) (mem : Int) (hm0 : 0 ≤ mem) (hm1 : mem ≤ 65536) (hm2 : bytesTo u.texts u.texts.length ≤ mem)
    (pt pf : Option Addr) (ct cf B : Nat) (w : World) (hU : UnitAt w B pt pf u) (hcap : CapT w pt u) :
    Calls Try.prog 12 #[.agg #[.slice pt u.texts.length ct, .slice pf u.funcs.length cf], .int .i64 mem] w (RMainPost w u mem) := by
  have hr := right_of hck
  have hcA := fun w' (hU' : UnitAt w' B pt pf u) => rcheck_any u hu pt pf ct cf B w' hU'
  rw [hck] at hcA
  have CA := Lib.hid hcA
  have SA := Lib.hid (fun w' (hU' : UnitAt w' B pt pf u) => ahead_any u hu hr.nt u.texts.length (by omega) (Int.le_refl _) pt pf ct cf B w' hU')
  simp only [Int.toNat_natCast] at SA
  have UU := Lib.hid hU
  have HR := Lib.hid hr
  have HU := Lib.hid hu
  have HCAP := Lib.hid hcap
  have m0 : ¬ mem < 0 := by omega
  have m1 : ¬ 65536 < mem := by omega
  have m2 : ¬ mem < bytesTo u.texts u.texts.length := by omega
  have hnt := hr.nt
  have hnf := hr.nf
  clear hcA hU hr hck hu hcap
  go_enter Try.func12, Try.ntmps12
  go_wp2_with (first
    | (go_at_call 28; refine (CA.out _ (unitAt_kept UU.out (grownBy_trans (World.grownBy_alloc w _ none) (World.grownBy_alloc _ _ none)) (by simp))).mono ?_; rintro e w1 ⟨rfl, hg1⟩; have hUB := boxU_kept (boxU_kept (boxU_new w _ _) (World.grownBy_alloc _ _ none) (by simp)) hg1 (by simp); have b0 := boxU_0 hUB; have b1 := boxU_1 hUB; have hltB := boxU_lt hUB; have HU1 := Lib.hid (unitAt_kept UU.out (grownBy_trans (grownBy_trans (World.grownBy_alloc w _ none) (World.grownBy_alloc _ _ none)) hg1) (by simp)); have HB1 := Lib.hid hUB; have HG1 := Lib.hid hg1; clear hg1 hUB)
    | (go_at_call 29; refine (SA.out _ HU1.out).mono ?_; rintro e w2 ⟨rfl, hg2⟩; have hg3 := grownBy_trans HG1.out hg2; have hUB2 := boxU_kept HB1.out hg2 (by simp); have d0 := boxU_0 hUB2; have d1 := boxU_1 hUB2; have hlt2 := boxU_lt hUB2; have HB2 := Lib.hid hUB2; have HG := Lib.hid hg3; clear hg2 hg3 hUB2))
  have T0 : TLoop w (w2.alloc (.cells #[.int .i64 mem, .slice none 0 0, .slice none 0 0] 32)) u mem (.slice pt u.texts.length ct) (.slice pf u.funcs.length cf) w2.heap.size 0 (.slice none 0 0) [] := by
    have hz := HG.out.size
    rw [World.size_alloc, World.size_alloc] at hz
    refine ⟨heap_alloc_new _ _, box_moved (box_moved (box_two w _ _) HG.out (by simp)) (World.grownBy_alloc _ _ none) (by simp), by omega, grownBy_trans (grownBy_trans (grownBy_trans (World.grownBy_alloc w _ none) (World.grownBy_alloc _ _ none)) HG.out) (World.grownBy_alloc _ _ none), boxU_kept HB2.out (World.grownBy_alloc _ _ none) (by simp), World.ownsRow_nil _ _ _ _, rfl⟩
  have TT := Lib.hid T0
  clear T0 CA SA b0 b1 hltB HU1 HB1 HG1 HG HB2 m0 m1 m2 d0 d1
  generalize w2.heap.size = P0 at *
  go_loopw [8] (fun i wr => ∃ (q : Nat) (vd : Value) (bs : List Int), i = .int .i64 q ∧ q ≤ u.texts.length ∧ TLoop w wr u mem (.slice pt u.texts.length ct) (.slice pf u.funcs.length cf) P0 q vd bs) (fun i _ => u.texts.length - (intOf i).toNat)
  case atStart => exact ⟨0, _, [], rfl, Nat.zero_le _, TT.out⟩
  case round =>
    obtain ⟨q, vd, bs, rfl, hq, hT⟩ := hrel
    have T := Lib.hid hT
    have k1 := cell_of_row wr P0 1 _ _ _ hT.pb
    have kz := frozen_of_row wr P0 1 _ _ hT.pb
    have kl := (Array.getElem?_eq_some_iff.1 hT.pb).1
    have u0 := boxU_0 hT.ub
    have ul := boxU_lt hT.ub
    by_cases hlt : (q : Int) < (u.texts.length : Int)
    · obtain ⟨bt, ot, rfl, hbt, hct⟩ := UU.out.texts (by omega)
      obtain ⟨⟨nm, d⟩, hqd⟩ : ∃ x, u.texts[q]? = some x := ⟨_, List.getElem?_eq_getElem (by omega)⟩
      obtain ⟨e0, pd, cd, e1, hbd⟩ := hct q nm d hqd
      have HQD := Lib.hid hqd
      have hcd := HCAP.out q pd d.length cd bt ot rfl (by omega) e1
      have hBw := UU.out.le
      have hbw : bt < wr.heap.size := by have := hT.gr.size; omega
      have f0 := hT.gr.cell e0 (by simp)
      have f1 := hT.gr.cell e1 (by simp)
      have hbnd := tloop_bound hT hqd HR.out.by_
      have hgs := hT.gr.size
      have hpd : (pd = none ∧ cd = 0 ∧ d = []) ∨ ∃ ad, pd = some ad ∧ ∀ j x, (d.map (Value.int .u8))[j]? = some x → wr.drew.cell? (ad.add j) = some x := by
        cases pd with
        | none =>
          left
          refine ⟨rfl, hcd rfl, ?_⟩
          rcases Nat.eq_zero_or_pos d.length with h0 | h0
          · exact List.length_eq_zero_iff.1 h0
          · obtain ⟨b', o', e', _⟩ := hbd h0; cases e'
        | some ad =>
          right
          refine ⟨ad, rfl, ?_⟩
          rcases Nat.eq_zero_or_pos d.length with h0 | h0
          · have hd : d = [] := List.length_eq_zero_iff.1 h0
            subst hd
            intro j x hj; simp at hj
          · obtain ⟨b', o', e', hb', hc'⟩ := hbd h0
            injection e' with e'; subst e'
            exact byte_read fun i hi => (grownBy_drew (grownBy_refl wr none)).cell (hT.gr.cell (hc' i hi) (by simp)) (by simp)
      obtain ⟨v3, w3, hrun, hown3, hgr3⟩ := run_append_bytes (w := wr.drew) 29 w.heap.size vd bs d (hT.dt.kept (grownBy_drew (grownBy_refl wr none)) (Classical.em _)) pd cd hpd (by omega) hgs
      have TM := tloop_cell T.out (grownBy_trans (grownBy_drew (grownBy_refl wr _)) hgr3)
      obtain ⟨t1, t2, t3⟩ := TM
      have OW3 := Lib.hid hown3
      have GR3 := Lib.hid (grownBy_trans (grownBy_drew (grownBy_refl wr _)) hgr3)
      clear hct hqd hbd e0 e1 hT hcd hpd hown3 hgr3
      have U0 : w.heap.size < P0 := by have := T.out.hP; omega
      go_wp2
      refine region_rj (N := 119) (n := 11) (dst := dT) (val := (vT P0 w.heap.size bt ot q vd (.slice (some ⟨bt, ot, none⟩) u.texts.length ct) (.slice pd d.length cd) v3)) (WS := WS12 wr.drew w3 (w3.setCell ⟨P0, 1, none⟩ v3)) (by kernel_rfl) rfl rfl (dag_of (by kernel_rfl)) (wt_start _ _ _) ?step ?fin
      case step =>
        intro l a w' i hJ hW hi
        have hi11 : i < 11 := by
          obtain ⟨_, o, ho, _⟩ := mem_ready.1 hi
          exact (Array.getElem?_eq_some_iff.1 ho).1
        have s2 : a.tmps.getD 2 undef = .pointer (some ⟨w.heap.size, 0, none⟩) := hJ.un 2 (fun i _ _ e => by have := dT_ge i; omega)
        have s7 : a.tmps.getD 7 undef = .pointer (some ⟨P0, 0, none⟩) := hJ.un 7 (fun i _ _ e => by have := dT_ge i; omega)
        have s8 : a.tmps.getD 8 undef = .int .i64 q := hJ.un 8 (fun i _ _ e => by have := dT_ge i; omega)
        have hun : l.getD i false = false := getD_both (mem_ready.1 hi).1
        rcases un_lt11 i hi11 with rfl | rfl | rfl | rfl | rfl | rfl | rfl | rfl | rfl | rfl | rfl
        · exact rg_value hJ rfl rfl rfl (by decide) (by decide) (dT_ne _ (by decide)) (w' := w') (by simp [execOp, Act.eval, s7, go_sem, vT]) (wt_same hW (by decide) (by decide) (fun h => by simp at h))
        · have e0 : a.tmps.getD 45 undef = .pointer (some ⟨P0, 1, none⟩) := (hJ.sl 0 (by decide) (listed_of hi 0 (by kernel_rfl)) (by decide))
          obtain rfl := wt_low hW (Or.inl hun)
          have hcell : wr.drew.cell? ⟨P0, 1, none⟩ = some vd := k1
          exact rg_value hJ rfl rfl rfl (by decide) (by decide) (dT_ne _ (by decide)) (by simp [execOp, Act.eval, e0, hcell, go_sem, vT]) (wt_same hW (by decide) (by decide) (fun h => by simp at h))
        · exact rg_value hJ rfl rfl rfl (by decide) (by decide) (dT_ne _ (by decide)) (w' := w') (by simp [execOp, Act.eval, s2, go_sem, vT]) (wt_same hW (by decide) (by decide) (fun h => by simp at h))
        · have e2 : a.tmps.getD 47 undef = .pointer (some ⟨w.heap.size, 0, none⟩) := (hJ.sl 2 (by decide) (listed_of hi 2 (by kernel_rfl)) (by decide))
          obtain rfl := wt_low hW (Or.inr (Or.inl hun))
          have hcell : wr.drew.cell? ⟨w.heap.size, 0, none⟩ = some (.slice (some ⟨bt, ot, none⟩) u.texts.length ct) := u0
          exact rg_value hJ rfl rfl rfl (by decide) (by decide) (dT_ne _ (by decide)) (by simp [execOp, Act.eval, e2, hcell, go_sem, vT]) (wt_same hW (by decide) (by decide) (fun h => by simp at h))
        · exact rg_value hJ rfl rfl rfl (by decide) (by decide) (dT_ne _ (by decide)) (w' := w') (by simp [execOp, Act.eval, s8, go_sem, vT]) (wt_same hW (by decide) (by decide) (fun h => by simp at h))
        · have e3 : a.tmps.getD 48 undef = .slice (some ⟨bt, ot, none⟩) u.texts.length ct := (hJ.sl 3 (by decide) (listed_of hi 3 (by kernel_rfl)) (by decide))
          have e4 : a.tmps.getD 49 undef = .int .i64 q := (hJ.sl 4 (by decide) (listed_of hi 4 (by kernel_rfl)) (by decide))
          exact rg_value hJ rfl rfl rfl (by decide) (by decide) (dT_ne _ (by decide)) (w' := w') (by simp [execOp, Act.eval, e3, e4, go_sem, vT]; intro h; omega) (wt_same hW (by decide) (by decide) (fun _ => listed_of hi 3 (by kernel_rfl)))
        · have e5 : a.tmps.getD 50 undef = .pointer (some ⟨bt, ot + q * 2, none⟩) := (hJ.sl 5 (by decide) (listed_of hi 5 (by kernel_rfl)) (by decide))
          exact rg_value hJ rfl rfl rfl (by decide) (by decide) (dT_ne _ (by decide)) (w' := w') (by simp [execOp, Act.eval, e5, go_sem, vT]) (wt_same hW (by decide) (by decide) (fun _ => hW.c3 (Or.inl (listed_of hi 5 (by kernel_rfl)))))
        · have e6 : a.tmps.getD 51 undef = .pointer (some ⟨bt, ot + q * 2 + 1, none⟩) := (hJ.sl 6 (by decide) (listed_of hi 6 (by kernel_rfl)) (by decide))
          obtain rfl := wt_low hW (Or.inr (Or.inr hun))
          have hcell : wr.drew.cell? ⟨bt, ot + q * 2 + 1, none⟩ = some (.slice pd d.length cd) := f1
          exact rg_value hJ rfl rfl rfl (by decide) (by decide) (dT_ne _ (by decide)) (by simp [execOp, Act.eval, e6, hcell, go_sem, vT]) (wt_same hW (by decide) (by decide) (fun _ => hW.c3 (Or.inr (Or.inl (listed_of hi 6 (by kernel_rfl))))))
        · have e1 : a.tmps.getD 46 undef = vd := (hJ.sl 1 (by decide) (listed_of hi 1 (by kernel_rfl)) (by decide))
          have e7 : a.tmps.getD 52 undef = .slice pd d.length cd := (hJ.sl 7 (by decide) (listed_of hi 7 (by kernel_rfl)) (by decide))
          have l3 : l.getD 3 false = true := hW.c3 (Or.inr (Or.inr (listed_of hi 7 (by kernel_rfl))))
          obtain ⟨rfl, hW'⟩ := wt_8 hW hun (listed_of hi 1 (by kernel_rfl)) l3 (listed_of hi 7 (by kernel_rfl))
          exact rg_value hJ rfl rfl rfl (by decide) (by decide) (dT_ne _ (by decide)) (by simp [execOp, resolve, invoke, builtin, Act.eval, e1, e7, hrun, Result.andThen, vT]) hW'
        · exact rg_value hJ rfl rfl rfl (by decide) (by decide) (dT_ne _ (by decide)) (w' := w') (by simp [execOp, Act.eval, s7, go_sem, vT]) (wt_same hW (by decide) (by decide) (fun h => by simp at h))
        · have e8 : a.tmps.getD 53 undef = v3 := (hJ.sl 8 (by decide) (listed_of hi 8 (by kernel_rfl)) (by decide))
          have e9 : a.tmps.getD 54 undef = .pointer (some ⟨P0, 1, none⟩) := (hJ.sl 9 (by decide) (listed_of hi 9 (by kernel_rfl)) (by decide))
          obtain ⟨rfl, hW'⟩ := wt_10 hW hun (listed_of hi 8 (by kernel_rfl))
          obtain ⟨p3, c3, hv3⟩ := own_slice OW3.out
          subst hv3
          exact rg_skip hJ rfl rfl rfl (by decide) (by decide) (by simp [execOp, Act.eval, e8, e9, t1, t2, go_sem]) hW'
      case fin =>
        intro l a w' hJ hW hl
        have hw := wt_end hW (hl 10 (by decide))
        subst hw
        have hput := rj_end (aF := putsF _ dT (vT P0 w.heap.size bt ot q vd (.slice (some ⟨bt, ot, none⟩) u.texts.length ct) (.slice pd d.length cd) v3) 10) hJ hl (putsF_size rfl 10) (putsF_defers 10) (fun i hi hd => putsF_in rfl 10 (fun i j h1 h2 h3 => dT_ne j (by omega) i (by omega) h3) i (by by_cases h : i = 10 <;> first | omega | (subst h; exact absurd hd (by decide))) hd) (fun j hj => putsF_out 10 j (fun i hi => hj i (by omega)))
        subst hput
        clear hJ hW hl
        simp only [putsF, dT, vT, Act.put, Nat.reduceLT, if_true, ite_true, Nat.reduceAdd, List.setIfInBounds_toArray, List.set_cons_zero, List.set_cons_succ]
        go_wp2
        go_roundw
        case rel => exact ⟨q + 1, _, bs ++ d, by go_num, by omega, tloop_step T.out HQD.out GR3.out OW3.out⟩
        case measure => simp [intOf]; omega
    · have hqe : q = u.texts.length := by omega
      subst hqe
      have C0 := Lib.hid (rloop_start hT)
      have e1 := boxU_1 hT.ub
      clear hT T k1 kz kl TT
      go_wp2
      obtain ⟨fi, fi0, fi1, fi2, fi3⟩ := info_parts func_info
      obtain ⟨i0, hi, hz0, hz1, hz2⟩ := info_parts instr_info
      go_loopw [9] (fun i wr => ∃ (k : Nat) (vd vF : Value) (rows : List Value), i = .int .i64 k ∧ k ≤ u.funcs.length ∧ RLoop w wr u mem (.slice pt u.texts.length ct) (.slice pf u.funcs.length cf) P0 k vd vF rows ∧ (∀ (i : Nat) (f : Fun), i < k → u.funcs[i]? = some f → funOk u f = true)) (fun i _ => u.funcs.length - (intOf i).toNat)
      case atStart => exact ⟨0, _, _, [], rfl, Nat.zero_le _, C0.out, fun i f hi => by omega⟩
      case round =>
        clear C0 e1 ul u0
        obtain ⟨k, vd', vF, rows, rfl, hk, hL, hsm⟩ := hrel
        have LL := Lib.hid hL
        have SM := Lib.hid hsm
        have e0' := boxU_0 hL.ub
        have e1' := boxU_1 hL.ub
        have hub' := boxU_lt hL.ub
        have hUr := unitAt_kept UU.out hL.gr (by simp)
        have UR := Lib.hid hUr
        clear hsm
        by_cases hlt : (k : Int) < (u.funcs.length : Int)
        · obtain ⟨bF, oF, rfl, hbF, hcF⟩ := hUr.funcs (by omega)
          obtain ⟨f, hf⟩ : ∃ f, u.funcs[k]? = some f := ⟨_, List.getElem?_eq_getElem (by omega)⟩
          obtain ⟨q0, q1, ⟨pl, cl, q2, _⟩, ⟨pp, cp, q3, hpp⟩⟩ := hcF k f hf
          have hmf := List.mem_of_getElem? hf
          have FN := Lib.hid (function_any u HU.out hnt pt (some ⟨bF, oF, none⟩) ct cf B k f hf (HR.out.ok f hmf).1 wr hUr)
          have HF := Lib.hid hf
          have Q1 := Lib.hid q1
          have Q2 := Lib.hid q2
          have hBw := hUr.le
          have HBF := Lib.hid (show bF < wr.heap.size by omega)
          clear hcF hpp q0 q1 q2 q3 hL hUr hbF hf hmf
          cases hok : funOk u f with
          | false =>
            have HOK := Lib.hid hok
            rw [hok] at FN
            clear hok
            go_wp2_with (go_at_call 30; refine FN.out.mono ?_; intro e w6 hp; obtain ⟨v6, rfl, l6, g6⟩ := hp; have L6 := rloop_kept LL.out g6; have G6 := Lib.hid g6; have hR := L6.rb; have r0 := cell_of_row w6 _ 0 _ _ _ hR; have r1 := cell_of_row w6 _ 1 _ _ _ hR; have r2 := cell_of_row w6 _ 2 _ _ _ hR; have z0 := frozen_of_row w6 _ 0 _ _ hR; have z1 := frozen_of_row w6 _ 1 _ _ hR; have z2 := frozen_of_row w6 _ 2 _ _ hR; have hlR := (Array.getElem?_eq_some_iff.1 hR).1; clear l6 g6 L6 hR)
            refine bodyPost_ret (v := .tuple #[.agg #[.int .i64 0, .slice none 0 0, .slice none 0 0], .int .i64 181]) ?_ rfl ?_
            · rw [results_cell_tmp rfl]
              go_simp
            · unfold RMainPost
              rw [if_pos (bigR_true HF.out HOK.out)]
              exact ⟨rfl, rbad LL.out G6.out _ _ _⟩
          | true =>
            have HOK := Lib.hid hok
            rw [hok] at FN
            clear hok
            go_wp2_with (go_at_call 30; refine FN.out.mono ?_; intro e w6 hp; obtain ⟨v6, rfl, l6, g6⟩ := hp; have G6 := Lib.hid g6; have LN6 := Lib.hid l6; have q1 := g6.cell Q1.out (by simp); have q2 := g6.cell Q2.out (by simp); have e1' := g6.cell e1' (by simp); have hub' := Nat.lt_of_lt_of_le hub' g6.size; have lF := Nat.lt_of_lt_of_le HBF.out g6.size; clear l6 g6)
            clear e0'
            go_region
            have RI0 := Lib.hid (rin_start w6 f.args f.locals.length (funL u f))
            have GB := Lib.hid (show w6.grownBy (w6.alloc (.cells #[.int .i64 f.args, .int .i64 f.locals.length, .int .i64 1, .slice none 0 0] 73)).drew none from grownBy_drew (World.grownBy_alloc w6 _ none))
            have SB := Lib.hid (show (w6.alloc (.cells #[.int .i64 f.args, .int .i64 f.locals.length, .int .i64 1, .slice none 0 0] 73)).drew.heap.size = w6.heap.size + 1 from World.size_alloc _ _)
            clear q1 q2 e1' hub' lF
            obtain ⟨p6, c6, hv6⟩ := lns_slice LN6.out
            subst hv6
            generalize (w6.alloc (.cells #[.int .i64 f.args, .int .i64 f.locals.length, .int .i64 1, .slice none 0 0] 73)).drew = wB at *
            have hF0 := Lib.hid (Nat.le_refl w6.heap.size)
            have LB := Lib.hid (fun (wj : World) (g : wB.grownBy wj (some w6.heap.size)) => show LnsAt wj wr.heap.size (.slice p6 (funL u f).length c6) (funL u f) from (lns_grow LN6.out GB.out).kept g (Or.inr fun e => by have := (LN6.out.lt _ e).2; omega))
            have JBF := Lib.hid (fun_jb u f)
            have hlnR := funL_len u f
            go_wp2
            obtain ⟨wo, hwo⟩ : ∃ wo, wo = wr := ⟨_, rfl⟩
            subst hwo
            go_loopw [13] (fun i wj => ∃ (j : Nat) (vc : Value), i = .int .i64 j ∧ j ≤ (funL u f).length ∧ RIn wB wj w6.heap.size f.args f.locals.length (funL u f) j vc) (fun i _ => (funL u f).length - (intOf i).toNat)
            case atStart => exact ⟨0, _, rfl, Nat.zero_le _, RI0.out⟩
            case round =>
              clear RI0
              obtain ⟨j, vc, rfl, hj, hRI⟩ := hrel
              have RI := Lib.hid hRI
              have x3 := cell_of_row wr w6.heap.size 3 _ _ _ hRI.bx
              have y3 := frozen_of_row wr w6.heap.size 3 _ _ hRI.bx
              have xl := (Array.getElem?_eq_some_iff.1 hRI.bx).1
              by_cases hlt2 : (j : Int) < ((funL u f).length : Int)
              · obtain ⟨x, hx⟩ : ∃ x, (funL u f)[j]? = some x := ⟨_, List.getElem?_eq_getElem (by omega)⟩
                have HX := Lib.hid hx
                obtain ⟨g, rfl, -⟩ := ln_some LN6.out (by omega)
                obtain ⟨e0, e1, -, e3, -, -⟩ := ln_cells (LB.out wr hRI.gr) hx
                have gl := World.block_lt_of_cell? _ _ e0
                have hb := JBF.out x (List.mem_of_getElem? hx)
                have hc3 : j + 1 ≤ maxLen := by unfold maxLen; omega
                have hc4 : (j + 1) * 16 ≤ 140737488355328 := by omega
                have hE0 := hRI.gr.size
                have hE1 : ∀ o o2, wB.heap.size ≤ ((wr.alloc o).alloc o2).heap.size := by intro o o2; simp; omega
                clear hx hRI hE0
                cases hxj : x.j with
                | true =>
                  obtain ⟨hb1, hb2⟩ := hb hxj
                  rw [hxj] at e3
                  have HXJ := Lib.hid hxj
                  clear hxj hb
                  (
                    go_wp2_with (at_builtin; refine wpList_append_own_at _ rfl _ _ 71 rfl wB.heap.size 75 i0 (.agg #[.int .i64 0, .int .i64 0]) 2 16 instr_und hi hz0 hz1 hz2 rfl (by decide) _ _ _ rfl ((RI.out.own.alloc _).alloc _) ⟨wr.heap.size + 1, 0, none⟩ 1 1 [.int .i64 _, .int .i64 _] rfl rfl (two_new2 wr _ _ _ _) (two_cell _ _ _) hc3 hc4 (hE1 _ _) ?_; intro v9 w9 hown9 hgr9 hnil9 hat9; obtain ⟨p9, c9, hv9⟩ := own_slice hown9; subst hv9; have RC := rin_cells RI.out hgr9; obtain ⟨t1, t2, t3⟩ := RC; have OW9 := Lib.hid hown9; have GR9 := Lib.hid hgr9; clear hown9 hgr9 hnil9 hat9)
                    go_roundw)
                  case rel => exact ⟨j + 1, _, by go_num, by omega, rin_next RI.out HX.out (by rw [HXJ.out]; rfl) GR9.out OW9.out⟩
                  case measure => simp [intOf]; omega
                | false =>
                  rw [hxj] at e3
                  have HXJ := Lib.hid hxj
                  clear hxj hb
                  (
                    go_wp2_with (at_builtin; refine wpList_append_own_at _ rfl _ _ 71 rfl wB.heap.size 75 i0 (.agg #[.int .i64 0, .int .i64 0]) 2 16 instr_und hi hz0 hz1 hz2 rfl (by decide) _ _ _ rfl ((RI.out.own.alloc _).alloc _) ⟨wr.heap.size + 1, 0, none⟩ 1 1 [.int .i64 _, .int .i64 _] rfl rfl (two_new2 wr _ _ _ _) (two_cell _ _ _) hc3 hc4 (hE1 _ _) ?_; intro v9 w9 hown9 hgr9 hnil9 hat9; obtain ⟨p9, c9, hv9⟩ := own_slice hown9; subst hv9; have RC := rin_cells RI.out hgr9; obtain ⟨t1, t2, t3⟩ := RC; have OW9 := Lib.hid hown9; have GR9 := Lib.hid hgr9; clear hown9 hgr9 hnil9 hat9)
                    go_roundw)
                  case rel => exact ⟨j + 1, _, by go_num, by omega, rin_next RI.out HX.out (by rw [HXJ.out]; rfl) GR9.out OW9.out⟩
                  case measure => simp [intOf]; omega
              · have hje : j = (funL u f).length := by omega
                subst hje
                have HG := Lib.hid (show wo.grownBy wr none from grow_new (grownBy_trans G6.out GB.out) hRI.gr G6.out.size)
                have HC := Lib.hid (rin_code (b := w.heap.size) hRI (by have := LL.out.gr.size; have := HG.out.size; have := SB.out; have := G6.out.size; omega))
                have LJ := Lib.hid (rloop_kept LL.out HG.out)
                have hLJ := LJ.out
                have k2 := cell_of_row wr P0 2 _ _ _ hLJ.pb
                have kz2 := frozen_of_row wr P0 2 _ _ hLJ.pb
                have kl2 := (Array.getElem?_eq_some_iff.1 hLJ.pb).1
                obtain ⟨pc, cc, hvc⟩ := own_slice hRI.own
                subst hvc
                have x0 := cell_of_row wr w6.heap.size 0 _ _ _ hRI.bx
                have x1 := cell_of_row wr w6.heap.size 1 _ _ _ hRI.bx
                have x2 := cell_of_row wr w6.heap.size 2 _ _ _ hRI.bx
                have hk64 : k + 1 ≤ maxLen := by unfold maxLen; omega
                have hk65 : (k + 1) * 48 ≤ 140737488355328 := by omega
                have hgw := hLJ.gr.size
                have hb16 : ∀ o, w.heap.size ≤ (wr.alloc o).heap.size := by intro o; simp; omega
                clear hLJ hRI hgw
                go_wp2_with (at_builtin; refine wpList_append_own_at _ rfl _ _ 30 rfl w.heap.size 73 fi (.agg #[.int .i64 0, .int .i64 0, .int .i64 0, .slice none 0 0]) 4 48 func_und fi0 fi1 fi2 fi3 rfl (by decide) _ _ _ rfl (LJ.out.fr.alloc _) ⟨wr.heap.size, 0, none⟩ 1 1 [.int .i64 f.args, .int .i64 f.locals.length, .int .i64 1, .slice pc (funL u f).length cc] rfl rfl (four_new2 wr _ _ _ _ _) (four_cell _ _ _ _ _ _) hk64 hk65 (hb16 _) ?_; intro v16 w16 hown16 hgr16 hnil16 hat16; obtain ⟨p16, c16, hv16⟩ := own_slice hown16; subst hv16; have RC := rloop_cell LJ.out hgr16; obtain ⟨t1, t2, t3⟩ := RC; have O16 := Lib.hid hown16; have G16 := Lib.hid hgr16; clear hown16 hgr16 hnil16 hat16)
                go_roundw
                case rel => exact ⟨k + 1, vd', _, rows ++ [.slice pc (funL u f).length cc], by go_num, by omega, rloop_next LL.out HG.out HF.out HC.out G16.out O16.out, fun i f' hi hf' => by
                  by_cases hik : i < k
                  · exact SM.out i f' hik hf'
                  · have : i = k := by omega
                    subst this
                    have e := HF.out
                    rw [hf'] at e; injection e with e; subst e
                    exact HOK.out⟩
                case measure => simp [intOf]; omega
        · have hke : k = u.funcs.length := by omega
          have p0 := cell_of_row wr P0 0 _ _ _ hL.pb
          have p1 := cell_of_row wr P0 1 _ _ _ hL.pb
          have p2 := cell_of_row wr P0 2 _ _ _ hL.pb
          have r0 := cell_of_row wr _ 0 _ _ _ hL.rb
          have r1 := cell_of_row wr _ 1 _ _ _ hL.rb
          have r2 := cell_of_row wr _ 2 _ _ _ hL.rb
          have y0 := frozen_of_row wr _ 0 _ _ hL.rb
          have y1 := frozen_of_row wr _ 1 _ _ hL.rb
          have y2 := frozen_of_row wr _ 2 _ _ hL.rb
          have hlP := (Array.getElem?_eq_some_iff.1 hL.pb).1
          have hlR := (Array.getElem?_eq_some_iff.1 hL.rb).1
          obtain ⟨pd', cd', hvd⟩ := own_slice hL.dt
          subst hvd
          obtain ⟨pF, cF, hvF⟩ := own_slice hL.fr
          subst hvF
          clear hL hUr
          go_wp2
          refine bodyPost_ret (v := .tuple #[.agg #[.int .i64 mem, .slice pd' (dataE u).length cd', .slice pF k cF], .int .i64 0]) ?_ rfl ?_
          · rw [results_cell_tmp rfl]
            go_simp
          · unfold RMainPost
            rw [if_neg (by rw [bigR_false (fun i f hf => SM.out i f (by have := (List.getElem?_eq_some_iff.1 hf).1; omega) hf)]; simp)]
            subst hke
            exact ⟨_, _, rows, rfl, rmain_end LL.out _ _ _⟩

end Go.Proofs.Ytecaolkbllbokaa.TG
