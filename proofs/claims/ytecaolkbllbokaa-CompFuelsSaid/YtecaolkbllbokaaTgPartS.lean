/-
  What a walk of the checker's part reads and keeps. Conditions: as each theorem states.
-/
import Derived.Test.YtecaolkbllbokaaTgPart
import Derived.Test.YtecaolkbllbokaaTgPartE
import Derived.Laws.OwnMore
import Derived.OwnWalk
namespace Go.Proofs.Ytecaolkbllbokaa.TG
open Go.RowKit Go.Great
set_option linter.unusedSimpArgs false
set_option linter.unusedVariables false

theorem grownBy_drew {w w' : World} {row : Option Nat} (h : w.grownBy w' row) : w.grownBy w'.drew row := ⟨h.os, h.tape, h.output, h.size, h.block⟩
theorem grownBy_drewN (w : World) (n : Nat) (row : Option Nat) : w.grownBy (w.drewN n) row := ⟨rfl, rfl, rfl, by simp, fun k hk _ => by simp⟩
theorem grownBy_drewN' {w w' : World} {row : Option Nat} (h : w.grownBy w' row) (n : Nat) : w.grownBy (w'.drewN n) row := grownBy_trans h (grownBy_drewN w' n row)
theorem grownBy_set (w : World) (b o : Nat) (v : Value) : w.grownBy (w.setCell ⟨b, o, none⟩ v) (some b) := ⟨rfl, rfl, rfl, by simp, fun k hk hr => heap_setCell_other w _ k v (by intro e; exact hr (by rw [e]))⟩

theorem grow_w {w w' : World} {r : Option Nat} (h : w.grownBy w' none) : w.grownBy w' r := ⟨h.os, h.tape, h.output, h.size, fun k hk _ => h.block k hk (by simp)⟩
theorem own_ne {w : World} {base : Nat} {e : TypeId} {size n : Nat} {v : Value} {xs : List Value} {b : Nat} (h : w.ownsRow base e size v n xs) (hb : b < base) : v.ownBlock = none ∨ v.ownBlock ≠ some b := by
  cases hv : v.ownBlock with
  | none => left; rfl
  | some k => right; have := (h.lt k hv).1; intro e; injection e with e; omega

theorem one_new (w : World) (x : Value) (t : TypeId) : ∀ j u, [x][j]? = some u → (w.alloc (.cells #[x] t)).cell? ((⟨w.heap.size, 0, none⟩ : Addr).add j) = some u := by
  intro j u hj
  match j, hj with
  | 0, hj => simp at hj; subst hj; simp [Addr.add]
theorem one_set (w : World) (b o : Nat) (u0 x : Value) (t : TypeId) : ∀ j u, [x][j]? = some u → ((w.setCell ⟨b, o, none⟩ u0).alloc (.cells #[x] t)).cell? ((⟨w.heap.size, 0, none⟩ : Addr).add j) = some u := by
  have h := one_new (w.setCell ⟨b, o, none⟩ u0) x t
  rw [World.size_setCell] at h
  exact h
theorem one_cell (k : IntKind) (x : Int) : ∀ u ∈ [Value.int k x], u.oneCell' = true := by intro u hu; simp at hu; subst hu; rfl
theorem size_next {w : World} {B : Nat} (h : B < w.heap.size) (o : Obj) : B + 1 ≤ (w.alloc o).heap.size := by simp; omega

theorem own_ne2 {w : World} {base : Nat} {e : TypeId} {size n : Nat} {v : Value} {xs : List Value} {b : Nat} (h : w.ownsRow base e size v n xs) (hb : b < base) : v.ownBlock ≠ some b := by
  rcases own_ne h hb with h1 | h1
  · rw [h1]; simp
  · exact h1
theorem grow_own {w w1 w2 : World} {r : Option Nat} {base : Nat} {e : TypeId} {size n : Nat} {v : Value} {xs : List Value} {wr : World} (h : w.grownBy w1 r) (g : w1.grownBy w2 v.ownBlock) (ho : wr.ownsRow base e size v n xs) (hb : w.heap.size ≤ base) : w.grownBy w2 r :=
  ⟨g.os.trans h.os, g.tape.trans h.tape, g.output.trans h.output, Nat.le_trans h.size g.size, fun k hk hr => (g.block k (Nat.lt_of_lt_of_le hk h.size) (by intro e; have := (ho.lt k e.symm).1; omega)).trans (h.block k hk hr)⟩

/-- The checker's block. -/
def BoxW (tc : TypeId) (w : World) (Bc bf of : Nat) (vt vf : Value) (s : St) : Prop :=
  w.heap[Bc]? = some (.cells #[vt, vf, .pointer (some ⟨bf, of, none⟩), .int .i64 s.a, .int .i64 s.l, .int .i64 s.m] tc (0, 0))

theorem box_kept {tc : TypeId} {w w' : World} {Bc bf of : Nat} {vt vf : Value} {s : St} {row : Option Nat} (h : BoxW tc w Bc bf of vt vf s) (g : w.grownBy w' row) (hr : row ≠ some Bc) : BoxW tc w' Bc bf of vt vf s := by
  unfold BoxW at *
  rw [g.block Bc ?_ (by intro e; exact hr e.symm)]
  · exact h
  · exact (Array.getElem?_eq_some_iff.1 h).1
theorem box_lt {tc : TypeId} {w : World} {Bc bf of : Nat} {vt vf : Value} {s : St} (h : BoxW tc w Bc bf of vt vf s) : Bc < w.heap.size := (Array.getElem?_eq_some_iff.1 h).1
theorem box_cell {tc : TypeId} {w : World} {Bc bf of : Nat} {vt vf : Value} {s : St} (h : BoxW tc w Bc bf of vt vf s) (j : Nat) : w.cell? ⟨Bc, j, none⟩ = (#[vt, vf, .pointer (some ⟨bf, of, none⟩), .int .i64 s.a, .int .i64 s.l, .int .i64 s.m] : Array Value)[j]? :=
  cell_of_row w Bc j _ _ _ h
theorem box_frozen {tc : TypeId} {w : World} {Bc bf of : Nat} {vt vf : Value} {s : St} (h : BoxW tc w Bc bf of vt vf s) (j : Nat) : w.frozen? ⟨Bc, j, none⟩ = false := frozen_of_row w Bc j _ _ h
theorem box_set {tc : TypeId} {w : World} {Bc bf of : Nat} {vt vf : Value} {s : St} (h : BoxW tc w Bc bf of vt vf s) :
    (∀ x : Int, ∀ a : Nat, x = (a : Int) → BoxW tc (w.setCell ⟨Bc, 3, none⟩ (.int .i64 x)) Bc bf of vt vf ⟨a, s.l, s.m⟩) ∧ (∀ x : Int, BoxW tc (w.setCell ⟨Bc, 4, none⟩ (.int .i64 x)) Bc bf of vt vf ⟨s.a, x, s.m⟩) ∧
      (∀ x : Int, BoxW tc (w.setCell ⟨Bc, 5, none⟩ (.int .i64 x)) Bc bf of vt vf ⟨s.a, s.l, x⟩) := by
  refine ⟨fun x a e => ?_, fun x => ?_, fun x => ?_⟩
  · subst e
    unfold BoxW at *
    rw [heap_setCell_same w Bc _ _ _ _ h]; rfl
  · unfold BoxW at *
    rw [heap_setCell_same w Bc _ _ _ _ h]; rfl
  · unfold BoxW at *
    rw [heap_setCell_same w Bc _ _ _ _ h]; rfl

theorem box_3 {tc : TypeId} {w : World} {Bc bf of : Nat} {vt vf : Value} {s : St} (h : BoxW tc w Bc bf of vt vf s) : w.cell? ⟨Bc, 3, none⟩ = some (.int .i64 s.a) := box_cell h 3
theorem box_4 {tc : TypeId} {w : World} {Bc bf of : Nat} {vt vf : Value} {s : St} (h : BoxW tc w Bc bf of vt vf s) : w.cell? ⟨Bc, 4, none⟩ = some (.int .i64 s.l) := box_cell h 4
theorem box_5 {tc : TypeId} {w : World} {Bc bf of : Nat} {vt vf : Value} {s : St} (h : BoxW tc w Bc bf of vt vf s) : w.cell? ⟨Bc, 5, none⟩ = some (.int .i64 s.m) := box_cell h 5

/-- A part's own copy. -/
def CopyW (w : World) (B : Nat) (k n kc : Int) : Prop := w.heap[B]? = some (.cells #[.int .i64 k, .int .i64 n, .int .i64 kc] 108 (0, 0))
theorem copy_kept {w w' : World} {B : Nat} {k n kc : Int} {row : Option Nat} (h : CopyW w B k n kc) (g : w.grownBy w' row) (hr : row ≠ some B) : CopyW w' B k n kc := by
  unfold CopyW at *
  rw [g.block B ?_ (by intro e; exact hr e.symm)]
  · exact h
  · exact (Array.getElem?_eq_some_iff.1 h).1
theorem copy_lt {w : World} {B : Nat} {k n kc : Int} (h : CopyW w B k n kc) : B < w.heap.size := (Array.getElem?_eq_some_iff.1 h).1
theorem copy_cell {w : World} {B : Nat} {k n kc : Int} (h : CopyW w B k n kc) (j : Nat) : w.cell? ⟨B, j, none⟩ = (#[.int .i64 k, .int .i64 n, .int .i64 kc] : Array Value)[j]? := cell_of_row w B j _ _ _ h
theorem copy_0 {w : World} {B : Nat} {k n kc : Int} (h : CopyW w B k n kc) : w.cell? ⟨B, 0, none⟩ = some (.int .i64 k) := copy_cell h 0
theorem copy_1 {w : World} {B : Nat} {k n kc : Int} (h : CopyW w B k n kc) : w.cell? ⟨B, 1, none⟩ = some (.int .i64 n) := copy_cell h 1
theorem copy_2 {w : World} {B : Nat} {k n kc : Int} (h : CopyW w B k n kc) : w.cell? ⟨B, 2, none⟩ = some (.int .i64 kc) := copy_cell h 2
theorem copy_new (w : World) (k n kc : Int) : CopyW (w.alloc (.cells #[.int .i64 k, .int .i64 n, .int .i64 kc] 108)) w.heap.size k n kc := heap_alloc_new w _

theorem grown_copy (w0 : World) (k n kc : Int) : CopyW ((w0.alloc (.cells #[.int .i64 k, .int .i64 n, .int .i64 kc] 108)).drew) w0.heap.size k n kc := copy_new w0 k n kc

/-- The functions' arguments, below the checker's block. -/
def FunsB (w : World) (Bc : Nat) (pf : Option Addr) (fs : List Int) : Prop := 0 < fs.length → ∃ bF oF : Nat, pf = some ⟨bF, oF, none⟩ ∧ bF < Bc ∧ ∀ i, i < fs.length → w.cell? ⟨bF, oF + i * 4 + 1, none⟩ = some (.int .i64 (fs.getD i 0))

/-- The parts, below the checker's block. -/
def PartsB (w : World) (Bc : Nat) (pp : Option Addr) (ps : List (Int × Int × Int)) : Prop := 0 < ps.length → ∃ bp op : Nat, pp = some ⟨bp, op, none⟩ ∧ bp < Bc ∧ ∀ j k n kc, ps[j]? = some (k, n, kc) →
  w.cell? ⟨bp, op + j * 3, none⟩ = some (.int .i64 k) ∧ w.cell? ⟨bp, op + j * 3 + 1, none⟩ = some (.int .i64 n) ∧ w.cell? ⟨bp, op + j * 3 + 2, none⟩ = some (.int .i64 kc)

/-- What a walk of part reads beside the checker's block. -/
structure Env (w : World) (Bc bf of : Nat) (vl : Value) (pp : Option Addr) (cp : Nat) (ps : List (Int × Int × Int)) (pf : Option Addr) (fs : List Int) : Prop where
  lt : Bc < w.heap.size
  ltf : bf < Bc
  f2 : w.cell? ⟨bf, of + 2, none⟩ = some vl
  f3 : w.cell? ⟨bf, of + 3, none⟩ = some (.slice pp ps.length cp)
  pa : PartsB w Bc pp ps
  fu : FunsB w Bc pf fs

theorem env_kept {w w' : World} {Bc bf of cp : Nat} {vl : Value} {pp pf : Option Addr} {ps : List (Int × Int × Int)} {fs : List Int} (h : Env w Bc bf of vl pp cp ps pf fs) (g : w.grownBy w' (some Bc)) : Env w' Bc bf of vl pp cp ps pf fs := by
  have hb := h.ltf
  refine ⟨Nat.lt_of_lt_of_le h.lt g.size, h.ltf, g.cell h.f2 (by simp; omega), g.cell h.f3 (by simp; omega), fun h0 => ?_, fun h0 => ?_⟩
  · obtain ⟨bp, op, e, hp, hc⟩ := h.pa h0
    refine ⟨bp, op, e, hp, fun j k n kc hj => ?_⟩
    obtain ⟨h1, h2, h3⟩ := hc j k n kc hj
    exact ⟨g.cell h1 (by simp; omega), g.cell h2 (by simp; omega), g.cell h3 (by simp; omega)⟩
  · obtain ⟨bp, op, e, hp, hc⟩ := h.fu h0
    exact ⟨bp, op, e, hp, fun i hi => g.cell (hc i hi) (by simp; omega)⟩

theorem env_chk {tc : TypeId} {w : World} {Bc bf of cp : Nat} {vt vf vl : Value} {pp pf : Option Addr} {ps : List (Int × Int × Int)} {fs : List Int} {s : St} (h : Env w Bc bf of vl pp cp ps pf fs) (b : BoxW tc w Bc bf of vt vf s) :
    Chk w Bc bf of vt vf vl (.slice pp ps.length cp) s.a s.l s.m :=
  ⟨h.lt, Nat.lt_trans h.ltf h.lt, Nat.ne_of_lt h.ltf, box_cell b 0, box_cell b 1, box_cell b 2, box_cell b 3, box_cell b 4, box_cell b 5, h.f2, h.f3⟩
theorem env_funs {w : World} {Bc bf of cp : Nat} {vl : Value} {pp pf : Option Addr} {ps : List (Int × Int × Int)} {fs : List Int} (h : Env w Bc bf of vl pp cp ps pf fs) : Funs w pf fs := fun h0 => by
  obtain ⟨bF, oF, e, hb, hc⟩ := h.fu h0
  exact ⟨bF, oF, e, Nat.lt_trans hb h.lt, hc⟩

/-- What a call of part leaves. -/
def PartPost (tc : TypeId) (w : World) (Bc bf of : Nat) (vt vf : Value) (q : Int × Int × St) (e : Ending) (w' : World) : Prop :=
  e = .returned (.tuple #[.int .i64 q.1, .int .i64 q.2.1]) ∧ w.grownBy w' (some Bc) ∧ (q.2.1 = 0 → BoxW tc w' Bc bf of vt vf q.2.2)

theorem ints_own {w : World} {base cap : Nat} {e : TypeId} {v : Value} {ws : List Int} (h : w.ownsRow base e 1 v ws.length (ws.map (Value.int .i64))) : Ints w v ws := by
  rcases h with ⟨hl, ⟨rfl, h0⟩ | ⟨g, cap, cur, rfl, hb, hg, hn, hc, hs, ht⟩⟩
  · exact ⟨none, 0, by rw [h0], fun h => by omega⟩
  · refine ⟨_, cap, rfl, fun h => ⟨g, 0, rfl, (Array.getElem?_eq_some_iff.1 hg).1, fun i hi => ?_⟩⟩
    rw [Nat.zero_add, cell_of_row w g i _ _ _ hg]
    have e1 : (cur.toList.take (ws.length * 1))[i]? = (ws.map (Value.int .i64))[i]? := by rw [ht]
    rw [Nat.mul_one, List.getElem?_take_of_lt hi, Array.getElem?_toList] at e1
    rw [e1, List.getElem?_map, List.getElem?_eq_getElem hi]
    simp [List.getD, List.getElem?_eq_getElem hi]

theorem ints_kept {w w' : World} {v : Value} {ws : List Int} (h : Ints w v ws) (g : w.grownBy w' none) : Ints w' v ws := by
  obtain ⟨p, cap, e, hc⟩ := h
  refine ⟨p, cap, e, fun h0 => ?_⟩
  obtain ⟨b, off, e2, hb, hc2⟩ := hc h0
  exact ⟨b, off, e2, Nat.lt_of_lt_of_le hb g.size, fun i hi => g.cell (hc2 i hi) (by simp)⟩

/-- Where the loop over a part's kids stands. -/
structure LRel (tc : TypeId) (w wr : World) (Bc bf of B : Nat) (vt vf : Value) (k n kc : Int) (P : Int → St → Int × Int × St) (np g : Nat) (s0 : St) (l0 : Int) (q : Nat) (v : Value) (t : St) (ws : List Int) : Prop where
  own : wr.ownsRow (B + 1) 3 1 v ws.length (ws.map (Value.int .i64))
  box : BoxW tc wr Bc bf of vt vf t
  copy : CopyW wr B k n kc
  gr : w.grownBy wr (some Bc)
  eq : loopE P k kc.toNat 0 s0 [] = loopE P k (kc.toNat - q) q t ws
  a : t.a ≤ np
  len : ws.length + 1 ≤ t.a
  lenq : ws.length = q
  l : t.l = l0
  m0 : 0 ≤ t.m
  m1 : t.m ≤ 10000000000000000
  w : ∀ j, j < ws.length → 0 ≤ ws.getD j 0 ∧ ws.getD j 0 ≤ ((g : Int) + 1) * 70368744177664
  q : q ≤ kc.toNat

theorem stepIn_a (k : Int) (q : Nat) (t : St) : (stepIn k q t).a = t.a := by unfold stepIn; split <;> rfl
theorem stepIn_m (k : Int) (q : Nat) (t : St) : (stepIn k q t).m = t.m := by unfold stepIn; split <;> rfl
theorem stepOut_a (k : Int) (q : Nat) (t : St) : (stepOut k q t).a = t.a := by unfold stepOut; split <;> rfl
theorem stepOut_m (k : Int) (q : Nat) (t : St) : (stepOut k q t).m = t.m := by unfold stepOut; split <;> rfl
theorem stepIn_l (k : Int) (q : Nat) (t : St) : t.l ≤ (stepIn k q t).l ∧ (stepIn k q t).l ≤ t.l + 1 := by unfold stepIn; split <;> (constructor <;> (try simp only []) <;> omega)
theorem step_l (k : Int) (q : Nat) (t u : St) (h : u.l = (stepIn k q t).l) : (stepOut k q u).l = t.l := by
  by_cases c : k = 6 ∧ q = 1
  · have e1 : (stepIn k q t).l = t.l + 1 := by unfold stepIn; rw [if_pos c]
    have e2 : (stepOut k q u).l = u.l - 1 := by unfold stepOut; rw [if_pos c]
    omega
  · have e1 : (stepIn k q t).l = t.l := by unfold stepIn; rw [if_neg c]
    have e2 : (stepOut k q u).l = u.l := by unfold stepOut; rw [if_neg c]
    omega

theorem lrel_step {tc : TypeId} {w wr w4 : World} {Bc bf of B : Nat} {vt vf : Value} {k n kc : Int} {P : Int → St → Int × Int × St} {np g : Nat} {s0 : St} {l0 : Int} {q : Nat} {v v' : Value} {t us : St} {ws : List Int} {uw : Int}
    (h : LRel tc w wr Bc bf of B vt vf k n kc P np g s0 l0 q v t ws) (hlt : (q : Int) < kc) (hu : P (kidE k q) (stepIn k q t) = (uw, 0, us)) (pg : PGood np g (stepIn k q t) (uw, 0, us)) (hg : g ≤ 64)
    (own : w4.ownsRow (B + 1) 3 1 v' (ws.length + 1) (ws.map (Value.int .i64) ++ [.int .i64 uw])) (box : BoxW tc w4 Bc bf of vt vf (stepOut k q us)) (copy : CopyW w4 B k n kc) (gr : w.grownBy w4 (some Bc)) :
    LRel tc w w4 Bc bf of B vt vf k n kc P np g s0 l0 (q + 1) v' (stepOut k q us) (ws ++ [uw]) := by
  obtain ⟨a1, a2, l, w0, w1, m, m1⟩ := pg
  have i1 := stepIn_a k q t
  have i2 := stepIn_m k q t
  have o1 := stepOut_a k q us
  have o2 := stepOut_m k q us
  have hl := h.len
  have hm0 := h.m0
  have hm1 := h.m1
  simp only [] at a1 a2 l w0 w1 m m1
  refine ⟨?_, box, copy, gr, ?_, by omega, ?_, by rw [List.length_append, List.length_singleton, h.lenq], by rw [step_l k q t us l]; exact h.l, by omega, by omega, snoc_bound ws uw _ h.w ⟨w0, w1⟩, by have := h.q; omega⟩
  · rw [List.length_append, List.length_singleton, List.map_append]; exact own
  · rw [h.eq]
    have e : kc.toNat - q = (kc.toNat - (q + 1)) + 1 := by omega
    rw [e, loopE_good P k _ q t ws (by rw [hu])]
    rw [hu]
  · rw [List.length_append, List.length_singleton]; omega

theorem lrel_bad {tc : TypeId} {w wr : World} {Bc bf of B : Nat} {vt vf : Value} {k n kc : Int} {P : Int → St → Int × Int × St} {np g : Nat} {s0 : St} {l0 : Int} {q : Nat} {v : Value} {t : St} {ws : List Int} {u : Int × Int × St}
    (h : LRel tc w wr Bc bf of B vt vf k n kc P np g s0 l0 q v t ws) (hlt : (q : Int) < kc) (hu : P (kidE k q) (stepIn k q t) = u) (he : u.2.1 ≠ 0) : (loopE P k kc.toNat 0 s0 []).2.1 = u.2.1 := by
  rw [h.eq]
  have e : kc.toNat - q = (kc.toNat - (q + 1)) + 1 := by omega
  rw [e, loopE_bad P k _ q t ws (by rw [hu]; exact he)]
  rw [hu]

theorem lrel_end {tc : TypeId} {w wr : World} {Bc bf of B : Nat} {vt vf : Value} {k n kc : Int} {P : Int → St → Int × Int × St} {np g : Nat} {s0 : St} {l0 : Int} {q : Nat} {v : Value} {t : St} {ws : List Int}
    (h : LRel tc w wr Bc bf of B vt vf k n kc P np g s0 l0 q v t ws) (hlt : ¬ (q : Int) < kc) : loopE P k kc.toNat 0 s0 [] = (ws, 0, t) := by
  rw [h.eq]
  have e : kc.toNat - q = 0 := by omega
  rw [e, loopE_zero]

theorem int_und : Try.prog.underlying 47 = some (.slice 3) := by kernel_rfl
theorem int_info : (Try.prog.info? 3).map (fun i => (i.zero, i.size, i.bytes)) = some (some (.int .i64 0), 1, 8) := by kernel_rfl

end Go.Proofs.Ytecaolkbllbokaa.TG
