/-
  What the compiler's code block holds, and the walk of emit. Conditions: as each theorem states.
-/
import Derived.Test.YtecaolkbllbokaaTgCheck
namespace Go.Proofs.Ytecaolkbllbokaa.TG
open Go.RowKit Go.Great
set_option linter.unusedSimpArgs false
set_option linter.unusedVariables false

/-- w' is w with new blocks, and with other contents in the blocks that P names. -/
structure Sp (P : Nat → Prop) (w w' : World) : Prop where
  os : w'.os = w.os
  tape : w'.tape = w.tape
  output : w'.output = w.output
  size : w.heap.size ≤ w'.heap.size
  block : ∀ k, k < w.heap.size → ¬ P k → w'.heap[k]? = w.heap[k]?

theorem sp_refl (P : Nat → Prop) (w : World) : Sp P w w := ⟨rfl, rfl, rfl, Nat.le_refl _, fun _ _ _ => rfl⟩
theorem sp_trans {P Q : Nat → Prop} {w w1 w2 : World} (h : Sp P w w1) (g : Sp Q w1 w2) (hq : ∀ k, k < w.heap.size → Q k → P k) : Sp P w w2 :=
  ⟨g.os.trans h.os, g.tape.trans h.tape, g.output.trans h.output, Nat.le_trans h.size g.size, fun k hk hp => (g.block k (Nat.lt_of_lt_of_le hk h.size) (fun hQ => hp (hq k hk hQ))).trans (h.block k hk hp)⟩
theorem sp_weaken {P Q : Nat → Prop} {w w1 : World} (h : Sp P w w1) (hq : ∀ k, k < w.heap.size → P k → Q k) : Sp Q w w1 :=
  ⟨h.os, h.tape, h.output, h.size, fun k hk hp => h.block k hk (fun hQ => hp (hq k hk hQ))⟩
theorem sp_grown {P : Nat → Prop} {w w1 : World} {r : Option Nat} (h : w.grownBy w1 r) (hr : ∀ k, k < w.heap.size → r = some k → P k) : Sp P w w1 :=
  ⟨h.os, h.tape, h.output, h.size, fun k hk hp => h.block k hk (fun e => hp (hr k hk e.symm))⟩
theorem sp_to_grown {P : Nat → Prop} {w w1 : World} (h : Sp P w w1) (hp : ∀ k, k < w.heap.size → ¬ P k) : w.grownBy w1 none :=
  ⟨h.os, h.tape, h.output, h.size, fun k hk _ => h.block k hk (hp k hk)⟩
theorem heap_cell {w w' : World} {k : Nat} (h : w'.heap[k]? = w.heap[k]?) (o : Nat) : w'.cell? ⟨k, o, none⟩ = w.cell? ⟨k, o, none⟩ := by
  unfold World.cell?; rw [h]

def flat2 : List (Int × Int) → List Value
  | [] => []
  | x :: r => .int .i64 x.1 :: .int .i64 x.2 :: flat2 r
theorem flat2_append (a b : List (Int × Int)) : flat2 (a ++ b) = flat2 a ++ flat2 b := by
  induction a with
  | nil => rfl
  | cons x r ih => simp [flat2, ih]
theorem flat2_length (a : List (Int × Int)) : (flat2 a).length = a.length * 2 := by
  induction a with
  | nil => rfl
  | cons x r ih => simp [flat2, ih]; omega

/-- The compiler's block: the unit, the function, the instructions and origins so far, the loops, the kinds. -/
structure CodeAt (w : World) (E Bd : Nat) (vt vf : Value) (nm : ByteArray) (ar : Int) (vl vp vout vorg vlo vk : Value) (out : List (Int × Int)) (org : List Int) : Prop where
  box : w.heap[Bd]? = some (.cells #[vt, vf, .string nm, .int .i64 ar, vl, vp, vout, vorg, vlo, vk] 114 (0, 0))
  out : w.ownsRow E 75 2 vout out.length (flat2 out)
  org : w.ownsRow E 3 1 vorg org.length (org.map (Value.int .i64))
  lt : Bd < E
  le : E ≤ w.heap.size

theorem code_cell {w : World} {E Bd : Nat} {vt vf : Value} {nm : ByteArray} {ar : Int} {vl vp vout vorg vlo vk : Value} {out : List (Int × Int)} {org : List Int} (h : CodeAt w E Bd vt vf nm ar vl vp vout vorg vlo vk out org) (j : Nat) :
    w.cell? ⟨Bd, j, none⟩ = (#[vt, vf, .string nm, .int .i64 ar, vl, vp, vout, vorg, vlo, vk] : Array Value)[j]? := cell_of_row w Bd j _ _ _ h.box
theorem code_frozen {w : World} {E Bd : Nat} {vt vf : Value} {nm : ByteArray} {ar : Int} {vl vp vout vorg vlo vk : Value} {out : List (Int × Int)} {org : List Int} (h : CodeAt w E Bd vt vf nm ar vl vp vout vorg vlo vk out org) (j : Nat) : w.frozen? ⟨Bd, j, none⟩ = false := frozen_of_row w Bd j _ _ h.box

theorem instr_und : Try.prog.underlying 71 = some (.slice 75) := by kernel_rfl
theorem instr_info : (Try.prog.info? 75).map (fun i => (i.zero, i.size, i.bytes)) = some (some (.agg #[.int .i64 0, .int .i64 0]), 2, 16) := by kernel_rfl

theorem own_succ {w : World} {base : Nat} {e : TypeId} {size n : Nat} {v : Value} {xs : List Value} (h : w.ownsRow base e size v (n + 1) xs) : ∃ g cap, v = .slice (some ⟨g, 0, none⟩) (n + 1) cap := by
  rcases h.2 with ⟨_, h0⟩ | ⟨g, cap, cur, hv, _⟩
  · omega
  · exact ⟨g, cap, hv⟩

theorem two_new (w : World) (x y : Value) (t : TypeId) : ∀ j u, [x, y][j]? = some u → (w.alloc (.cells #[x, y] t)).cell? ((⟨w.heap.size, 0, none⟩ : Addr).add j) = some u := by
  intro j u hj
  match j, hj with
  | 0, hj => simp at hj; subst hj; simp [Addr.add]
  | 1, hj => simp at hj; subst hj; simp [Addr.add]
theorem two_cell (k : IntKind) (x y : Int) : ∀ u ∈ [Value.int k x, Value.int k y], u.oneCell' = true := by
  intro u hu; simp at hu; rcases hu with rfl | rfl <;> rfl

/-- What emit may change. -/
def EmitP (Bd : Nat) (vout vorg : Value) (k : Nat) : Prop := k = Bd ∨ vout.ownBlock = some k ∨ vorg.ownBlock = some k

/-- What a call of emit leaves. -/
def EmitPost (w : World) (E Bd : Nat) (vt vf : Value) (nm : ByteArray) (ar : Int) (vl vp vout vorg vlo vk : Value) (out : List (Int × Int)) (org : List Int) (part op a : Int) (e : Ending) (w' : World) : Prop :=
  e = .returned (.int .i64 out.length) ∧ Sp (EmitP Bd vout vorg) w w' ∧ ∃ vout' vorg', CodeAt w' E Bd vt vf nm ar vl vp vout' vorg' vlo vk (out ++ [(op, a)]) (org ++ [part]) ∧
    (∀ k, k < w.heap.size → EmitP Bd vout' vorg' k → EmitP Bd vout vorg k)

theorem own_set {w : World} {base : Nat} {e : TypeId} {size n : Nat} {v : Value} {xs : List Value} {b o : Nat} {u : Value} (h : w.ownsRow base e size v n xs) (hb : b < base) : (w.setCell ⟨b, o, none⟩ u).ownsRow base e size v n xs :=
  h.kept (grownBy_set w b o u) (own_ne h hb)

theorem own_other {w : World} {base : Nat} {e e' : TypeId} {size size' n n' : Nat} {v v' : Value} {xs xs' : List Value} (h : w.ownsRow base e size v n xs) (h' : w.ownsRow base e' size' v' n' xs') (hne : e ≠ e') : v.ownBlock = none ∨ v.ownBlock ≠ v'.ownBlock := by
  rcases h.2 with ⟨rfl, _⟩ | ⟨g, cap, cur, rfl, _, hg, _⟩
  · left; rfl
  · right
    rcases h'.2 with ⟨rfl, _⟩ | ⟨g', cap', cur', rfl, _, hg', _⟩
    · simp [Value.ownBlock]
    · simp only [Value.ownBlock]
      intro heq
      injection heq with heq
      rw [heq] at hg
      rw [hg] at hg'
      injection hg' with hx
      injection hx with _ hx2 _
      exact hne hx2

theorem box_moved {w w' : World} {b : Nat} {o : Obj} {row : Option Nat} (h : w.heap[b]? = some o) (g : w.grownBy w' row) (hr : row ≠ some b) : w'.heap[b]? = some o := by
  rw [g.block b (Array.getElem?_eq_some_iff.1 h).1 (by intro e; exact hr e.symm)]; exact h

end Go.Proofs.Ytecaolkbllbokaa.TG
