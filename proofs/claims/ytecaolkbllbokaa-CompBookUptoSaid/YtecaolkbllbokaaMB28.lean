/-
  The reference's Compile: where its loops stand. Conditions: as each theorem states.
  The reference's compiler: how far its jumps go. Conditions: as each theorem states.
-/
import Derived.Test.YtecaolkbllbokaaMB27
import Derived.Test.YtecaolkbllbokaaMB16
import Derived.Test.YtecaolkbllbokaaMB21
namespace Go.Proofs.Ytecaolkbllbokaa.TG
open Go.RowKit Go.Great
set_option linter.unusedSimpArgs false
set_option linter.unusedVariables false

/-- Jumps made whole: k how many lines are ahead. -/
def resolveL : Nat → List Ln → List (Int × Int)
  | _, [] => []
  | k, x :: r => (x.op, bif x.j then x.a + (k : Int) else x.a) :: resolveL (k + 1) r
theorem resolveL_length : ∀ (k : Nat) (r : List Ln), (resolveL k r).length = r.length
  | k, [] => rfl
  | k, x :: r => by simp [resolveL, resolveL_length (k + 1) r]
theorem resolveL_append : ∀ (k : Nat) (r s : List Ln), resolveL k (r ++ s) = resolveL k r ++ resolveL (k + r.length) s
  | k, [], s => by simp [resolveL]
  | k, x :: r, s => by simp only [List.cons_append, resolveL, resolveL_append (k + 1) r s, List.length_cons]; congr 2; congr 1; omega
theorem resolveL_take (r : List Ln) (i : Nat) (x : Ln) (h : r[i]? = some x) : resolveL 0 (r.take (i + 1)) = resolveL 0 (r.take i) ++ [(x.op, bif x.j then x.a + (i : Int) else x.a)] := by
  obtain ⟨hl, rfl⟩ := List.getElem?_eq_some_iff.1 h
  rw [List.take_succ_eq_append_getElem hl, resolveL_append]
  simp [resolveL, Nat.min_eq_left (Nat.le_of_lt hl)]
def codeR (u : Un) (f : Fun) : List (Int × Int) := resolveL 0 (funL u f)
def bigR (u : Un) : Bool := u.funcs.any fun f => !funOk u f

def flatV : List Fun → List Value → List Value
  | f :: fs, r :: rs => .int .i64 f.args :: .int .i64 f.locals.length :: .int .i64 1 :: r :: flatV fs rs
  | _, _ => []
theorem flatV_snoc : ∀ {fs : List Fun} {rs : List Value} {f : Fun} {r : Value}, fs[rs.length]? = some f → flatV fs (rs ++ [r]) = flatV fs rs ++ [.int .i64 f.args, .int .i64 f.locals.length, .int .i64 1, r]
  | [], rs, f, r, h => by cases h
  | g :: fs, [], f, r, h => by
    simp at h; subst h
    simp [flatV]
  | g :: fs, x :: rs, f, r, h => by
    have ih := flatV_snoc (fs := fs) (rs := rs) (f := f) (r := r) (by simpa using h)
    simp [flatV, ih]

theorem tloop_step {w wr w1 : World} {u : Un} {mem : Int} {vt vf : Value} {P0 q : Nat} {vd v1 : Value} {bs d : List Int} {nm : ByteArray} (h : TLoop w wr u mem vt vf P0 q vd bs) (hq : u.texts[q]? = some (nm, d)) (g : wr.grownBy w1 vd.ownBlock)
    (own : w1.ownsRow w.heap.size 5 1 v1 (bs.length + d.length) (bs.map (Value.int .u8) ++ d.map (Value.int .u8))) : TLoop w (w1.setCell ⟨P0, 1, none⟩ v1) u mem vt vf P0 (q + 1) v1 (bs ++ d) := by
  have hPw := (Array.getElem?_eq_some_iff.1 h.pb).1
  have hgw := h.gr.size
  have hPlt := h.hP
  have s1 : Sp (fun k => vd.ownBlock = some k) wr w1 := sp_grown (P := fun k => vd.ownBlock = some k) g fun k _ e => e
  have pb1 : w1.heap[P0]? = some (.cells #[.int .i64 mem, vd, .slice none 0 0] 32 (0, 0)) := by
    rw [s1.block P0 hPw (own_not_box h.dt h.pb (by decide))]; exact h.pb
  have bx : ∀ {b : Nat} {cs : Array Value} {t : TypeId}, wr.heap[b]? = some (.cells cs t (0, 0)) → t ≠ 5 → b ≠ P0 → (w1.setCell ⟨P0, 1, none⟩ v1).heap[b]? = some (.cells cs t (0, 0)) := by
    intro b cs t hb h1 h2
    rw [heap_setCell_other w1 _ b _ (by simpa using h2), s1.block b (Array.getElem?_eq_some_iff.1 hb).1 (own_not_box h.dt hb (Ne.symm h1))]
    exact hb
  refine ⟨by rw [heap_set_box pb1]; rfl, bx h.rb (by decide) (by omega), h.hP, ?_, bx h.ub (by decide) (by omega), ?_, ?_⟩
  · refine sp_to_grown (sp_trans (sp_trans (sp_grown (P := fun k => vd.ownBlock = some k ∨ k = P0) h.gr (by simp)) (sp_weaken (Q := fun k => vd.ownBlock = some k ∨ k = P0) s1 fun _ _ e => Or.inl e) (fun _ _ h => h)) (sp_grown (P := fun k => vd.ownBlock = some k ∨ k = P0) (grownBy_set w1 P0 1 v1) fun k _ e => by injection e with e; exact Or.inr e.symm) (fun _ _ h => h)) fun k hk hp => ?_
    rcases hp with e | e
    · have := (h.dt.lt k e).1; omega
    · omega
  · rw [List.length_append, List.map_append]
    refine own.kept (grownBy_set w1 P0 1 v1) (Or.inr (own_not_box own pb1 (by decide)))
  · rw [h.eb]
    obtain ⟨hql, hqe⟩ := List.getElem?_eq_some_iff.1 hq
    rw [List.take_succ_eq_append_getElem hql, List.flatMap_append, hqe]
    simp
theorem tloop_cell {w wr w1 : World} {u : Un} {mem : Int} {vt vf : Value} {P0 q : Nat} {vd : Value} {bs : List Int} (h : TLoop w wr u mem vt vf P0 q vd bs) (g : wr.grownBy w1 vd.ownBlock) :
    w1.cell? ⟨P0, 1, none⟩ = some vd ∧ w1.frozen? ⟨P0, 1, none⟩ = false ∧ P0 < w1.heap.size := by
  have hb := box_moved h.pb g (own_not_box h.dt h.pb (by decide))
  exact ⟨cell_of_row w1 P0 1 _ _ _ hb, frozen_of_row w1 P0 1 _ _ hb, (Array.getElem?_eq_some_iff.1 hb).1⟩
theorem tloop_kept {w wr w1 : World} {u : Un} {mem : Int} {vt vf : Value} {P0 q : Nat} {vd : Value} {bs : List Int} (h : TLoop w wr u mem vt vf P0 q vd bs) (g : wr.grownBy w1 none) : TLoop w w1 u mem vt vf P0 q vd bs :=
  ⟨box_moved h.pb g (by simp), box_moved h.rb g (by simp), h.hP, grownBy_trans h.gr g, boxU_kept h.ub g (by simp), h.dt.kept g (Classical.em _), h.eb⟩

/-- Where the loop over the functions stands: k are done. -/
structure RLoop (w wr : World) (u : Un) (mem : Int) (vt vf : Value) (P0 k : Nat) (vd vF : Value) (rows : List Value) : Prop where
  len : rows.length = k
  pb : wr.heap[P0]? = some (.cells #[.int .i64 mem, vd, vF] 32 (0, 0))
  rb : wr.heap[w.heap.size + 1]? = some (.cells #[.int .i64 0, .slice none 0 0, .slice none 0 0] 32 (0, 0))
  hP : w.heap.size + 1 < P0
  gr : w.grownBy wr none
  ub : BoxU wr w.heap.size vt vf
  dt : wr.ownsRow w.heap.size 5 1 vd (dataE u).length ((dataE u).map (Value.int .u8))
  fr : wr.ownsRow w.heap.size 73 4 vF k (flatV u.funcs rows)
  each : ∀ (i : Nat) (vo : Value) (f : Fun), rows[i]? = some vo → u.funcs[i]? = some f → wr.ownsRow w.heap.size 75 2 vo (codeR u f).length (flat2 (codeR u f))

theorem rloop_start {w wr : World} {u : Un} {mem : Int} {vt vf : Value} {P0 : Nat} {vd : Value} {bs : List Int} (h : TLoop w wr u mem vt vf P0 u.texts.length vd bs) : RLoop w wr u mem vt vf P0 0 vd (.slice none 0 0) [] := by
  have e : bs = dataE u := by rw [h.eb, List.take_length]; rfl
  refine ⟨rfl, h.pb, h.rb, h.hP, h.gr, h.ub, ?_, ?_, fun i vo f hi => (by cases hi)⟩
  · rw [← e]; exact h.dt
  · have : flatV u.funcs [] = [] := by cases u.funcs <;> rfl
    rw [this]; exact World.ownsRow_nil _ _ _ _

theorem rloop_kept {w wr w1 : World} {u : Un} {mem : Int} {vt vf : Value} {P0 k : Nat} {vd vF : Value} {rows : List Value} (h : RLoop w wr u mem vt vf P0 k vd vF rows) (g : wr.grownBy w1 none) : RLoop w w1 u mem vt vf P0 k vd vF rows :=
  ⟨h.len, box_moved h.pb g (by simp), box_moved h.rb g (by simp), h.hP, grownBy_trans h.gr g, boxU_kept h.ub g (by simp), h.dt.kept g (Classical.em _), h.fr.kept g (Classical.em _), fun i vo f hi hf => (h.each i vo f hi hf).kept g (Classical.em _)⟩

theorem rloop_next {w wr wj w5 : World} {u : Un} {mem : Int} {vt vf : Value} {P0 k : Nat} {vd vF v5 vc : Value} {rows : List Value} {f : Fun} {o : Obj} (h0 : RLoop w wr u mem vt vf P0 k vd vF rows) (g : wr.grownBy wj none) (hf : u.funcs[k]? = some f)
    (code : wj.ownsRow w.heap.size 75 2 vc (codeR u f).length (flat2 (codeR u f)))
    (h5 : (wj.alloc o).grownBy w5 vF.ownBlock) (own5 : w5.ownsRow w.heap.size 73 4 v5 (k + 1) (flatV u.funcs rows ++ [.int .i64 f.args, .int .i64 f.locals.length, .int .i64 1, vc])) :
    RLoop w (w5.setCell ⟨P0, 2, none⟩ v5) u mem vt vf P0 (k + 1) vd v5 (rows ++ [vc]) := by
  have h := rloop_kept h0 g
  have hPw := (Array.getElem?_eq_some_iff.1 h.pb).1
  have hgw := h.gr.size
  have hPlt := h.hP
  have hlen := h.len
  have s1 : Sp (fun k => vF.ownBlock = some k) wj w5 := sp_trans (sp_grown (P := fun k => vF.ownBlock = some k) (World.grownBy_alloc wj o none) (by simp)) (sp_grown (P := fun k => vF.ownBlock = some k) h5 fun k _ e => e) (fun _ _ h => h)
  have pb1 : w5.heap[P0]? = some (.cells #[.int .i64 mem, vd, vF] 32 (0, 0)) := by
    rw [s1.block P0 hPw (own_not_box h.fr h.pb (by decide))]; exact h.pb
  have bx : ∀ {b : Nat} {cs : Array Value} {t : TypeId}, wj.heap[b]? = some (.cells cs t (0, 0)) → t ≠ 73 → b ≠ P0 → (w5.setCell ⟨P0, 2, none⟩ v5).heap[b]? = some (.cells cs t (0, 0)) := by
    intro b cs t hb h1 h2
    rw [heap_setCell_other w5 _ b _ (by simpa using h2), s1.block b (Array.getElem?_eq_some_iff.1 hb).1 (own_not_box h.fr hb (Ne.symm h1))]
    exact hb
  have oQ : ∀ {base : Nat} {e : TypeId} {size n : Nat} {x : Value} {xs : List Value}, wj.ownsRow base e size x n xs → e ≠ 73 → e ≠ 32 → (w5.setCell ⟨P0, 2, none⟩ v5).ownsRow base e size x n xs := by
    intro base e size n x xs ho h1 h2
    have ho5 := own_sp ho s1 fun k hk hp => own_unlike (own_lower ho (Nat.zero_le _)) (own_lower h.fr (Nat.zero_le _)) h1 hk hp
    exact ho5.kept (grownBy_set w5 P0 2 v5) (Or.inr (own_not_box ho5 pb1 h2))
  refine ⟨by rw [List.length_append]; simp [hlen], by rw [heap_set_box pb1]; rfl, bx h.rb (by decide) (by omega), h.hP, ?_, bx h.ub (by decide) (by omega), oQ h.dt (by decide) (by decide), ?_, ?_⟩
  · refine sp_to_grown (sp_trans (sp_trans (sp_grown (P := fun k => vF.ownBlock = some k ∨ k = P0) h.gr (by simp)) (sp_weaken (Q := fun k => vF.ownBlock = some k ∨ k = P0) s1 fun _ _ e => Or.inl e) (fun _ _ h => h)) (sp_grown (P := fun k => vF.ownBlock = some k ∨ k = P0) (grownBy_set w5 P0 2 v5) fun k _ e => by injection e with e; exact Or.inr e.symm) (fun _ _ h => h)) fun k hk hp => ?_
    rcases hp with e | e
    · have := (h.fr.lt k e).1; omega
    · omega
  · rw [flatV_snoc (by rw [hlen]; exact hf)]
    exact own5.kept (grownBy_set w5 P0 2 v5) (Or.inr (own_not_box own5 pb1 (by decide)))
  · intro i vo f' hi hf'
    by_cases hik : i < rows.length
    · rw [List.getElem?_append_left hik] at hi
      exact oQ (h.each i vo f' hi hf') (by decide) (by decide)
    · have hik2 : i = rows.length := by
        have := (List.getElem?_eq_some_iff.1 hi).1
        simp at this; omega
      subst hik2
      rw [List.getElem?_append_right (Nat.le_refl _)] at hi
      simp at hi
      subst hi
      rw [hlen, hf] at hf'
      injection hf' with hf'; subst hf'
      exact oQ code (by decide) (by decide)

/-- What is told. -/
structure RRes (w w' : World) (u : Un) (vd vF : Value) (rows : List Value) : Prop where
  len : rows.length = u.funcs.length
  gr : w.grownBy w' none
  dt : w'.ownsRow w.heap.size 5 1 vd (dataE u).length ((dataE u).map (Value.int .u8))
  fr : w'.ownsRow w.heap.size 73 4 vF u.funcs.length (flatV u.funcs rows)
  each : ∀ (i : Nat) (vo : Value) (f : Fun), rows[i]? = some vo → u.funcs[i]? = some f → w'.ownsRow w.heap.size 75 2 vo (codeR u f).length (flat2 (codeR u f))

def RMainPost (w : World) (u : Un) (mem : Int) (e : Ending) (w' : World) : Prop :=
  if bigR u then BadR w 181 e w' else ∃ vd vF rows, e = .returned (.tuple #[.agg #[.int .i64 mem, vd, vF], .int .i64 0]) ∧ RRes w w' u vd vF rows

end Go.Proofs.Ytecaolkbllbokaa.TG

namespace Go.Proofs.Ytecaolkbllbokaa.TG
open Go.RowKit Go.Great
set_option linter.unusedSimpArgs false
set_option linter.unusedVariables false

def JB (R : List Ln) : Prop := ∀ x ∈ R, x.j = true → -100000000 ≤ x.a ∧ x.a ≤ 100000000
theorem jb_nil : JB [] := fun x h => by cases h
theorem jb_app {a b : List Ln} (h : JB a) (h2 : JB b) : JB (a ++ b) := fun x hx => by
  rcases List.mem_append.1 hx with hx | hx
  · exact h x hx
  · exact h2 x hx
theorem jb_jump {p op a : Int} (h : -100000000 ≤ a ∧ a ≤ 100000000) : JB [jumpL p op a] := fun y hy _ => by
  simp at hy; subst hy; exact h
theorem jb_map (me : Int) (l : List (Int × Int)) : JB (l.map fun x => lineL me x.1 x.2) := fun y hy hj => by
  obtain ⟨x, _, rfl⟩ := List.mem_map.1 hy
  cases hj
theorem jb_fill (k b : Nat) (hk : k ≤ 10000000) (hb : b ≤ 10000000) : ∀ (i : Nat) (R : List Ln), i + R.length ≤ 10000000 → JB R → JB (loopFill k b i R)
  | i, [], _, _ => jb_nil
  | i, x :: r, hi, h => fun y hy hj => by
    simp only [List.length_cons] at hi
    rw [loopFill] at hy
    rcases List.mem_cons.1 hy with rfl | hy
    · have := h x (List.mem_cons_self ..)
      unfold fillL at hj ⊢
      by_cases h1 : x.out = 1
      · rw [if_pos h1]
        simp only []
        cases x.ag <;> simp only [cond_true, cond_false] <;> omega
      · rw [if_neg h1] at hj ⊢
        by_cases h2 : 0 < x.out
        · rw [if_pos h2] at hj ⊢; exact this hj
        · rw [if_neg h2] at hj ⊢; exact this hj
    · exact jb_fill k b hk hb (i + 1) r (by omega) (fun z hz => h z (List.mem_cons_of_mem _ hz)) y hy hj

theorem jb_chosen {me : Int} {k one two : List Ln} {b : Bool} (hk : JB k) (h1 : JB one) (h2 : JB two) (l1 : one.length ≤ 10000000) (l2 : two.length ≤ 10000000) : JB (chosenL me k one two b) := by
  unfold chosenL
  cases b
  · exact jb_app (jb_app (jb_app jb_nil hk) (jb_jump (by omega))) h1
  · exact jb_app (jb_app (jb_app (jb_app (jb_app jb_nil hk) (jb_jump (by omega))) h1) (jb_jump (by omega))) h2
theorem jb_loop {me : Int} {k one : List Ln} (hk : JB k) (h1 : JB one) (l1 : k.length ≤ 10000000) (l2 : one.length ≤ 10000000) : JB (loopL me k one) :=
  jb_app (jb_app (jb_app (jb_app jb_nil hk) (jb_jump (by omega))) (jb_fill _ _ l1 l2 0 _ (by omega) h1)) (jb_jump (by omega))
theorem jb_whether {me op non : Int} {k one : List Ln} (hk : JB k) (h1 : JB one) (l1 : one.length ≤ 10000000) : JB (whetherL me op k one non) := by
  unfold whetherL
  refine jb_app (jb_app (jb_app (jb_app (jb_app jb_nil hk) (jb_jump (by omega))) h1) ?_) ?_
  · exact jb_map me [(3, 0), (31, 0), (3, 0), (31, 0)]
  · intro x hx hj
    simp at hx
    rcases hx with rfl | rfl
    · simp [jumpL]
    · cases hj

theorem jb_nx {P : Nat → Rs} (h : ∀ a, JB (P a).1) (r : Rs) : JB (nx P r).1 := by
  cases e : r.2.1 with
  | true => rw [nx_over e]; exact jb_nil
  | false => rw [nx_go e]; exact h _
theorem jb_first {P : Nat → Rs} (h : ∀ a, JB (P a).1) (a : Nat) : JB (nextR P false a).1 := h a
theorem jb_kids {P : Nat → Rs} (h : ∀ a, JB (P a).1) : ∀ (n : Nat) (r : Rs), JB r.1 → JB (kidsR P n r).1
  | 0, r, h1 => h1
  | n + 1, r, h1 => by
    cases e : r.2.1 with
    | true => rw [kids_over _ _ e]; exact h1
    | false => rw [kids_go _ _ e]; exact jb_kids h n _ (jb_app h1 (jb_nx h r))

theorem part_jb (ts : List (ByteArray × List Int)) (ps : List (Int × Int × Int)) : ∀ (g a : Nat), g ≤ 65 → JB (partR ts ps g a).1
  | 0, a, _ => jb_nil
  | g + 1, a, hg => by
    have IH := fun a => part_jb ts ps g a (by omega)
    have HL : ∀ a, (partR ts ps g a).1.length ≤ 594000 := fun a => by have := part_len ts ps g a; omega
    have l1 := fun a => Nat.le_trans (first_len (a := a) HL).1 (by decide : 594000 ≤ 10000000)
    have l2 := fun r => Nat.le_trans (next_len (r := r) HL).1 (by decide : 594000 ≤ 10000000)
    rw [partR]
    cases hp : ps[a]? with
    | none => exact jb_nil
    | some x =>
      obtain ⟨k, n, kc⟩ := x
      simp only []
      split
      · split
        · exact jb_chosen (me := a) (b := true) (jb_first IH _) (jb_nx IH _) (jb_nx IH _) (l2 _) (l2 _)
        · exact jb_chosen (me := a) (b := false) (jb_first IH _) (jb_nx IH _) jb_nil (l2 _) (by simp)
      · split
        · exact jb_loop (jb_first IH _) (jb_nx IH _) (l1 _) (l2 _)
        · split
          · intro y hy hj
            simp at hy; subst hy; cases hj
          · split
            · exact jb_whether (jb_first IH _) (jb_nx IH _) (l2 _)
            · split
              · exact jb_whether (jb_first IH _) (jb_nx IH _) (l2 _)
              · exact jb_app (jb_kids IH _ _ jb_nil) (jb_map _ _)

theorem fun_jb (u : Un) (f : Fun) : JB (funL u f) := by
  unfold funL
  exact jb_app (jb_first (fun a => part_jb u.texts f.parts 65 a (Nat.le_refl _)) 0) (jb_map 0 [(3, 0), (18, 0)])
theorem funL_len (u : Un) (f : Fun) : (funL u f).length ≤ 594002 := by
  have := fun_len u f
  unfold funL
  rw [List.length_append]
  simp only [List.length_cons, List.length_nil]; omega

end Go.Proofs.Ytecaolkbllbokaa.TG
