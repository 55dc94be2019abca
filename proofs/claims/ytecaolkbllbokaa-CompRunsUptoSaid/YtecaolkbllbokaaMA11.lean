/-
  The steps of the compiler's ends, operation by operation. Conditions: as each theorem states.
  The compiler's ends: the map of what stands behind the kids' code. Conditions: as each theorem states.
  What is looked up in the compiler's map of ends. Conditions: as each theorem states.
  The code of parts without jumps, as a function; what a walk of write keeps. Conditions: as each theorem states.
-/
import Derived.Test.YtecaolkbllbokaaMA10
import Derived.Laws.EntriesVeiled
namespace Go.Proofs.Ytecaolkbllbokaa.TG
open Go.RowKit Go.Great
set_option linter.unusedSimpArgs false
set_option linter.unusedVariables false

theorem plain_make (op : Int) (w : World) : Calls Try.prog 65 #[.int .i64 op] w fun e w' => ∃ v, e = .returned v ∧ w.grownBy w' none ∧ ∀ lo, lo ≤ w.heap.size → PlainV lo op v w' := by
  go_enter Try.func65, Try.ntmps65
  go_wp2
  go_ret
  exact ⟨_, rfl, World.grownBy_alloc _ _ _, fun lo h => ⟨w.heap.size, rfl, h, by simp⟩⟩

theorem with_make (op : Int) (fv : Value) (bc : Nat) (w : World) (f : Fn) (x y : Array Value) (hfv : fv = .func f x y) : Calls Try.prog 67 #[.int .i64 op, fv, ptrV bc] w fun e w' => ∃ v, e = .returned v ∧ w.grownBy w' none ∧ ∀ lo, lo ≤ w.heap.size → WithV lo bc op fv v w' := by
  subst hfv
  unfold ptrV
  go_enter Try.func67, Try.ntmps67
  go_wp2
  go_ret
  exact ⟨_, rfl, grownBy_trans (World.grownBy_alloc _ _ _) (World.grownBy_alloc _ _ _), fun lo h => ⟨w.heap.size, w.heap.size + 1, rfl, h, by omega, by simp, by simp⟩⟩

section
variable {ops : Array Oper} {Q : Exit → Act → World → Prop} {w1 : World} {bc b6 lo i : Nat} {l : Array Bool} {a : Act} {w : World}

theorem wpOp_value {K : Act → World → Prop} {o : Oper} {v : Value} {w' : World} (ho : ops[i]? = some o) (hg : o.guard = none) (hrun : (execOp a.eval o).run Try.prog w = .ok (.value v) w') (h : K (a.put o.dst v) w') : wpOp Try.prog ops Q i K a w := by
  unfold wpOp
  simp only [ho, Region.wanted, hg]
  refine Or.inl ?_
  unfold Oper.wp
  rw [hrun, Oper.upon_value]
  exact h

theorem wpOp_skip {K : Act → World → Prop} {o : Oper} {w' : World} (ho : ops[i]? = some o) (hg : o.guard = none) (hd : o.dst = none) (hrun : (execOp a.eval o).run Try.prog w = .ok .skip w') (h : K a w') : wpOp Try.prog ops Q i K a w := by
  unfold wpOp
  simp only [ho, Region.wanted, hg]
  refine Or.inl ?_
  unfold Oper.wp
  rw [hrun]
  simp only [Oper.upon, hd]
  exact h

theorem wpOp_enter {K : Act → World → Prop} {o : Oper} {f : FuncId} {args : Array Value} (ho : ops[i]? = some o) (hg : o.guard = none) (hrun : (execOp a.eval o).run Try.prog w = .ok (.enter f args) w)
    (h : Calls Try.prog f args w fun e w' => ∃ v, e = .returned v ∧ K (a.put o.dst v) w') : wpOp Try.prog ops Q i K a w := by
  unfold wpOp
  simp only [ho, Region.wanted, hg]
  refine Or.inl ?_
  unfold Oper.wp
  rw [hrun]
  simp only [Oper.upon]
  refine h.mono fun e w' he => ?_
  obtain ⟨v, rfl, hK⟩ := he
  exact hK

theorem st_move {o : Oper} {s : Tmp} (hJ : EJ w1 bc b6 lo l a w) (ho : ops[i]? = some o) (hg : o.guard = none) (hop : o.op = .move (.tmp s)) (hdst : o.dst = some (dE i)) (hi : i < 62) (hd : dE i < 51) (hi0 : i ≠ 0)
    (hk : ∀ k s, kE bc b6 i ≠ .ins k s) (hf : kE bc b6 i = .fin → l.getD 0 false = true) (hv : SlK lo bc w (tm a s) (tm a 9) (kE bc b6 i)) :
    wpOp Try.prog ops Q i (fun a' w' => EJ w1 bc b6 lo (l.setIfInBounds i true) a' w') a w := by
  refine wpOp_value ho hg (v := tm a s) (w' := w) (by simp [execOp, hop, Act.eval, tm]) ?_
  rw [hdst]
  exact ej_val hJ hi hd hi0 hk hf (grownBy_refl _ _) hv

theorem st_assign {o : Oper} {s : Tmp} (hJ : EJ w1 bc b6 lo l a w) (ho : ops[i]? = some o) (hg : o.guard = none) (hop : o.op = .assign (.tmp s)) (hdst : o.dst = some (dE i)) (hi : i < 62) (hd : dE i < 51) (hi0 : i ≠ 0)
    (hk : ∀ k s, kE bc b6 i ≠ .ins k s) (hf : kE bc b6 i = .fin → l.getD 0 false = true) (hv : SlK lo bc w (tm a s) (tm a 9) (kE bc b6 i)) :
    wpOp Try.prog ops Q i (fun a' w' => EJ w1 bc b6 lo (l.setIfInBounds i true) a' w') a w := by
  refine wpOp_value ho hg (v := tm a s) (w' := w) (by simp [execOp, hop, Act.eval, tm]) ?_
  rw [hdst]
  exact ej_val hJ hi hd hi0 hk hf (grownBy_refl _ _) hv

theorem st_plain {o : Oper} {s : Tmp} {op : Int} {ts : Array TypeId} (hJ : EJ w1 bc b6 lo l a w) (ho : ops[i]? = some o) (hg : o.guard = none) (hop : o.op = .call { callee := .value (.tmp s), args := #[.const (.int .i64 op)], argTypes := ts }) (hdst : o.dst = some (dE i)) (hi : i < 62) (hd : dE i < 51) (hi0 : i ≠ 0)
    (hki : kE bc b6 i = .pl op) (hs : tm a s = v3E) : wpOp Try.prog ops Q i (fun a' w' => EJ w1 bc b6 lo (l.setIfInBounds i true) a' w') a w := by
  unfold tm at hs
  refine wpOp_enter ho hg (f := 65) (args := #[.int .i64 op]) (by simp [execOp, hop, Act.eval, hs, v3E, fnV, go_sem]) ?_
  refine (plain_make op w).mono fun e w' h => ?_
  obtain ⟨v, rfl, g, hv⟩ := h
  refine ⟨v, rfl, ?_⟩
  rw [hdst]
  exact ej_val hJ hi hd hi0 (by rw [hki]; simp) (by rw [hki]; simp) g (by rw [hki]; exact hv lo (by rw [hJ.hlo]; exact hJ.g.size))

theorem st_with {o : Oper} {s s2 : Tmp} {op : Int} {fv : Value} {f : Fn} {x y : Array Value} {ts : Array TypeId} (hJ : EJ w1 bc b6 lo l a w) (ho : ops[i]? = some o) (hg : o.guard = none) (hop : o.op = .call { callee := .value (.tmp s), args := #[.const (.int .i64 op), .tmp s2], argTypes := ts }) (hdst : o.dst = some (dE i)) (hi : i < 62) (hd : dE i < 51) (hi0 : i ≠ 0)
    (hki : kE bc b6 i = .wi op fv) (hs : tm a s = v4E bc) (hs2 : tm a s2 = fv) (hfv : fv = .func f x y) : wpOp Try.prog ops Q i (fun a' w' => EJ w1 bc b6 lo (l.setIfInBounds i true) a' w') a w := by
  unfold tm at hs hs2
  refine wpOp_enter ho hg (f := 67) (args := #[.int .i64 op, fv, ptrV bc]) (by simp [execOp, hop, Act.eval, hs, hs2, v4E, fnV, go_sem]) ?_
  refine (with_make op fv bc w f x y hfv).mono fun e w' h => ?_
  obtain ⟨v, rfl, g, hv⟩ := h
  refine ⟨v, rfl, ?_⟩
  rw [hdst]
  exact ej_val hJ hi hd hi0 (by rw [hki]; simp) (by rw [hki]; simp) g (by rw [hki]; exact hv lo (by rw [hJ.hlo]; exact hJ.g.size))

theorem st_fn {o : Oper} {s : Tmp} {f : FuncId} (hJ : EJ w1 bc b6 lo l a w) (ho : ops[i]? = some o) (hg : o.guard = none) (hop : o.op = .makeFunc (.func f) #[] #[.tmp s]) (hdst : o.dst = some (dE i)) (hi : i < 62) (hd : dE i < 51) (hi0 : i ≠ 0)
    (hki : kE bc b6 i = .fn (fnV f #[tm a s])) : wpOp Try.prog ops Q i (fun a' w' => EJ w1 bc b6 lo (l.setIfInBounds i true) a' w') a w := by
  refine wpOp_value ho hg (v := fnV f #[tm a s]) (w' := w) (by simp [execOp, hop, Act.eval, tm, fnV, Instr.makeFunc]) ?_
  rw [hdst]
  exact ej_val hJ hi hd hi0 (by rw [hki]; simp) (by rw [hki]; simp) (grownBy_refl _ _) (by rw [hki]; rfl)

theorem st_load {o : Oper} {s : Tmp} {t : TypeId} (hJ : EJ w1 bc b6 lo l a w) (ho : ops[i]? = some o) (hg : o.guard = none) (hop : o.op = .load 145 (.tmp s)) (hdst : o.dst = some (dE i)) (hi : i < 62) (hd : dE i < 51) (hi0 : i ≠ 0)
    (hki : kE bc b6 i = .fn (vnE bc)) (hs : tm a s = ptrV b6) : wpOp Try.prog ops Q i (fun a' w' => EJ w1 bc b6 lo (l.setIfInBounds i true) a' w') a w := by
  have hc : w.cell? ⟨b6, 0, none⟩ = some (vnE bc) := hJ.g.cell hJ.c6 (by simp)
  unfold tm at hs
  refine wpOp_value ho hg (v := vnE bc) (w' := w) (by simp [execOp, hop, Act.eval, hs, ptrV, hc, go_sem]) ?_
  rw [hdst]
  exact ej_val hJ hi hd hi0 (by rw [hki]; simp) (by rw [hki]; simp) (grownBy_refl _ _) (by rw [hki]; rfl)

theorem st_ins {o : Oper} {k : Int} {x : Operand} {s : Nat} (hJ : EJ w1 bc b6 lo l a w) (ho : ops[i]? = some o) (hg : o.guard = none) (hop : o.op = .insert 112 (.tmp 9) (.const (.int .i64 k)) x) (hdst : o.dst = none) (hi : i < 62)
    (hki : kE bc b6 i = .ins k s) (h0 : l.getD 0 false = true) (hv : SlK lo bc w (a.eval x) (a.eval x) (endK bc b6 k)) : wpOp Try.prog ops Q i (fun a' w' => EJ w1 bc b6 lo (l.setIfInBounds i true) a' w') a w := by
  obtain ⟨M, w', hM, hrun, hJ'⟩ := ej_ins hJ hi hki h0 hv
  unfold tm at hM
  refine wpOp_skip ho hg hdst (w' := w') ?_ hJ'
  have e9 : a.eval (.tmp 9) = .map (some M) := hM
  have ek : a.eval (.const (.int .i64 k)) = .int .i64 k := rfl
  simp only [execOp, hop, e9, ek, Sem.run_bind, hrun, Result.andThen]
  rfl

theorem st_mk {o : Oper} (hJ : EJ w1 bc b6 lo l a w) (ho : ops[0]? = some o) (hg : o.guard = none) (hop : o.op = .makeMap 112 none) (hdst : o.dst = some 9) (hun : l.getD 0 false = false) :
    wpOp Try.prog ops Q 0 (fun a' w' => EJ w1 bc b6 lo (l.setIfInBounds 0 true) a' w') a w := by
  refine wpOp_value ho hg (v := .map (some w.heap.size)) (w' := w.alloc (.map #[] 0)) (by simp [execOp, hop, Instr.makeMap, Result.andThen]) ?_
  rw [hdst]
  exact ej_mk hJ hun
end

end Go.Proofs.Ytecaolkbllbokaa.TG

namespace Go.Proofs.Ytecaolkbllbokaa.TG
open Go.RowKit Go.Great
set_option linter.unusedSimpArgs false
set_option linter.unusedVariables false

/-- The map of ends, in block M. -/
def EndMap (w : World) (lo bc b6 M : Nat) : Prop := ∃ es ck, w.heap[M]? = some (.map es ck) ∧ (∀ x ∈ es.toList, ∃ k, x.key = .int .i64 k ∧ k ∈ keysE ∧ SlK lo bc w x.val x.val (endK bc b6 k)) ∧ (∀ k ∈ keysE, ∃ x ∈ es.toList, x.key = .int .i64 k)

theorem lt62 (j : Nat) (h : j < 62) : j = 0 ∨ j = 1 ∨ j = 2 ∨ j = 3 ∨ j = 4 ∨ j = 5 ∨ j = 6 ∨ j = 7 ∨ j = 8 ∨ j = 9 ∨ j = 10 ∨ j = 11 ∨ j = 12 ∨ j = 13 ∨ j = 14 ∨ j = 15 ∨ j = 16 ∨ j = 17 ∨ j = 18 ∨ j = 19 ∨ j = 20 ∨ j = 21 ∨ j = 22 ∨ j = 23 ∨ j = 24 ∨ j = 25 ∨ j = 26 ∨ j = 27 ∨ j = 28 ∨ j = 29 ∨ j = 30 ∨ j = 31 ∨ j = 32 ∨ j = 33 ∨ j = 34 ∨ j = 35 ∨ j = 36 ∨ j = 37 ∨ j = 38 ∨ j = 39 ∨ j = 40 ∨ j = 41 ∨ j = 42 ∨ j = 43 ∨ j = 44 ∨ j = 45 ∨ j = 46 ∨ j = 47 ∨ j = 48 ∨ j = 49 ∨ j = 50 ∨ j = 51 ∨ j = 52 ∨ j = 53 ∨ j = 54 ∨ j = 55 ∨ j = 56 ∨ j = 57 ∨ j = 58 ∨ j = 59 ∨ j = 60 ∨ j = 61 := by omega

theorem kE_keys (bc b6 : Nat) : ∀ j, j < 62 → ∀ k s, kE bc b6 j = .ins k s → k ∈ keysE := by
  intro j hj k s h
  rcases lt62 j hj with rfl | rfl | rfl | rfl | rfl | rfl | rfl | rfl | rfl | rfl | rfl | rfl | rfl | rfl | rfl | rfl | rfl | rfl | rfl | rfl | rfl | rfl | rfl | rfl | rfl | rfl | rfl | rfl | rfl | rfl | rfl | rfl | rfl | rfl | rfl | rfl | rfl | rfl | rfl | rfl | rfl | rfl | rfl | rfl | rfl | rfl | rfl | rfl | rfl | rfl | rfl | rfl | rfl | rfl | rfl | rfl | rfl | rfl | rfl | rfl | rfl | rfl
  all_goals first | (cases h; done) | (injection h with h1 h2; subst h1; decide)

theorem keys_kE (bc b6 : Nat) : ∀ k ∈ keysE, ∃ j s, j < 62 ∧ kE bc b6 j = .ins k s := by
  intro k hk
  simp only [keysE, List.mem_cons, List.not_mem_nil, or_false] at hk
  rcases hk with rfl | rfl | rfl | rfl | rfl | rfl | rfl | rfl | rfl | rfl | rfl | rfl | rfl | rfl | rfl | rfl | rfl | rfl | rfl
  · exact ⟨4, 12, by decide, rfl⟩
  · exact ⟨7, 14, by decide, rfl⟩
  · exact ⟨10, 16, by decide, rfl⟩
  · exact ⟨13, 18, by decide, rfl⟩
  · exact ⟨16, 20, by decide, rfl⟩
  · exact ⟨19, 22, by decide, rfl⟩
  · exact ⟨23, 25, by decide, rfl⟩
  · exact ⟨27, 28, by decide, rfl⟩
  · exact ⟨30, 30, by decide, rfl⟩
  · exact ⟨34, 33, by decide, rfl⟩
  · exact ⟨38, 36, by decide, rfl⟩
  · exact ⟨41, 38, by decide, rfl⟩
  · exact ⟨44, 40, by decide, rfl⟩
  · exact ⟨46, 41, by decide, rfl⟩
  · exact ⟨48, 42, by decide, rfl⟩
  · exact ⟨50, 43, by decide, rfl⟩
  · exact ⟨51, 1000, by decide, rfl⟩
  · exact ⟨55, 46, by decide, rfl⟩
  · exact ⟨59, 49, by decide, rfl⟩

theorem listed_of {ops : Array Oper} {l : Array Bool} {i : Nat} (hi : i ∈ Region.ready .any ops l) (n : Nat) (h : ((ops[i]?).any fun o => o.after.any fun e => e.on == n && Region.binds .any e) = true) : l.getD n false = true := by
  obtain ⟨_, o, ho, haf⟩ := mem_ready.1 hi
  rw [ho] at h
  obtain ⟨e, he, hb⟩ := Array.any_eq_true'.1 (show o.after.any (fun e => e.on == n && Region.binds .any e) = true from h)
  simp only [Bool.and_eq_true, beq_iff_eq] at hb
  rw [← hb.1]
  exact haf e he hb.2

theorem dag_of {ops : Array Oper} (h : ((List.range ops.size).all fun j => (ops[j]?).all fun o => o.after.all fun e => decide (e.on < j)) = true) : ∀ (j : Nat) (o : Oper), ops[j]? = some o → ∀ e ∈ o.after, e.on < j := by
  intro j o ho e he
  have hj : j < ops.size := (Array.getElem?_eq_some_iff.1 ho).1
  have h1 := List.all_eq_true.1 h j (List.mem_range.2 hj)
  rw [ho] at h1
  have h2 := Array.all_eq_true'.1 (show o.after.all (fun e => decide (e.on < j)) = true from h1) e he
  exact of_decide_eq_true h2

/-- What a call of ends leaves. -/
def EndsPost (w : World) (Bd : Nat) (e : Ending) (w' : World) : Prop := ∃ lo bc b6 M, e = .returned (.map (some M)) ∧ w.grownBy w' none ∧ w.heap.size ≤ lo ∧ w.heap.size ≤ bc ∧ w.heap.size ≤ b6 ∧ w.heap.size ≤ M ∧
  w'.cell? ⟨bc, 0, none⟩ = some (ptrV Bd) ∧ w'.cell? ⟨b6, 0, none⟩ = some (vnE bc) ∧ EndMap w' lo bc b6 M

theorem ej_end {w1 : World} {bc b6 lo : Nat} {l : Array Bool} {a : Act} {w : World} (h : EJ w1 bc b6 lo l a w) (hl : ∀ j, j < 62 → l.getD j false = true) : ∃ M, tm a 2 = .map (some M) ∧ lo ≤ M ∧ EndMap w lo bc b6 M := by
  obtain ⟨M, es, ck, hM, hlo, hh, h1, h2⟩ := h.mp (hl 0 (by decide))
  refine ⟨M, ?_, hlo, es, ck, hh, fun x hx => ?_, fun k hk => ?_⟩
  · have e : tm a 2 = tm a 9 := h.sl 61 (by decide) (hl 61 (by decide))
    rw [e]; exact hM
  · obtain ⟨j, k, s, hj, hkj, _, hkey, hsl⟩ := h1 x hx
    exact ⟨k, hkey, kE_keys bc b6 j hj k s hkj, hsl⟩
  · obtain ⟨j, s, hj, hkj⟩ := keys_kE bc b6 k hk
    exact h2 j k s hj hkj (hl j hj)

set_option maxRecDepth 100000 in
set_option maxHeartbeats 4000000 in
theorem ends_any (Bd : Nat) (w : World) : Calls Try.prog 42 #[.pointer (some ⟨Bd, 0, none⟩)] w (EndsPost w Bd) := by
  go_enter Try.func42, Try.ntmps42
  go_wp2
  rename_i K hK
  have hsz1 : w.heap.size < (w.alloc (.cells #[.pointer (some ⟨Bd, 0, none⟩)] 110)).heap.size := by simp
  have g1 : w.grownBy ((w.alloc (.cells #[.pointer (some ⟨Bd, 0, none⟩)] 110)).alloc (.cells #[vnE w.heap.size] 145)) none := grownBy_trans (World.grownBy_alloc _ _ _) (World.grownBy_alloc _ _ _)
  have cb : ((w.alloc (.cells #[.pointer (some ⟨Bd, 0, none⟩)] 110)).alloc (.cells #[vnE w.heap.size] 145)).cell? ⟨w.heap.size, 0, none⟩ = some (ptrV Bd) := by simp [ptrV]
  have c6 : ((w.alloc (.cells #[.pointer (some ⟨Bd, 0, none⟩)] 110)).alloc (.cells #[vnE w.heap.size] 145)).cell? ⟨w.heap.size + 1, 0, none⟩ = some (vnE w.heap.size) := by simp
  have hs1 : ((w.alloc (.cells #[.pointer (some ⟨Bd, 0, none⟩)] 110)).alloc (.cells #[vnE w.heap.size] 145)).heap.size = w.heap.size + 2 := by simp
  unfold vnE fnV ptrV at g1 cb c6 hs1
  generalize (w.alloc (.cells #[.pointer (some ⟨Bd, 0, none⟩)] 110)).alloc (.cells #[.func (.func 70) #[] #[.pointer (some ⟨w.heap.size, 0, none⟩)]] 145) = w1 at *
  refine wp_region_any (by kernel_rfl) ?_
  refine wpAny_inv (EJ w1 w.heap.size (w.heap.size + 1) w1.heap.size) ?step ?fin _ _ _ _ ?start (by simp)
  case start => 
    refine ⟨by simp, by simp, rfl, ⟨rfl, rfl, rfl, Nat.le_refl _, fun _ _ _ => rfl⟩, rfl, rfl, rfl, rfl, rfl, rfl, c6, ?_, ?_, ?_⟩
    · intro j hj h; exfalso; revert h; simp only [List.size_toArray]; rw [getD_replicate_false]; simp
    · intro j hj _ h; exfalso; revert h; simp only [List.size_toArray]; rw [getD_replicate_false]; simp
    · intro h; exfalso; revert h; simp only [List.size_toArray]; rw [getD_replicate_false]; simp
  case fin =>
    intro l a w' hJ hr
    obtain ⟨M, hM, hlo, hmap⟩ := ej_end hJ (all_listed (dag_of (by kernel_rfl)) hr hJ.sz)
    refine hK _ _ ?_
    go_wp2
    refine bodyPost_ret (v := .map (some M)) ?_ hJ.df ⟨w1.heap.size, w.heap.size, w.heap.size + 1, M, rfl, grownBy_trans g1 hJ.g, by omega, Nat.le_refl _, by omega, by omega, hJ.g.cell cb (by simp), hJ.g.cell c6 (by simp), hmap⟩
    rw [results_tmp rfl]
    unfold tm at hM
    rw [hM]
  case step =>
    intro l a w' i hJ hi
    have hi62 : i < 62 := by
      obtain ⟨_, o, ho, _⟩ := mem_ready.1 hi
      exact (Array.getElem?_eq_some_iff.1 ho).1
    rcases lt62 i hi62 with rfl | rfl | rfl | rfl | rfl | rfl | rfl | rfl | rfl | rfl | rfl | rfl | rfl | rfl | rfl | rfl | rfl | rfl | rfl | rfl | rfl | rfl | rfl | rfl | rfl | rfl | rfl | rfl | rfl | rfl | rfl | rfl | rfl | rfl | rfl | rfl | rfl | rfl | rfl | rfl | rfl | rfl | rfl | rfl | rfl | rfl | rfl | rfl | rfl | rfl | rfl | rfl | rfl | rfl | rfl | rfl | rfl | rfl | rfl | rfl | rfl | rfl
    · exact st_mk hJ rfl rfl rfl rfl (getD_both (mem_ready.1 hi).1)
    · exact st_move hJ rfl rfl rfl rfl (by decide) (by decide) (by decide) (by simp [kE]) (by simp [kE]) hJ.t4
    · exact st_move hJ rfl rfl rfl rfl (by decide) (by decide) (by decide) (by simp [kE]) (by simp [kE]) hJ.t5
    · exact st_with hJ rfl rfl rfl rfl (by decide) (by decide) (by decide) rfl (hJ.sl 1 (by decide) (listed_of hi 1 (by kernel_rfl))) (hJ.sl 2 (by decide) (listed_of hi 2 (by kernel_rfl))) rfl
    · exact st_ins hJ rfl rfl rfl rfl (by decide) rfl (listed_of hi 0 (by kernel_rfl)) (hJ.sl 3 (by decide) (listed_of hi 3 (by kernel_rfl)))
    · exact st_move hJ rfl rfl rfl rfl (by decide) (by decide) (by decide) (by simp [kE]) (by simp [kE]) hJ.t3
    · exact st_plain hJ rfl rfl rfl rfl (by decide) (by decide) (by decide) rfl (hJ.sl 5 (by decide) (listed_of hi 5 (by kernel_rfl)))
    · exact st_ins hJ rfl rfl rfl rfl (by decide) rfl (listed_of hi 0 (by kernel_rfl)) (hJ.sl 6 (by decide) (listed_of hi 6 (by kernel_rfl)))
    · exact st_move hJ rfl rfl rfl rfl (by decide) (by decide) (by decide) (by simp [kE]) (by simp [kE]) hJ.t3
    · exact st_plain hJ rfl rfl rfl rfl (by decide) (by decide) (by decide) rfl (hJ.sl 8 (by decide) (listed_of hi 8 (by kernel_rfl)))
    · exact st_ins hJ rfl rfl rfl rfl (by decide) rfl (listed_of hi 0 (by kernel_rfl)) (hJ.sl 9 (by decide) (listed_of hi 9 (by kernel_rfl)))
    · exact st_move hJ rfl rfl rfl rfl (by decide) (by decide) (by decide) (by simp [kE]) (by simp [kE]) hJ.t3
    · exact st_plain hJ rfl rfl rfl rfl (by decide) (by decide) (by decide) rfl (hJ.sl 11 (by decide) (listed_of hi 11 (by kernel_rfl)))
    · exact st_ins hJ rfl rfl rfl rfl (by decide) rfl (listed_of hi 0 (by kernel_rfl)) (hJ.sl 12 (by decide) (listed_of hi 12 (by kernel_rfl)))
    · exact st_move hJ rfl rfl rfl rfl (by decide) (by decide) (by decide) (by simp [kE]) (by simp [kE]) hJ.t3
    · exact st_plain hJ rfl rfl rfl rfl (by decide) (by decide) (by decide) rfl (hJ.sl 14 (by decide) (listed_of hi 14 (by kernel_rfl)))
    · exact st_ins hJ rfl rfl rfl rfl (by decide) rfl (listed_of hi 0 (by kernel_rfl)) (hJ.sl 15 (by decide) (listed_of hi 15 (by kernel_rfl)))
    · exact st_move hJ rfl rfl rfl rfl (by decide) (by decide) (by decide) (by simp [kE]) (by simp [kE]) hJ.t3
    · exact st_plain hJ rfl rfl rfl rfl (by decide) (by decide) (by decide) rfl (hJ.sl 17 (by decide) (listed_of hi 17 (by kernel_rfl)))
    · exact st_ins hJ rfl rfl rfl rfl (by decide) rfl (listed_of hi 0 (by kernel_rfl)) (hJ.sl 18 (by decide) (listed_of hi 18 (by kernel_rfl)))
    · exact st_move hJ rfl rfl rfl rfl (by decide) (by decide) (by decide) (by simp [kE]) (by simp [kE]) hJ.t4
    · exact st_move hJ rfl rfl rfl rfl (by decide) (by decide) (by decide) (by simp [kE]) (by simp [kE]) hJ.t5
    · exact st_with hJ rfl rfl rfl rfl (by decide) (by decide) (by decide) rfl (hJ.sl 20 (by decide) (listed_of hi 20 (by kernel_rfl))) (hJ.sl 21 (by decide) (listed_of hi 21 (by kernel_rfl))) rfl
    · exact st_ins hJ rfl rfl rfl rfl (by decide) rfl (listed_of hi 0 (by kernel_rfl)) (hJ.sl 22 (by decide) (listed_of hi 22 (by kernel_rfl)))
    · exact st_move hJ rfl rfl rfl rfl (by decide) (by decide) (by decide) (by simp [kE]) (by simp [kE]) hJ.t4
    · exact st_move hJ rfl rfl rfl rfl (by decide) (by decide) (by decide) (by simp [kE]) (by simp [kE]) hJ.t5
    · exact st_with hJ rfl rfl rfl rfl (by decide) (by decide) (by decide) rfl (hJ.sl 24 (by decide) (listed_of hi 24 (by kernel_rfl))) (hJ.sl 25 (by decide) (listed_of hi 25 (by kernel_rfl))) rfl
    · exact st_ins hJ rfl rfl rfl rfl (by decide) rfl (listed_of hi 0 (by kernel_rfl)) (hJ.sl 26 (by decide) (listed_of hi 26 (by kernel_rfl)))
    · exact st_move hJ rfl rfl rfl rfl (by decide) (by decide) (by decide) (by simp [kE]) (by simp [kE]) hJ.t3
    · exact st_plain hJ rfl rfl rfl rfl (by decide) (by decide) (by decide) rfl (hJ.sl 28 (by decide) (listed_of hi 28 (by kernel_rfl)))
    · exact st_ins hJ rfl rfl rfl rfl (by decide) rfl (listed_of hi 0 (by kernel_rfl)) (hJ.sl 29 (by decide) (listed_of hi 29 (by kernel_rfl)))
    · exact st_move hJ rfl rfl rfl rfl (by decide) (by decide) (by decide) (by simp [kE]) (by simp [kE]) hJ.t4
    · exact st_fn hJ rfl rfl rfl rfl (by decide) (by decide) (by decide) (by rw [hJ.t1]; rfl)
    · exact st_with hJ rfl rfl rfl rfl (by decide) (by decide) (by decide) rfl (hJ.sl 31 (by decide) (listed_of hi 31 (by kernel_rfl))) (hJ.sl 32 (by decide) (listed_of hi 32 (by kernel_rfl))) rfl
    · exact st_ins hJ rfl rfl rfl rfl (by decide) rfl (listed_of hi 0 (by kernel_rfl)) (hJ.sl 33 (by decide) (listed_of hi 33 (by kernel_rfl)))
    · exact st_move hJ rfl rfl rfl rfl (by decide) (by decide) (by decide) (by simp [kE]) (by simp [kE]) hJ.t4
    · exact st_fn hJ rfl rfl rfl rfl (by decide) (by decide) (by decide) (by rw [hJ.t1]; rfl)
    · exact st_with hJ rfl rfl rfl rfl (by decide) (by decide) (by decide) rfl (hJ.sl 35 (by decide) (listed_of hi 35 (by kernel_rfl))) (hJ.sl 36 (by decide) (listed_of hi 36 (by kernel_rfl))) rfl
    · exact st_ins hJ rfl rfl rfl rfl (by decide) rfl (listed_of hi 0 (by kernel_rfl)) (hJ.sl 37 (by decide) (listed_of hi 37 (by kernel_rfl)))
    · exact st_move hJ rfl rfl rfl rfl (by decide) (by decide) (by decide) (by simp [kE]) (by simp [kE]) hJ.t3
    · exact st_plain hJ rfl rfl rfl rfl (by decide) (by decide) (by decide) rfl (hJ.sl 39 (by decide) (listed_of hi 39 (by kernel_rfl)))
    · exact st_ins hJ rfl rfl rfl rfl (by decide) rfl (listed_of hi 0 (by kernel_rfl)) (hJ.sl 40 (by decide) (listed_of hi 40 (by kernel_rfl)))
    · exact st_move hJ rfl rfl rfl rfl (by decide) (by decide) (by decide) (by simp [kE]) (by simp [kE]) hJ.t3
    · exact st_plain hJ rfl rfl rfl rfl (by decide) (by decide) (by decide) rfl (hJ.sl 42 (by decide) (listed_of hi 42 (by kernel_rfl)))
    · exact st_ins hJ rfl rfl rfl rfl (by decide) rfl (listed_of hi 0 (by kernel_rfl)) (hJ.sl 43 (by decide) (listed_of hi 43 (by kernel_rfl)))
    · exact st_load (t := 0) hJ rfl rfl rfl rfl (by decide) (by decide) (by decide) rfl hJ.t6
    · exact st_ins hJ rfl rfl rfl rfl (by decide) rfl (listed_of hi 0 (by kernel_rfl)) (hJ.sl 45 (by decide) (listed_of hi 45 (by kernel_rfl)))
    · exact st_load (t := 0) hJ rfl rfl rfl rfl (by decide) (by decide) (by decide) rfl hJ.t6
    · exact st_ins hJ rfl rfl rfl rfl (by decide) rfl (listed_of hi 0 (by kernel_rfl)) (hJ.sl 47 (by decide) (listed_of hi 47 (by kernel_rfl)))
    · exact st_fn hJ rfl rfl rfl rfl (by decide) (by decide) (by decide) (by rw [hJ.t6]; rfl)
    · exact st_ins hJ rfl rfl rfl rfl (by decide) rfl (listed_of hi 0 (by kernel_rfl)) (hJ.sl 49 (by decide) (listed_of hi 49 (by kernel_rfl)))
    · exact st_ins hJ rfl rfl rfl rfl (by decide) rfl (listed_of hi 0 (by kernel_rfl)) rfl
    · exact st_move hJ rfl rfl rfl rfl (by decide) (by decide) (by decide) (by simp [kE]) (by simp [kE]) hJ.t4
    · exact st_move hJ rfl rfl rfl rfl (by decide) (by decide) (by decide) (by simp [kE]) (by simp [kE]) hJ.t5
    · exact st_with hJ rfl rfl rfl rfl (by decide) (by decide) (by decide) rfl (hJ.sl 52 (by decide) (listed_of hi 52 (by kernel_rfl))) (hJ.sl 53 (by decide) (listed_of hi 53 (by kernel_rfl))) rfl
    · exact st_ins hJ rfl rfl rfl rfl (by decide) rfl (listed_of hi 0 (by kernel_rfl)) (hJ.sl 54 (by decide) (listed_of hi 54 (by kernel_rfl)))
    · exact st_move hJ rfl rfl rfl rfl (by decide) (by decide) (by decide) (by simp [kE]) (by simp [kE]) hJ.t4
    · exact st_move hJ rfl rfl rfl rfl (by decide) (by decide) (by decide) (by simp [kE]) (by simp [kE]) hJ.t5
    · exact st_with hJ rfl rfl rfl rfl (by decide) (by decide) (by decide) rfl (hJ.sl 56 (by decide) (listed_of hi 56 (by kernel_rfl))) (hJ.sl 57 (by decide) (listed_of hi 57 (by kernel_rfl))) rfl
    · exact st_ins hJ rfl rfl rfl rfl (by decide) rfl (listed_of hi 0 (by kernel_rfl)) (hJ.sl 58 (by decide) (listed_of hi 58 (by kernel_rfl)))
    · exact st_move hJ rfl rfl rfl rfl (by decide) (by decide) (by decide) (by simp [kE]) (fun _ => (listed_of hi 0 (by kernel_rfl))) rfl
    · exact st_assign hJ rfl rfl rfl rfl (by decide) (by decide) (by decide) (by simp [kE]) (fun _ => hJ.cl 60 (by decide) trivial (listed_of hi 60 (by kernel_rfl))) (hJ.sl 60 (by decide) (listed_of hi 60 (by kernel_rfl)))

end Go.Proofs.Ytecaolkbllbokaa.TG

namespace Go.Proofs.Ytecaolkbllbokaa.TG
open Go.RowKit Go.Great
set_option linter.unusedSimpArgs false
set_option linter.unusedVariables false

theorem fn_zero : (Try.prog.info? 145).map (fun i => i.zero) = some (some .nilFunc) := by kernel_rfl
theorem run_zero_fn (w : World) : (zeroValue 145).run Try.prog w = .ok .nilFunc w := by kernel_rfl

theorem look_any {w : World} {M : Nat} {es : Array MapEntry} {ck : Nat} {k : Int} (hM : w.heap[M]? = some (.map es ck)) (hks : ∀ x ∈ es.toList, MapKept.IsKey (.int .i64) x.key) :
    (∃ x ∈ es.toList, x.key = .int .i64 k ∧ ∀ n, (Instr.lookup 112 (.map (some M)) (.int .i64 k) true).run Try.prog (w.drewN n) = .ok (.tuple #[x.val, .bool true]) (w.drewN n)) ∨
    ((∀ x ∈ es.toList, x.key ≠ .int .i64 k) ∧ ∀ n, (Instr.lookup 112 (.map (some M)) (.int .i64 k) true).run Try.prog (w.drewN n) = .ok (.tuple #[.nilFunc, .bool false]) (w.drewN n)) := by
  have hm : Try.prog.underlying 112 = some (.map 3 145) := by kernel_rfl
  have hd : Try.prog.underlying 3 = some (.int .i64) := by kernel_rfl
  have hk : MapKept.IsKey (.int .i64) (.int .i64 k) := rfl
  rcases MapKept.findNow_spec hk es.toList 0 hks with ⟨h1, h2⟩ | ⟨j, e, h1, h2, h3⟩
  · refine Or.inr ⟨h2, fun n => ?_⟩
    have hMn : (w.drewN n).heap[M]? = some (.map es ck) := hM
    simp [Instr.lookup, run_underlying hm, MapKept.run_getObj_map hMn, MapKept.run_checkKey hd hk, MapKept.run_findKey hd h1, run_zero_fn, Result.andThen]
  · refine Or.inl ⟨e, List.mem_of_getElem? h2, h3, fun n => ?_⟩
    have hMn : (w.drewN n).heap[M]? = some (.map es ck) := hM
    simp [Instr.lookup, run_underlying hm, MapKept.run_getObj_map hMn, MapKept.run_checkKey hd hk, MapKept.run_findKey hd h1, Result.andThen]

/-- What lies behind a closure of ends, its boxes between the code's block and E. -/
def SlB (Bd E bc : Nat) (w : World) (v : Value) : KE → Prop
  | .fn x => v = x
  | .pl op => ∃ b, v = fnV 66 #[ptrV b] ∧ Bd < b ∧ b < E ∧ w.cell? ⟨b, 0, none⟩ = some (.int .i64 op)
  | .wi op fv => ∃ b3 b4, v = fnV 68 #[ptrV b3, ptrV b4, ptrV bc] ∧ (Bd < b3 ∧ b3 < E) ∧ (Bd < b4 ∧ b4 < E) ∧ w.cell? ⟨b3, 0, none⟩ = some (.int .i64 op) ∧ w.cell? ⟨b4, 0, none⟩ = some fv
  | _ => True

theorem slB_of {lo bc Bd : Nat} {w : World} {v : Value} {K : KE} (h : SlK lo bc w v v K) (hb : Bd < lo) : SlB Bd w.heap.size bc w v K := by
  cases K with
  | pl op => obtain ⟨b, e, hl, hc⟩ := h; exact ⟨b, e, by omega, World.block_lt_of_cell? _ _ hc, hc⟩
  | wi op fv => obtain ⟨b3, b4, e, h3, h4, c3, c4⟩ := h; exact ⟨b3, b4, e, ⟨by omega, World.block_lt_of_cell? _ _ c3⟩, ⟨by omega, World.block_lt_of_cell? _ _ c4⟩, c3, c4⟩
  | fn x => exact h
  | _ => trivial

theorem slB_kept {Bd E bc : Nat} {w w' : World} {v : Value} {K : KE} (h : SlB Bd E bc w v K) (hs : ∀ k, Bd < k → k < E → w'.heap[k]? = w.heap[k]?) : SlB Bd E bc w' v K := by
  cases K with
  | pl op => obtain ⟨b, e, h1, h2, hc⟩ := h; exact ⟨b, e, h1, h2, by rw [heap_cell (hs b h1 h2)]; exact hc⟩
  | wi op fv => obtain ⟨b3, b4, e, h3, h4, c3, c4⟩ := h; exact ⟨b3, b4, e, h3, h4, by rw [heap_cell (hs b3 h3.1 h3.2)]; exact c3, by rw [heap_cell (hs b4 h4.1 h4.2)]; exact c4⟩
  | _ => exact h

/-- The kinds' map and what hangs on it, between the code's block and E. -/
structure KindsAt (w : World) (Bd E bc b6 M : Nat) : Prop where
  cb : w.cell? ⟨bc, 0, none⟩ = some (ptrV Bd)
  c6 : w.cell? ⟨b6, 0, none⟩ = some (vnE bc)
  lb : Bd < bc ∧ bc < E
  l6 : Bd < b6 ∧ b6 < E
  lM : Bd < M ∧ M < E
  mp : ∃ es ck, w.heap[M]? = some (.map es ck) ∧ (∀ x ∈ es.toList, ∃ k, x.key = .int .i64 k ∧ k ∈ keysE ∧ SlB Bd E bc w x.val (endK bc b6 k)) ∧ (∀ k ∈ keysE, ∃ x ∈ es.toList, x.key = .int .i64 k)

theorem kinds_kept {w w' : World} {Bd E bc b6 M : Nat} (h : KindsAt w Bd E bc b6 M) (hs : ∀ k, Bd < k → k < E → w'.heap[k]? = w.heap[k]?) : KindsAt w' Bd E bc b6 M := by
  obtain ⟨es, ck, hM, h1, h2⟩ := h.mp
  refine ⟨by rw [heap_cell (hs bc h.lb.1 h.lb.2)]; exact h.cb, by rw [heap_cell (hs b6 h.l6.1 h.l6.2)]; exact h.c6, h.lb, h.l6, h.lM, es, ck, by rw [hs M h.lM.1 h.lM.2]; exact hM, fun x hx => ?_, h2⟩
  obtain ⟨k, e, hin, hsl⟩ := h1 x hx
  exact ⟨k, e, hin, slB_kept hsl hs⟩

theorem kinds_of_ends {w w' : World} {Bd : Nat} {e : Ending} (h : EndsPost w Bd e w') (hb : Bd < w.heap.size) : ∃ bc b6 M, e = .returned (.map (some M)) ∧ w.grownBy w' none ∧ KindsAt w' Bd w'.heap.size bc b6 M := by
  obtain ⟨lo, bc, b6, M, he, g, hlo, hbc, hb6, hM, cb, c6, es, ck, hh, h1, h2⟩ := h
  refine ⟨bc, b6, M, he, g, cb, c6, ⟨by omega, World.block_lt_of_cell? _ _ cb⟩, ⟨by omega, World.block_lt_of_cell? _ _ c6⟩, ⟨by omega, (Array.getElem?_eq_some_iff.1 hh).1⟩, es, ck, hh, fun x hx => ?_, h2⟩
  obtain ⟨k, e, hin, hsl⟩ := h1 x hx
  exact ⟨k, e, hin, slB_of hsl (by omega)⟩

theorem look_in {w : World} {Bd E bc b6 M : Nat} (h : KindsAt w Bd E bc b6 M) {k : Int} (hk : k ∈ keysE) :
    ∃ v, SlB Bd E bc w v (endK bc b6 k) ∧ ∀ n, (Instr.lookup 112 (.map (some M)) (.int .i64 k) true).run Try.prog (w.drewN n) = .ok (.tuple #[v, .bool true]) (w.drewN n) := by
  obtain ⟨es, ck, hM, h1, h2⟩ := h.mp
  have hks : ∀ x ∈ es.toList, MapKept.IsKey (.int .i64) x.key := fun x hx => by obtain ⟨k', e, _⟩ := h1 x hx; rw [e]; rfl
  rcases look_any (k := k) hM hks with ⟨x, hx, hkx, hr⟩ | ⟨hno, _⟩
  · obtain ⟨k', e, _, hs⟩ := h1 x hx
    rw [hkx] at e; injection e with e1 e2; subst e2
    exact ⟨x.val, hs, hr⟩
  · obtain ⟨x, hx, e⟩ := h2 k hk
    exact absurd e (hno x hx)

theorem look_out {w : World} {Bd E bc b6 M : Nat} (h : KindsAt w Bd E bc b6 M) {k : Int} (hk : k ∉ keysE) :
    ∀ n, (Instr.lookup 112 (.map (some M)) (.int .i64 k) true).run Try.prog (w.drewN n) = .ok (.tuple #[.nilFunc, .bool false]) (w.drewN n) := by
  obtain ⟨es, ck, hM, h1, h2⟩ := h.mp
  have hks : ∀ x ∈ es.toList, MapKept.IsKey (.int .i64) x.key := fun x hx => by obtain ⟨k', e, _⟩ := h1 x hx; rw [e]; rfl
  rcases look_any (k := k) hM hks with ⟨x, hx, hkx, hr⟩ | ⟨hno, hr⟩
  · obtain ⟨k', e, hin, hs⟩ := h1 x hx
    rw [hkx] at e; injection e with e1 e2; subst e2
    exact absurd hin hk
  · exact hr

/-- What an emit or the like leaves of the kinds. -/
theorem kinds_sp {w w' : World} {Bd E bc b6 M : Nat} {vout vorg : Value} (h : KindsAt w Bd E bc b6 M) (g : Sp (EmitP Bd vout vorg) w w') (ho : ∀ k, vout.ownBlock = some k → E ≤ k) (hr : ∀ k, vorg.ownBlock = some k → E ≤ k) (hE : E ≤ w.heap.size) : KindsAt w' Bd E bc b6 M :=
  kinds_kept h fun k hk1 hk2 => g.block k (by omega) (by
    rintro (e | e | e)
    · omega
    · have := ho k e; omega
    · have := hr k e; omega)

end Go.Proofs.Ytecaolkbllbokaa.TG

namespace Go.Proofs.Ytecaolkbllbokaa.TG
open Go.RowKit Go.Great
set_option linter.unusedSimpArgs false
set_option linter.unusedVariables false

abbrev Cd := List (Int × Int) × List Int × Nat

def kidsC (F : Nat → Cd) : Nat → Nat → Cd
  | 0, a => ([], [], a)
  | n + 1, a => ((F a).1 ++ (kidsC F n (F a).2.2).1, (F a).2.1 ++ (kidsC F n (F a).2.2).2.1, (kidsC F n (F a).2.2).2.2)

/-- What stands behind a part's kids, where it has no jumps and looks at no text. -/
def finE (k n : Int) : List (Int × Int) :=
  if k = 2 then [(8, n)] else if k = 3 then [(10, 0)] else if k = 4 then [(12, 0)] else if k = 9 then [(18, 0)] else if k = 10 then [(4, 0)] else if k = 11 then [(2, 0)]
  else if k = 12 then [(3, n)] else if k = 13 then [(7, n)] else if k = 16 then [(13, 0)] else if k = 17 then [(9, 0)] else if k = 18 then [(11, 0)] else if k = 19 then [(n, 0)] else if k = 20 then [(n, 0)]
  else if k = 25 then [(17, n)] else if k = 26 then [(19, n)] else []

def plainK (k : Int) : Bool := k == 1 || k == 2 || k == 3 || k == 4 || k == 9 || k == 10 || k == 11 || k == 12 || k == 13 || k == 16 || k == 17 || k == 18 || k == 19 || k == 20 || k == 25 || k == 26

def codeE (ps : List (Int × Int × Int)) : Nat → Nat → Cd
  | 0, a => ([], [], a)
  | g + 1, a =>
    match ps[a]? with
    | none => ([], [], a)
    | some (k, n, kc) => ((kidsC (codeE ps g) kc.toNat (a + 1)).1 ++ finE k n, (kidsC (codeE ps g) kc.toNat (a + 1)).2.1 ++ (finE k n).map (fun _ => (a : Int)), (kidsC (codeE ps g) kc.toNat (a + 1)).2.2)

def kidsT (T : Nat → Bool) (F : Nat → Cd) : Nat → Nat → Bool
  | 0, _ => true
  | n + 1, a => T a && kidsT T F n (F a).2.2

/-- Is the part there, with all of its own, and none of them jumps? -/
def plainT (ps : List (Int × Int × Int)) : Nat → Nat → Bool
  | 0, _ => false
  | g + 1, a =>
    match ps[a]? with
    | none => false
    | some (k, n, kc) => plainK k && kidsT (plainT ps g) (codeE ps g) kc.toNat (a + 1)

/-- What a call of write leaves. -/
def WPost (w : World) (E Bd : Nat) (vt vf : Value) (nm : ByteArray) (ar : Int) (vl vp vout vorg vlo vk : Value) (out : List (Int × Int)) (org : List Int) (c : Cd) (e : Ending) (w' : World) : Prop :=
  e = .returned (.int .i64 c.2.2) ∧ Sp (EmitP Bd vout vorg) w w' ∧ ∃ vo vg, CodeAt w' E Bd vt vf nm ar vl vp vo vg vlo vk (out ++ c.1) (org ++ c.2.1) ∧ (∀ k, k < w.heap.size → EmitP Bd vo vg k → EmitP Bd vout vorg k)

theorem partsB_sp {w w' : World} {B : Nat} {pp : Option Addr} {ps : List (Int × Int × Int)} (h : PartsB w B pp ps) (hs : ∀ k, k < B → w'.heap[k]? = w.heap[k]?) : PartsB w' B pp ps := fun h0 => by
  obtain ⟨b, o, e, hb, hc⟩ := h h0
  refine ⟨b, o, e, hb, fun j k n kc hj => ?_⟩
  obtain ⟨h1, h2, h3⟩ := hc j k n kc hj
  rw [← heap_cell (hs b hb)] at h1 h2 h3
  exact ⟨h1, h2, h3⟩

/-- All that write reads beside the code's block. -/
structure WEnv (w : World) (Bd E bc b6 M : Nat) (pp : Option Addr) (ps : List (Int × Int × Int)) : Prop where
  pa : PartsB w Bd pp ps
  ki : KindsAt w Bd E bc b6 M

theorem wenv_low {w w' : World} {Bd E bc b6 M : Nat} {pp : Option Addr} {ps : List (Int × Int × Int)} (h : WEnv w Bd E bc b6 M pp ps) (hs : ∀ k, k < E → k ≠ Bd → w'.heap[k]? = w.heap[k]?) : WEnv w' Bd E bc b6 M pp ps :=
  ⟨partsB_sp h.pa fun k hk => hs k (by have := h.ki.lb; omega) (by omega), kinds_kept h.ki fun k h1 h2 => hs k h2 (by omega)⟩

theorem sp_low {w w' : World} {Bd E : Nat} {vt vf : Value} {nm : ByteArray} {ar : Int} {vl vp vout vorg vlo vk : Value} {out : List (Int × Int)} {org : List Int} (hC : CodeAt w E Bd vt vf nm ar vl vp vout vorg vlo vk out org)
    (g : Sp (EmitP Bd vout vorg) w w') : ∀ k, k < E → k ≠ Bd → w'.heap[k]? = w.heap[k]? := fun k hk hne => g.block k (Nat.lt_of_lt_of_le hk hC.le) (by
  rintro (e | e | e)
  · exact hne e
  · have := (hC.out.lt k e).1; omega
  · have := (hC.org.lt k e).1; omega)

theorem not_emit_new {w : World} {E Bd : Nat} {vt vf : Value} {nm : ByteArray} {ar : Int} {vl vp vout vorg vlo vk : Value} {out : List (Int × Int)} {org : List Int} (hC : CodeAt w E Bd vt vf nm ar vl vp vout vorg vlo vk out org) : ¬ EmitP Bd vout vorg w.heap.size := by
  rintro (e | e | e)
  · have := hC.lt; have := hC.le; omega
  · have := (hC.out.lt _ e).2; omega
  · have := (hC.org.lt _ e).2; omega

/-- Where the loop over a part's kids stands, in write. -/
structure WRel (w wa wr : World) (B E Bd : Nat) (vt vf : Value) (nm : ByteArray) (ar : Int) (vl vp vout vorg vlo vk : Value) (out : List (Int × Int)) (org : List Int) (k n kc : Int) (F : Nat → Cd) (T : Nat → Bool) (a0 q aq : Nat) (vo vg : Value) (outq : List (Int × Int)) (orgq : List Int) : Prop where
  code : CodeAt wr E Bd vt vf nm ar vl vp vo vg vlo vk outq orgq
  sp : Sp (EmitP Bd vout vorg) w wr
  row : ∀ j, j < w.heap.size → EmitP Bd vo vg j → EmitP Bd vout vorg j
  nb : ¬ EmitP Bd vo vg B
  copy : CopyW wr B k n kc
  hq : q ≤ kc.toNat
  e1 : out ++ (kidsC F kc.toNat a0).1 = outq ++ (kidsC F (kc.toNat - q) aq).1
  e2 : org ++ (kidsC F kc.toNat a0).2.1 = orgq ++ (kidsC F (kc.toNat - q) aq).2.1
  e3 : (kidsC F kc.toNat a0).2.2 = (kidsC F (kc.toNat - q) aq).2.2
  t : kidsT T F (kc.toNat - q) aq = true

theorem wrel_step {w wa wr w' : World} {B E Bd : Nat} {vt vf : Value} {nm : ByteArray} {ar : Int} {vl vp vout vorg vlo vk : Value} {out : List (Int × Int)} {org : List Int} {k n kc : Int} {F : Nat → Cd} {T : Nat → Bool} {a0 q aq : Nat} {vo vg : Value} {outq : List (Int × Int)} {orgq : List Int}
    (h : WRel w wa wr B E Bd vt vf nm ar vl vp vout vorg vlo vk out org k n kc F T a0 q aq vo vg outq orgq) (hlt : (q : Int) < kc) {vo' vg' : Value} (hB : B < wr.heap.size)
    (hsp : Sp (EmitP Bd vo vg) wr w') (hC : CodeAt w' E Bd vt vf nm ar vl vp vo' vg' vlo vk (outq ++ (F aq).1) (orgq ++ (F aq).2.1)) (hr : ∀ j, j < wr.heap.size → EmitP Bd vo' vg' j → EmitP Bd vo vg j) :
    WRel w wa w' B E Bd vt vf nm ar vl vp vout vorg vlo vk out org k n kc F T a0 (q + 1) (F aq).2.2 vo' vg' (outq ++ (F aq).1) (orgq ++ (F aq).2.1) := by
  have e : kc.toNat - q = (kc.toNat - (q + 1)) + 1 := by omega
  refine ⟨hC, sp_trans h.sp hsp (fun j hj hp => h.row j hj hp), fun j hj hp => h.row j hj (hr j (Nat.lt_of_lt_of_le hj h.sp.size) hp), fun hp => h.nb (hr B hB hp), ?_, by have := h.hq; omega, ?_, ?_, ?_, ?_⟩
  · unfold CopyW; rw [hsp.block B hB h.nb]; exact h.copy
  · rw [h.e1, e, kidsC, List.append_assoc]
  · rw [h.e2, e, kidsC, List.append_assoc]
  · rw [h.e3, e, kidsC]
  · have := h.t; rw [e, kidsT, Bool.and_eq_true] at this; exact this.2

theorem wrel_ok {w wa wr : World} {B E Bd : Nat} {vt vf : Value} {nm : ByteArray} {ar : Int} {vl vp vout vorg vlo vk : Value} {out : List (Int × Int)} {org : List Int} {k n kc : Int} {F : Nat → Cd} {T : Nat → Bool} {a0 q aq : Nat} {vo vg : Value} {outq : List (Int × Int)} {orgq : List Int}
    (h : WRel w wa wr B E Bd vt vf nm ar vl vp vout vorg vlo vk out org k n kc F T a0 q aq vo vg outq orgq) (hlt : (q : Int) < kc) : T aq = true ∧ outq.length + (F aq).1.length ≤ (out ++ (kidsC F kc.toNat a0).1).length ∧ orgq.length + (F aq).2.1.length ≤ (org ++ (kidsC F kc.toNat a0).2.1).length := by
  have e : kc.toNat - q = (kc.toNat - (q + 1)) + 1 := by omega
  have := h.t; rw [e, kidsT, Bool.and_eq_true] at this
  refine ⟨this.1, ?_, ?_⟩
  · rw [h.e1, e, kidsC]; simp only [List.length_append]; omega
  · rw [h.e2, e, kidsC]; simp only [List.length_append]; omega

theorem wrel_end {w wa wr : World} {B E Bd : Nat} {vt vf : Value} {nm : ByteArray} {ar : Int} {vl vp vout vorg vlo vk : Value} {out : List (Int × Int)} {org : List Int} {k n kc : Int} {F : Nat → Cd} {T : Nat → Bool} {a0 q aq : Nat} {vo vg : Value} {outq : List (Int × Int)} {orgq : List Int}
    (h : WRel w wa wr B E Bd vt vf nm ar vl vp vout vorg vlo vk out org k n kc F T a0 q aq vo vg outq orgq) (hlt : ¬ (q : Int) < kc) : outq = out ++ (kidsC F kc.toNat a0).1 ∧ orgq = org ++ (kidsC F kc.toNat a0).2.1 ∧ aq = (kidsC F kc.toNat a0).2.2 := by
  have e : kc.toNat - q = 0 := by omega
  refine ⟨?_, ?_, ?_⟩
  · rw [h.e1, e, kidsC]; simp
  · rw [h.e2, e, kidsC]; simp
  · rw [h.e3, e, kidsC]

theorem kids_pos {T : Nat → Bool} {F : Nat → Cd} {np : Nat} (hF : ∀ a, T a = true → a < (F a).2.2 ∧ (F a).2.2 ≤ np) : ∀ n a, a ≤ np → kidsT T F n a = true → a + n ≤ (kidsC F n a).2.2 ∧ (kidsC F n a).2.2 ≤ np
  | 0, a, ha, _ => by rw [kidsC]; exact ⟨Nat.le_refl _, ha⟩
  | n + 1, a, ha, h => by
    rw [kidsT, Bool.and_eq_true] at h
    have h1 := hF a h.1
    have h2 := kids_pos hF n (F a).2.2 h1.2 h.2
    rw [kidsC]
    exact ⟨by simp only []; omega, h2.2⟩

theorem plain_pos (ps : List (Int × Int × Int)) : ∀ g a, plainT ps g a = true → a < (codeE ps g a).2.2 ∧ (codeE ps g a).2.2 ≤ ps.length
  | 0, a, h => by cases h
  | g + 1, a, h => by
    rw [plainT] at h
    rw [codeE]
    cases hp : ps[a]? with
    | none => rw [hp] at h; cases h
    | some x =>
      obtain ⟨k, n, kc⟩ := x
      rw [hp] at h
      simp only [Bool.and_eq_true] at h
      have hlt : a < ps.length := (List.getElem?_eq_some_iff.1 hp).1
      have h2 := kids_pos (plain_pos ps g) kc.toNat (a + 1) (by omega) h.2
      exact ⟨by simp only []; omega, h2.2⟩

theorem wfin_emit {w wa wr w' : World} {B E Bd : Nat} {vt vf : Value} {nm : ByteArray} {ar : Int} {vl vp vout vorg vlo vk : Value} {out : List (Int × Int)} {org : List Int} {k n kc : Int} {F : Nat → Cd} {T : Nat → Bool} {a0 q aq at_ : Nat} {vo vg : Value} {outq : List (Int × Int)} {orgq : List Int} {c : Cd} {o a : Int}
    (h : WRel w wa wr B E Bd vt vf nm ar vl vp vout vorg vlo vk out org k n kc F T a0 q aq vo vg outq orgq) (hlt : ¬ (q : Int) < kc) (hc : c = ((kidsC F kc.toNat a0).1 ++ finE k n, (kidsC F kc.toNat a0).2.1 ++ (finE k n).map (fun _ => (at_ : Int)), (kidsC F kc.toNat a0).2.2)) (hf : finE k n = [(o, a)])
    (sp : Sp (EmitP Bd vo vg) wr w') (hr : ∃ vo' vg', CodeAt w' E Bd vt vf nm ar vl vp vo' vg' vlo vk (outq ++ [(o, a)]) (orgq ++ [(at_ : Int)]) ∧ (∀ j, j < wr.heap.size → EmitP Bd vo' vg' j → EmitP Bd vo vg j)) :
    WPost w E Bd vt vf nm ar vl vp vout vorg vlo vk out org c (.returned (.int .i64 aq)) w' := by
  obtain ⟨e1, e2, e3⟩ := wrel_end h hlt
  obtain ⟨vo', vg', hC, hrow⟩ := hr
  refine ⟨by rw [hc, e3], sp_trans h.sp sp (fun j hj hp => h.row j hj hp), vo', vg', ?_, fun j hj hp => h.row j hj (hrow j (Nat.lt_of_lt_of_le hj h.sp.size) hp)⟩
  rw [hc, hf]
  simp only [List.map_cons, List.map_nil]
  rw [← List.append_assoc, ← List.append_assoc, ← e1, ← e2]
  exact hC

theorem wfin_none {w wa wr w' : World} {B E Bd : Nat} {vt vf : Value} {nm : ByteArray} {ar : Int} {vl vp vout vorg vlo vk : Value} {out : List (Int × Int)} {org : List Int} {k n kc : Int} {F : Nat → Cd} {T : Nat → Bool} {a0 q aq at_ : Nat} {vo vg : Value} {outq : List (Int × Int)} {orgq : List Int} {c : Cd}
    (h : WRel w wa wr B E Bd vt vf nm ar vl vp vout vorg vlo vk out org k n kc F T a0 q aq vo vg outq orgq) (hlt : ¬ (q : Int) < kc) (hc : c = ((kidsC F kc.toNat a0).1 ++ finE k n, (kidsC F kc.toNat a0).2.1 ++ (finE k n).map (fun _ => (at_ : Int)), (kidsC F kc.toNat a0).2.2)) (hf : finE k n = [])
    (g : wr.grownBy w' none) : WPost w E Bd vt vf nm ar vl vp vout vorg vlo vk out org c (.returned (.int .i64 aq)) w' := by
  obtain ⟨e1, e2, e3⟩ := wrel_end h hlt
  refine ⟨by rw [hc, e3], sp_trans h.sp (sp_grown g (by simp)) (fun j hj hp => hp), vo, vg, ?_, h.row⟩
  rw [hc, hf]
  simp only [List.map_nil, List.append_nil]
  rw [← e1, ← e2]
  exact code_kept h.code g

theorem plain_cls (bc b6 : Nat) (k n : Int) (h : plainK k = true) (h1 : k ≠ 1) : k ∈ keysE ∧ ((∃ o, endK bc b6 k = .pl o ∧ finE k n = [(o, 0)]) ∨ (∃ o, endK bc b6 k = .wi o v5E ∧ finE k n = [(o, n)]) ∨ (endK bc b6 k = .fn (vnE bc) ∧ finE k n = [(n, 0)])) := by
  simp only [plainK, Bool.or_eq_true, beq_iff_eq] at h
  rcases h with ((((((((((((((h | h) | h) | h) | h) | h) | h) | h) | h) | h) | h) | h) | h) | h) | h) | h
  · exact absurd h h1
  · subst h; exact ⟨by decide, Or.inr (Or.inl ⟨_, rfl, rfl⟩)⟩
  · subst h; exact ⟨by decide, Or.inl ⟨_, rfl, rfl⟩⟩
  · subst h; exact ⟨by decide, Or.inl ⟨_, rfl, rfl⟩⟩
  · subst h; exact ⟨by decide, Or.inl ⟨_, rfl, rfl⟩⟩
  · subst h; exact ⟨by decide, Or.inl ⟨_, rfl, rfl⟩⟩
  · subst h; exact ⟨by decide, Or.inl ⟨_, rfl, rfl⟩⟩
  · subst h; exact ⟨by decide, Or.inr (Or.inl ⟨_, rfl, rfl⟩)⟩
  · subst h; exact ⟨by decide, Or.inr (Or.inl ⟨_, rfl, rfl⟩)⟩
  · subst h; exact ⟨by decide, Or.inl ⟨_, rfl, rfl⟩⟩
  · subst h; exact ⟨by decide, Or.inl ⟨_, rfl, rfl⟩⟩
  · subst h; exact ⟨by decide, Or.inl ⟨_, rfl, rfl⟩⟩
  · subst h; exact ⟨by decide, Or.inr (Or.inr ⟨rfl, rfl⟩)⟩
  · subst h; exact ⟨by decide, Or.inr (Or.inr ⟨rfl, rfl⟩)⟩
  · subst h; exact ⟨by decide, Or.inr (Or.inl ⟨_, rfl, rfl⟩)⟩
  · subst h; exact ⟨by decide, Or.inr (Or.inl ⟨_, rfl, rfl⟩)⟩

theorem sp_drewN {P : Nat → Prop} {w w' : World} {n : Nat} (h : Sp P (w.drewN n) w') : Sp P w w' := ⟨h.os, h.tape, h.output, h.size, h.block⟩

end Go.Proofs.Ytecaolkbllbokaa.TG
