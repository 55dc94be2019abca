/-
  The steps of the compiler's ends, operation by operation. Conditions: as each theorem states.
-/
import Derived.Test.YtecaolkbllbokaaCpEndsB
namespace Go.Proofs.Ytecaolkbllbokaa.TG
open Go.RowKit Go.Great
set_option linter.unusedSimpArgs false
set_option linter.unusedVariables false

theorem plain_make (op : Int) (w : World) : Calls Try.prog 65 #[.int .i64 op] w fun e w' => ∃ v, e = .returned v ∧ w.grownBy w' none ∧ ∀ lo, lo ≤ w.heap.size → PlainV lo op v w' := by
  go_enter Try.func65, Try.ntmps65
  go_wp2
  go_ret
  exact ⟨_, rfl, World.grownBy_alloc _ _ _, fun lo h => ⟨w.heap.size, rfl, h, by simp⟩⟩

theorem with_make (op : Int) (fv : Value) (bc : Nat) (w : World) (f : Fn) (x y : Array Value) (hfv : fv = .func f x y) : Calls Try.prog 67 #[.int .i64 op, fv, ptrV bc] w fun e w' => ∃ v, e = .returned v ∧ w.grownBy w' none ∧ ∀ lo, lo ≤ w.heap.size → WithV lo bc op fv v w' := by
  subst hfv
  unfold ptrV
  go_enter Try.func67, Try.ntmps67
  go_wp2
  go_ret
  exact ⟨_, rfl, grownBy_trans (World.grownBy_alloc _ _ _) (World.grownBy_alloc _ _ _), fun lo h => ⟨w.heap.size, w.heap.size + 1, rfl, h, by omega, by simp, by simp⟩⟩

section
variable {ops : Array Oper} {Q : Exit → Act → World → Prop} {w1 : World} {bc b6 lo i : Nat} {l : Array Bool} {a : Act} {w : World}

theorem wpOp_value {K : Act → World → Prop} {o : Oper} {v : Value} {w' : World} (ho : ops[i]? = some o) (hg : o.guard = none) (hrun : (execOp a.eval o).run Try.prog w = .ok (.value v) w') (h : K (a.put o.dst v) w') : wpOp Try.prog ops Q i K a w := by
  unfold wpOp
  simp only [ho, Region.wanted, hg]
  refine Or.inl ?_
  unfold Oper.wp
  rw [hrun, Oper.upon_value]
  exact h

theorem wpOp_skip {K : Act → World → Prop} {o : Oper} {w' : World} (ho : ops[i]? = some o) (hg : o.guard = none) (hd : o.dst = none) (hrun : (execOp a.eval o).run Try.prog w = .ok .skip w') (h : K a w') : wpOp Try.prog ops Q i K a w := by
  unfold wpOp
  simp only [ho, Region.wanted, hg]
  refine Or.inl ?_
  unfold Oper.wp
  rw [hrun]
  simp only [Oper.upon, hd]
  exact h

theorem wpOp_enter {K : Act → World → Prop} {o : Oper} {f : FuncId} {args : Array Value} (ho : ops[i]? = some o) (hg : o.guard = none) (hrun : (execOp a.eval o).run Try.prog w = .ok (.enter f args) w)
    (h : Calls Try.prog f args w fun e w' => ∃ v, e = .returned v ∧ K (a.put o.dst v) w') : wpOp Try.prog ops Q i K a w := by
  unfold wpOp
  simp only [ho, Region.wanted, hg]
  refine Or.inl ?_
  unfold Oper.wp
  rw [hrun]
  simp only [Oper.upon]
  refine h.mono fun e w' he => ?_
  obtain ⟨v, rfl, hK⟩ := he
  exact hK

theorem st_move {o : Oper} {s : Tmp} (hJ : EJ w1 bc b6 lo l a w) (ho : ops[i]? = some o) (hg : o.guard = none) (hop : o.op = .move (.tmp s)) (hdst : o.dst = some (dE i)) (hi : i < 62) (hd : dE i < 51) (hi0 : i ≠ 0)
    (hk : ∀ k s, kE bc b6 i ≠ .ins k s) (hf : kE bc b6 i = .fin → l.getD 0 false = true) (hv : SlK lo bc w (tm a s) (tm a 9) (kE bc b6 i)) :
    wpOp Try.prog ops Q i (fun a' w' => EJ w1 bc b6 lo (l.setIfInBounds i true) a' w') a w := by
  refine wpOp_value ho hg (v := tm a s) (w' := w) (by simp [execOp, hop, Act.eval, tm]) ?_
  rw [hdst]
  exact ej_val hJ hi hd hi0 hk hf (grownBy_refl _ _) hv

theorem st_assign {o : Oper} {s : Tmp} (hJ : EJ w1 bc b6 lo l a w) (ho : ops[i]? = some o) (hg : o.guard = none) (hop : o.op = .assign (.tmp s)) (hdst : o.dst = some (dE i)) (hi : i < 62) (hd : dE i < 51) (hi0 : i ≠ 0)
    (hk : ∀ k s, kE bc b6 i ≠ .ins k s) (hf : kE bc b6 i = .fin → l.getD 0 false = true) (hv : SlK lo bc w (tm a s) (tm a 9) (kE bc b6 i)) :
    wpOp Try.prog ops Q i (fun a' w' => EJ w1 bc b6 lo (l.setIfInBounds i true) a' w') a w := by
  refine wpOp_value ho hg (v := tm a s) (w' := w) (by simp [execOp, hop, Act.eval, tm]) ?_
  rw [hdst]
  exact ej_val hJ hi hd hi0 hk hf (grownBy_refl _ _) hv

theorem st_plain {o : Oper} {s : Tmp} {op : Int} {ts : Array TypeId} (hJ : EJ w1 bc b6 lo l a w) (ho : ops[i]? = some o) (hg : o.guard = none) (hop : o.op = .call { callee := .value (.tmp s), args := #[.const (.int .i64 op)], argTypes := ts }) (hdst : o.dst = some (dE i)) (hi : i < 62) (hd : dE i < 51) (hi0 : i ≠ 0)
    (hki : kE bc b6 i = .pl op) (hs : tm a s = v3E) : wpOp Try.prog ops Q i (fun a' w' => EJ w1 bc b6 lo (l.setIfInBounds i true) a' w') a w := by
  unfold tm at hs
  refine wpOp_enter ho hg (f := 65) (args := #[.int .i64 op]) (by simp [execOp, hop, Act.eval, hs, v3E, fnV, go_sem]) ?_
  refine (plain_make op w).mono fun e w' h => ?_
  obtain ⟨v, rfl, g, hv⟩ := h
  refine ⟨v, rfl, ?_⟩
  rw [hdst]
  exact ej_val hJ hi hd hi0 (by rw [hki]; simp) (by rw [hki]; simp) g (by rw [hki]; exact hv lo (by rw [hJ.hlo]; exact hJ.g.size))

theorem st_with {o : Oper} {s s2 : Tmp} {op : Int} {fv : Value} {f : Fn} {x y : Array Value} {ts : Array TypeId} (hJ : EJ w1 bc b6 lo l a w) (ho : ops[i]? = some o) (hg : o.guard = none) (hop : o.op = .call { callee := .value (.tmp s), args := #[.const (.int .i64 op), .tmp s2], argTypes := ts }) (hdst : o.dst = some (dE i)) (hi : i < 62) (hd : dE i < 51) (hi0 : i ≠ 0)
    (hki : kE bc b6 i = .wi op fv) (hs : tm a s = v4E bc) (hs2 : tm a s2 = fv) (hfv : fv = .func f x y) : wpOp Try.prog ops Q i (fun a' w' => EJ w1 bc b6 lo (l.setIfInBounds i true) a' w') a w := by
  unfold tm at hs hs2
  refine wpOp_enter ho hg (f := 67) (args := #[.int .i64 op, fv, ptrV bc]) (by simp [execOp, hop, Act.eval, hs, hs2, v4E, fnV, go_sem]) ?_
  refine (with_make op fv bc w f x y hfv).mono fun e w' h => ?_
  obtain ⟨v, rfl, g, hv⟩ := h
  refine ⟨v, rfl, ?_⟩
  rw [hdst]
  exact ej_val hJ hi hd hi0 (by rw [hki]; simp) (by rw [hki]; simp) g (by rw [hki]; exact hv lo (by rw [hJ.hlo]; exact hJ.g.size))

theorem st_fn {o : Oper} {s : Tmp} {f : FuncId} (hJ : EJ w1 bc b6 lo l a w) (ho : ops[i]? = some o) (hg : o.guard = none) (hop : o.op = .makeFunc (.func f) #[] #[.tmp s]) (hdst : o.dst = some (dE i)) (hi : i < 62) (hd : dE i < 51) (hi0 : i ≠ 0)
    (hki : kE bc b6 i = .fn (fnV f #[tm a s])) : wpOp Try.prog ops Q i (fun a' w' => EJ w1 bc b6 lo (l.setIfInBounds i true) a' w') a w := by
  refine wpOp_value ho hg (v := fnV f #[tm a s]) (w' := w) (by simp [execOp, hop, Act.eval, tm, fnV, Instr.makeFunc]) ?_
  rw [hdst]
  exact ej_val hJ hi hd hi0 (by rw [hki]; simp) (by rw [hki]; simp) (grownBy_refl _ _) (by rw [hki]; rfl)

theorem st_load {o : Oper} {s : Tmp} {t : TypeId} (hJ : EJ w1 bc b6 lo l a w) (ho : ops[i]? = some o) (hg : o.guard = none) (hop : o.op = .load 145 (.tmp s)) (hdst : o.dst = some (dE i)) (hi : i < 62) (hd : dE i < 51) (hi0 : i ≠ 0)
    (hki : kE bc b6 i = .fn (vnE bc)) (hs : tm a s = ptrV b6) : wpOp Try.prog ops Q i (fun a' w' => EJ w1 bc b6 lo (l.setIfInBounds i true) a' w') a w := by
  have hc : w.cell? ⟨b6, 0, none⟩ = some (vnE bc) := hJ.g.cell hJ.c6 (by simp)
  unfold tm at hs
  refine wpOp_value ho hg (v := vnE bc) (w' := w) (by simp [execOp, hop, Act.eval, hs, ptrV, hc, go_sem]) ?_
  rw [hdst]
  exact ej_val hJ hi hd hi0 (by rw [hki]; simp) (by rw [hki]; simp) (grownBy_refl _ _) (by rw [hki]; rfl)

theorem st_ins {o : Oper} {k : Int} {x : Operand} {s : Nat} (hJ : EJ w1 bc b6 lo l a w) (ho : ops[i]? = some o) (hg : o.guard = none) (hop : o.op = .insert 112 (.tmp 9) (.const (.int .i64 k)) x) (hdst : o.dst = none) (hi : i < 62)
    (hki : kE bc b6 i = .ins k s) (h0 : l.getD 0 false = true) (hv : SlK lo bc w (a.eval x) (a.eval x) (endK bc b6 k)) : wpOp Try.prog ops Q i (fun a' w' => EJ w1 bc b6 lo (l.setIfInBounds i true) a' w') a w := by
  obtain ⟨M, w', hM, hrun, hJ'⟩ := ej_ins hJ hi hki h0 hv
  unfold tm at hM
  refine wpOp_skip ho hg hdst (w' := w') ?_ hJ'
  have e9 : a.eval (.tmp 9) = .map (some M) := hM
  have ek : a.eval (.const (.int .i64 k)) = .int .i64 k := rfl
  simp only [execOp, hop, e9, ek, Sem.run_bind, hrun, Result.andThen]
  rfl

theorem st_mk {o : Oper} (hJ : EJ w1 bc b6 lo l a w) (ho : ops[0]? = some o) (hg : o.guard = none) (hop : o.op = .makeMap 112 none) (hdst : o.dst = some 9) (hun : l.getD 0 false = false) :
    wpOp Try.prog ops Q 0 (fun a' w' => EJ w1 bc b6 lo (l.setIfInBounds 0 true) a' w') a w := by
  refine wpOp_value ho hg (v := .map (some w.heap.size)) (w' := w.alloc (.map #[] 0)) (by simp [execOp, hop, Instr.makeMap, Result.andThen]) ?_
  rw [hdst]
  exact ej_mk hJ hun
end

end Go.Proofs.Ytecaolkbllbokaa.TG
