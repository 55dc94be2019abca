/-
  Walk of the compiler's ends: the map of what stands behind the kids' code, built in whatever order Go picks. Conditions: as each theorem states.
-/
import Derived.Test.YtecaolkbllbokaaCpEnd3
import Derived.MapKept
import Derived.MapFrom
namespace Go.Proofs.Ytecaolkbllbokaa.TG
open Go.RowKit Go.Great
set_option linter.unusedSimpArgs false
set_option linter.unusedVariables false

/-! ### A region in whatever order: an invariant over what has come up -/
section
variable {P : Program} {ops : Array Oper} {Q : Exit → Act → World → Prop}

theorem all_listed (hdag : ∀ (j : Nat) (o : Oper), ops[j]? = some o → ∀ e ∈ o.after, e.on < j) {l : Array Bool} (h : Region.ready .any ops l = []) (hsz : l.size = ops.size) : ∀ j, j < ops.size → l.getD j false = true := by
  intro j
  induction j using Nat.strongRecOn with
  | _ j ih =>
    intro hj
    by_cases hl : l.getD j false = true
    · exact hl
    · exfalso
      have hlt : j < l.size := by omega
      have h1 : l.getD j true = false := by
        simp only [Array.getD, hlt, dif_pos] at hl ⊢
        simpa using hl
      have : j ∈ Region.ready .any ops l := mem_ready.2 ⟨h1, ops[j], by simp [hj], fun e he _ => ih e.on (hdag j ops[j] (by simp [hj]) e he) (Nat.lt_trans (hdag j ops[j] (by simp [hj]) e he) hj)⟩
      rw [h] at this
      cases this

theorem wpAny_inv (J : Array Bool → Act → World → Prop)
    (step : ∀ l a w i, J l a w → i ∈ Region.ready .any ops l → wpOp P ops Q i (fun a' w' => J (l.setIfInBounds i true) a' w') a w)
    (fin : ∀ l a w, J l a w → (Region.ready .any ops l = []) → Q .normal a w) :
    ∀ fuel l a w, J l a w → l.toList.count false ≤ fuel → wpAny P .any ops Q fuel l a w
  | 0, l, a, w, hJ, hc => by
    have hnil : Region.ready .any ops l = [] := by
      cases hr : Region.ready .any ops l with
      | nil => rfl
      | cons i r =>
        exfalso
        have hi : i ∈ Region.ready .any ops l := by rw [hr]; exact List.mem_cons_self ..
        have h1 := (mem_ready.1 hi).1
        have hlt : i < l.size := by
          rcases Nat.lt_or_ge i l.size with h' | h'
          · exact h'
          · simp [Array.getElem?_eq_none h'] at h1
        have hm : false ∈ l.toList := by
          have : l[i] = false := by simpa [hlt] using h1
          rw [← this]; exact Array.mem_toList_iff.2 (Array.getElem_mem hlt)
        have := List.count_pos_iff.2 hm
        omega
    exact ⟨hnil, fin l a w hJ hnil⟩
  | fuel + 1, l, a, w, hJ, hc => by
    refine ⟨fun h => fin l a w hJ h, fun i hi => wpOp_mono (fun a' w' hJ' => wpAny_inv J step fin fuel _ a' w' hJ' ?_) (step l a w i hJ hi)⟩
    have h1 := (mem_ready.1 hi).1
    have hlt : i < l.size := by
      rcases Nat.lt_or_ge i l.size with h' | h'
      · exact h'
      · simp [Array.getElem?_eq_none h'] at h1
    have hf : l[i] = false := by simpa [hlt] using h1
    have hm : false ∈ l.toList := by rw [← hf]; exact Array.mem_toList_iff.2 (Array.getElem_mem hlt)
    have hpos := List.count_pos_iff.2 hm
    rw [Array.toList_setIfInBounds, List.count_set (by simpa using hlt)]
    have e1 : (l.toList[i]'(by simpa using hlt) == false) = true := by rw [Array.getElem_toList, hf]; rfl
    rw [if_pos e1, if_neg (by decide)]
    omega
end

end Go.Proofs.Ytecaolkbllbokaa.TG
