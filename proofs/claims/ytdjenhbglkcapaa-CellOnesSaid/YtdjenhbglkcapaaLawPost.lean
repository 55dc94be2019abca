/-
  A law's end, for parameters of whatever readable types: where the call has returned true and the world has at most grown, the given row's post holds: each argument reads as it did. Conditions: as the theorem states.
-/
import Derived.ProofKit
import Derived.OpenShut
import Derived.Below
import Derived.RowKit3
import Derived.Deep.Frames
import Derived.Carry
namespace Go.Proofs.Ytdjenhbglkcapaa.LP
open Go.ChangeShapes Go.WideShapes Go.ChangeAt Go.RowKit
set_option linter.unusedSimpArgs false
set_option linter.unusedVariables false

section
variable {H : Type} {enc : TypeId × Value → H} {P : Program}

theorem grown_same {W W' : World} (hg : Grown W W') {p : MemPlace} (hp : p.block < W.heap.size) : W.sameAt W' p := by
  have hb := World.keptBut.block hg.1 hp (fun q hq => hq.elim)
  cases p with
  | cell b off => exact World.cell?_of_block (w := W) hb
  | map b => exact hb

theorem args_stay (hl : laidOutB P = true) {W W' : World} {sp : Nat → Bool} (hg : Grown W W') :
    ∀ {ts : List TypeId} {vs : List Value} {ds : List (DataW H)} {ps : List MemPlace}, (∀ t ∈ ts, P.readableRec t = true ∧ t < P.types.size) →
    DataW.TrodAll enc P W 0 (fun _ => true) true ts vs ds ps → (∀ p ∈ ps, p.block < W.heap.size) → (∀ p ∈ ps, sp p.block = true) → DataW.TrodAll enc P W' 0 sp true ts vs ds ps
  | [], [], [], _, _, h, _, _ => h
  | t :: ts, _ :: _, _ :: _, _, hr, ⟨p, q, h1, h2, e⟩, hlt, hs =>
    ⟨p, q, WideElems.Trod_stays hl (hr t (List.mem_cons.2 (Or.inl rfl))).1 (hr t (List.mem_cons.2 (Or.inl rfl))).2 h1
        (fun x hx => grown_same hg (hlt x (by rw [e]; exact List.mem_append_left _ hx)))
        (fun x hx => hs x (by rw [e]; exact List.mem_append_left _ hx)),
      args_stay hl hg (fun t ht => hr t (List.mem_cons.2 (Or.inr ht))) h2
        (fun x hx => hlt x (by rw [e]; exact List.mem_append_right _ hx)) (fun x hx => hs x (by rw [e]; exact List.mem_append_right _ hx)), e⟩

theorem law_post {f : Func} {s : ChangeSpec} {tb : TypeId} {apart fresh handsOn again : Bool} {W W' : World} {args : Array Value} {ds gs : List (DataW H)} {before : List MemPlace}
    (hl : laidOutB P = true) (hr : ∀ t ∈ f.params.toList, P.readableRec t = true ∧ t < P.types.size) (hv : s.vars = [])
    (hres : f.resultTypes = #[tb]) (hb : P.underlying tb = some .bool)
    (hW : DataW.Whole enc P f.params.toList s.vars apart W args.toList ds gs before)
    (hfn : gs = [] → s.fn H (ds ++ gs) = { results := [.lit (.bool true)], args := ds }) (hg : Grown W W') :
    s.post enc P f apart fresh handsOn again W args (.bool true) W' := by
  have hW' := hW
  obtain ⟨p, q, hA, hV, rfl, hfz, hnd⟩ := hW'
  have hgs : gs = [] ∧ q = [] := by
    rw [hv] at hV
    cases gs with
    | nil => exact ⟨rfl, hV⟩
    | cons g gs => exact absurd hV (fun h => h)
  obtain ⟨rfl, rfl⟩ := hgs
  have hf := hfn rfl
  refine post_of_same (pa := p) (pv := []) hW (fun b sp hd => ?_) (fun sp hsp => ?_) (fun sp hsp => ?_) (by simp) (hg.frame _) hg.2.1 ?_
  · rw [hf, hres]
    exact trodAll_cons_mk (shut_bool hb _) trodAll_mk0
  · rw [hf]
    exact args_stay hl hg hr hA (fun x hx => hW.lt x (List.mem_append_left _ hx)) (fun x hx => hsp x (List.mem_append_left _ hx))
  · rw [hf, hv]; exact rfl
  · exact ok_one hres rfl (okWide_bool_mk hb _)
end

end Go.Proofs.Ytdjenhbglkcapaa.LP
