/-
  What is looked up in the compiler's map of ends. Conditions: as each theorem states.
-/
import Derived.Test.YtecaolkbllbokaaCpEndsD
namespace Go.Proofs.Ytecaolkbllbokaa.TG
open Go.RowKit Go.Great
set_option linter.unusedSimpArgs false
set_option linter.unusedVariables false

theorem fn_zero : (Try.prog.info? 145).map (fun i => i.zero) = some (some .nilFunc) := by kernel_rfl
theorem run_zero_fn (w : World) : (zeroValue 145).run Try.prog w = .ok .nilFunc w := by kernel_rfl

theorem look_any {w : World} {M : Nat} {es : Array MapEntry} {ck : Nat} {k : Int} (hM : w.heap[M]? = some (.map es ck)) (hks : ∀ x ∈ es.toList, MapKept.IsKey (.int .i64) x.key) :
    (∃ x ∈ es.toList, x.key = .int .i64 k ∧ ∀ n, (Instr.lookup 112 (.map (some M)) (.int .i64 k) true).run Try.prog (w.drewN n) = .ok (.tuple #[x.val, .bool true]) (w.drewN n)) ∨
    ((∀ x ∈ es.toList, x.key ≠ .int .i64 k) ∧ ∀ n, (Instr.lookup 112 (.map (some M)) (.int .i64 k) true).run Try.prog (w.drewN n) = .ok (.tuple #[.nilFunc, .bool false]) (w.drewN n)) := by
  have hm : Try.prog.underlying 112 = some (.map 3 145) := by kernel_rfl
  have hd : Try.prog.underlying 3 = some (.int .i64) := by kernel_rfl
  have hk : MapKept.IsKey (.int .i64) (.int .i64 k) := rfl
  rcases MapKept.findNow_spec hk es.toList 0 hks with ⟨h1, h2⟩ | ⟨j, e, h1, h2, h3⟩
  · refine Or.inr ⟨h2, fun n => ?_⟩
    have hMn : (w.drewN n).heap[M]? = some (.map es ck) := hM
    simp [Instr.lookup, run_underlying hm, MapKept.run_getObj_map hMn, MapKept.run_checkKey hd hk, MapKept.run_findKey hd h1, run_zero_fn, Result.andThen]
  · refine Or.inl ⟨e, List.mem_of_getElem? h2, h3, fun n => ?_⟩
    have hMn : (w.drewN n).heap[M]? = some (.map es ck) := hM
    simp [Instr.lookup, run_underlying hm, MapKept.run_getObj_map hMn, MapKept.run_checkKey hd hk, MapKept.run_findKey hd h1, Result.andThen]

/-- What lies behind a closure of ends, its boxes between the code's block and E. -/
def SlB (Bd E bc : Nat) (w : World) (v : Value) : KE → Prop
  | .fn x => v = x
  | .pl op => ∃ b, v = fnV 66 #[ptrV b] ∧ Bd < b ∧ b < E ∧ w.cell? ⟨b, 0, none⟩ = some (.int .i64 op)
  | .wi op fv => ∃ b3 b4, v = fnV 68 #[ptrV b3, ptrV b4, ptrV bc] ∧ (Bd < b3 ∧ b3 < E) ∧ (Bd < b4 ∧ b4 < E) ∧ w.cell? ⟨b3, 0, none⟩ = some (.int .i64 op) ∧ w.cell? ⟨b4, 0, none⟩ = some fv
  | _ => True

theorem slB_of {lo bc Bd : Nat} {w : World} {v : Value} {K : KE} (h : SlK lo bc w v v K) (hb : Bd < lo) : SlB Bd w.heap.size bc w v K := by
  cases K with
  | pl op => obtain ⟨b, e, hl, hc⟩ := h; exact ⟨b, e, by omega, World.block_lt_of_cell? _ _ hc, hc⟩
  | wi op fv => obtain ⟨b3, b4, e, h3, h4, c3, c4⟩ := h; exact ⟨b3, b4, e, ⟨by omega, World.block_lt_of_cell? _ _ c3⟩, ⟨by omega, World.block_lt_of_cell? _ _ c4⟩, c3, c4⟩
  | fn x => exact h
  | _ => trivial

theorem slB_kept {Bd E bc : Nat} {w w' : World} {v : Value} {K : KE} (h : SlB Bd E bc w v K) (hs : ∀ k, Bd < k → k < E → w'.heap[k]? = w.heap[k]?) : SlB Bd E bc w' v K := by
  cases K with
  | pl op => obtain ⟨b, e, h1, h2, hc⟩ := h; exact ⟨b, e, h1, h2, by rw [heap_cell (hs b h1 h2)]; exact hc⟩
  | wi op fv => obtain ⟨b3, b4, e, h3, h4, c3, c4⟩ := h; exact ⟨b3, b4, e, h3, h4, by rw [heap_cell (hs b3 h3.1 h3.2)]; exact c3, by rw [heap_cell (hs b4 h4.1 h4.2)]; exact c4⟩
  | _ => exact h

/-- The kinds' map and what hangs on it, between the code's block and E. -/
structure KindsAt (w : World) (Bd E bc b6 M : Nat) : Prop where
  cb : w.cell? ⟨bc, 0, none⟩ = some (ptrV Bd)
  c6 : w.cell? ⟨b6, 0, none⟩ = some (vnE bc)
  lb : Bd < bc ∧ bc < E
  l6 : Bd < b6 ∧ b6 < E
  lM : Bd < M ∧ M < E
  mp : ∃ es ck, w.heap[M]? = some (.map es ck) ∧ (∀ x ∈ es.toList, ∃ k, x.key = .int .i64 k ∧ k ∈ keysE ∧ SlB Bd E bc w x.val (endK bc b6 k)) ∧ (∀ k ∈ keysE, ∃ x ∈ es.toList, x.key = .int .i64 k)

theorem kinds_kept {w w' : World} {Bd E bc b6 M : Nat} (h : KindsAt w Bd E bc b6 M) (hs : ∀ k, Bd < k → k < E → w'.heap[k]? = w.heap[k]?) : KindsAt w' Bd E bc b6 M := by
  obtain ⟨es, ck, hM, h1, h2⟩ := h.mp
  refine ⟨by rw [heap_cell (hs bc h.lb.1 h.lb.2)]; exact h.cb, by rw [heap_cell (hs b6 h.l6.1 h.l6.2)]; exact h.c6, h.lb, h.l6, h.lM, es, ck, by rw [hs M h.lM.1 h.lM.2]; exact hM, fun x hx => ?_, h2⟩
  obtain ⟨k, e, hin, hsl⟩ := h1 x hx
  exact ⟨k, e, hin, slB_kept hsl hs⟩

theorem kinds_of_ends {w w' : World} {Bd : Nat} {e : Ending} (h : EndsPost w Bd e w') (hb : Bd < w.heap.size) : ∃ bc b6 M, e = .returned (.map (some M)) ∧ w.grownBy w' none ∧ KindsAt w' Bd w'.heap.size bc b6 M := by
  obtain ⟨lo, bc, b6, M, he, g, hlo, hbc, hb6, hM, cb, c6, es, ck, hh, h1, h2⟩ := h
  refine ⟨bc, b6, M, he, g, cb, c6, ⟨by omega, World.block_lt_of_cell? _ _ cb⟩, ⟨by omega, World.block_lt_of_cell? _ _ c6⟩, ⟨by omega, (Array.getElem?_eq_some_iff.1 hh).1⟩, es, ck, hh, fun x hx => ?_, h2⟩
  obtain ⟨k, e, hin, hsl⟩ := h1 x hx
  exact ⟨k, e, hin, slB_of hsl (by omega)⟩

theorem look_in {w : World} {Bd E bc b6 M : Nat} (h : KindsAt w Bd E bc b6 M) {k : Int} (hk : k ∈ keysE) :
    ∃ v, SlB Bd E bc w v (endK bc b6 k) ∧ ∀ n, (Instr.lookup 112 (.map (some M)) (.int .i64 k) true).run Try.prog (w.drewN n) = .ok (.tuple #[v, .bool true]) (w.drewN n) := by
  obtain ⟨es, ck, hM, h1, h2⟩ := h.mp
  have hks : ∀ x ∈ es.toList, MapKept.IsKey (.int .i64) x.key := fun x hx => by obtain ⟨k', e, _⟩ := h1 x hx; rw [e]; rfl
  rcases look_any (k := k) hM hks with ⟨x, hx, hkx, hr⟩ | ⟨hno, _⟩
  · obtain ⟨k', e, _, hs⟩ := h1 x hx
    rw [hkx] at e; injection e with e1 e2; subst e2
    exact ⟨x.val, hs, hr⟩
  · obtain ⟨x, hx, e⟩ := h2 k hk
    exact absurd e (hno x hx)

theorem look_out {w : World} {Bd E bc b6 M : Nat} (h : KindsAt w Bd E bc b6 M) {k : Int} (hk : k ∉ keysE) :
    ∀ n, (Instr.lookup 112 (.map (some M)) (.int .i64 k) true).run Try.prog (w.drewN n) = .ok (.tuple #[.nilFunc, .bool false]) (w.drewN n) := by
  obtain ⟨es, ck, hM, h1, h2⟩ := h.mp
  have hks : ∀ x ∈ es.toList, MapKept.IsKey (.int .i64) x.key := fun x hx => by obtain ⟨k', e, _⟩ := h1 x hx; rw [e]; rfl
  rcases look_any (k := k) hM hks with ⟨x, hx, hkx, hr⟩ | ⟨hno, hr⟩
  · obtain ⟨k', e, hin, hs⟩ := h1 x hx
    rw [hkx] at e; injection e with e1 e2; subst e2
    exact absurd hin hk
  · exact hr

/-- What an emit or the like leaves of the kinds. -/
theorem kinds_sp {w w' : World} {Bd E bc b6 M : Nat} {vout vorg : Value} (h : KindsAt w Bd E bc b6 M) (g : Sp (EmitP Bd vout vorg) w w') (ho : ∀ k, vout.ownBlock = some k → E ≤ k) (hr : ∀ k, vorg.ownBlock = some k → E ≤ k) (hE : E ≤ w.heap.size) : KindsAt w' Bd E bc b6 M :=
  kinds_kept h fun k hk1 hk2 => g.block k (by omega) (by
    rintro (e | e | e)
    · omega
    · have := ho k e; omega
    · have := hr k e; omega)

end Go.Proofs.Ytecaolkbllbokaa.TG
