/-
  Proved: called with any input of bulk at most 1048576, the Go function retort/retortlaw18.CompTaken returns true, and its arguments read afterwards as they read before (the given statement Rows.CompTakenUptoSaid). Conditions: none beside those that the given row states.
-/
import Derived.Test.YtecaolkbllbokaaRows
import Derived.Test.YtecaolkbllbokaaMT08
import Derived.WalkKit
import Derived.ProofKit
import Derived.OpenShut
import Derived.JoinedCond
import Derived.Test.YtecaolkbllbokaaMT16
import Derived.Test.YtecaolkbllbokaaMT42
set_option linter.unusedSimpArgs false
set_option linter.unusedVariables false
set_option maxRecDepth 100000
set_option maxHeartbeats 16000000
namespace Go.Proofs.Ytecaolkbllbokaa.compTakenUpto
open Go.ChangeShapes Go.WideShapes Go.ChangeAt Go.RowKit
theorem own : ownKnob Try.prog.godebug = none := by kernel_rfl
theorem Ytu : laidOutB Try.prog = true := by kernel_rfl
theorem Yln : ∀ t ∈ Try.f7.params.toList, Try.prog.readableRec t = true /\ t < Try.prog.types.size := by
 intro t ht
 rw [Try.params7] at ht
 simp only [List.mem_cons, List.not_mem_nil, or_false] at ht
 rcases ht with rfl | rfl
 all_goals exact ⟨by kernel_rfl, of_decide_eq_true (by kernel_rfl)⟩
theorem Yoz (H : Type) (enc : TypeId × Value -> H) (W : World) (base : Nat) (args : Array Value) (ds gs : List (DataW H)) (before : List MemPlace)
 (hval0 : ∀ (j : Nat) t v, Try.f7.params[j]? = some t -> args[j]? = some v -> Value.okWide Try.prog W .any base t v)
 (hW : DataW.Whole enc Try.prog Try.f7.params.toList Rows.compTakenSpec.vars false W args.toList ds gs before) (hk : Rows.uptoSmall H (ds ++ gs) = true) :
 Calls Try.prog 7 args W fun e W' => ∃ v, e = .returned v /\ Rows.compTakenSpec.post enc Try.prog Try.f7 false true false false W args v W' := by
 have hval : ∀ (j : Nat) t v, Try.f7.params[j]? = some t -> args[j]? = some v -> Value.okWide Try.prog W .any base t v := hval0
 have hW' := hW
 obtain ⟨p, q, hA0, hV, hbefore, hfz, hnd⟩ := hW
 have hA : DataW.TrodAll enc Try.prog W 0 (fun _ => true) true Try.f7.params.toList args.toList ds p := hA0
 rw [Try.params7] at hA hval
 obtain ⟨v0, vs0, d0, ds0, p0, q0, hargs, rfl, rfl, h0, r0⟩ := trodAll_cons hA
 obtain ⟨v1, vs1, d1, ds1, p1, q1, rfl, rfl, rfl, h1, r1⟩ := trodAll_cons r0
 obtain ⟨rfl, rfl, rfl⟩ := trodAll_nil r1
 obtain rfl : args = #[v0, v1] := by cases args; simp_all
 obtain ⟨rfl, rfl⟩ := trodVars_none hV
 have hk := of_decide_eq_true hk
 have o0 := hval 0 25 v0 rfl rfl
 have o1 := hval 1 3 v1 rfl rfl
 have hcall : Calls Try.prog 7 #[v0, v1] W fun e w' => e = .returned (.bool true) /\ W.grownBy w' none := by
  have hb : Rows.uptoBulk d0 <= 1048576 := by
   have h := hk
   simp only [List.append_nil, List.nil_append, List.cons_append, Rows.uptoBulkAll] at h
   omega
  obtain ⟨cs, hcs, _⟩ := okWide_struct Try.underlying25 o0
  obtain ⟨u, pt, pf, ct, cf, rfl, hL⟩ := TG.Yfy ⟨cs, hcs⟩ h0 hb
  obtain ⟨a1, rfl, -, -, -⟩ := open_int TG.Yap o1 h1
  exact CT.Yhq u a1 pt pf ct cf _ W hL
 refine hcall.mono fun e W' ⟨he, hg⟩ => ?_
 subst he
 exact ⟨_, rfl, TG.Ycy Ytu Yln rfl rfl Try.underlying4 hW' (fun h => rfl) hg⟩
theorem Yyk (os : Os) (started : os.Started) (H : Type) (enc : TypeId × Value -> H) (F : Stop.Interp) :
 ReturnsInHanded {} Try.checked os 7 .any ((Rows.OpenSpec.upto Rows.compTakenSpec).pre6 enc Try.prog Try.f7 Rows.compTakenUptoRow.domain false) (((Rows.OpenSpec.upto Rows.compTakenSpec).at F).post enc Try.prog Try.f7 false true false false) := by
 refine returnsInHanded_of_cond (C := Try.checked) (s := Rows.OpenSpec.upto Rows.compTakenSpec) (k := Rows.uptoSmall) rfl own started (by kernel_rfl) Try.func7
  (OpenSpec.witness (enc := enc) (C := Try.checked) (s := Rows.OpenSpec.upto Rows.compTakenSpec) (k := Rows.uptoSmall) rfl false ⟨#[], #[.agg #[.slice none 0 0, .slice none 0 0], .int .i64 0], []⟩ 8 (by kernel_rfl) (by kernel_rfl) (by kernel_rfl)
    (x := ([.agg [.nil, .nil], .lit (.int .i64 0)], [], [])) (by kernel_rfl) rfl (by kernel_rfl)) ?_
 intro W base args ds gs before hval hW _ hk _
 exact Yoz H enc W base args ds gs before hval hW hk
theorem Xcs : Rows.compTakenUptoRow.holds Try.pinned (Rows.OpenSpec.upto Rows.compTakenSpec) :=
 OpenClaim.holds_of_cond 7 Try.f7 rfl rfl rfl rfl rfl rfl rfl ⟨rfl, rfl, rfl, rfl, rfl⟩ rfl rfl rfl rfl rfl (by kernel_rfl) Try.func7 (by kernel_rfl)
  (of_decide_eq_true (by kernel_rfl)) (by unfold Func.isWrapper; first | (rw [if_pos (by decide +kernel)]; kernel_rfl) | (rw [if_neg (by decide +kernel)]; exact ⟨rfl, rfl⟩))
  (fun os started H enc _ F => Yyk os started H enc F)
theorem proved : Rows.CompTakenUptoSaid :=
 Xcs
#print axioms proved
end Go.Proofs.Ytecaolkbllbokaa.compTakenUpto
