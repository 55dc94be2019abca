/-
  Proved: called with any input, the Go function retort/retortlaw16.OptBook returns true, and its arguments read afterwards as they read before (the given statement Rows.OptBookSaid). Conditions: none beside those that the given row states.
-/
import Derived.Test.YthlkflagancdfaaRows
import Derived.Test.YthlkflagancdfaaMK00
import Derived.WalkKit
import Derived.ProofKit
import Derived.OpenShut
import Derived.Test.YthlkflagancdfaaMK12
import Derived.Test.YthlkflagancdfaaMK33
set_option linter.unusedSimpArgs false
set_option linter.unusedVariables false
set_option maxRecDepth 100000
set_option maxHeartbeats 16000000
namespace Go.Proofs.Ythlkflagancdfaa.optBook
open Go.ChangeShapes Go.WideShapes Go.ChangeAt Go.RowKit
theorem own:ownKnob Try.prog.godebug=none:=by kernel_rfl
theorem Yvj:laidOutB Try.prog=true:=by kernel_rfl
theorem Ynf:∀ t∈Try.f5.params.toList,Try.prog.readableRec t=true/\t<Try.prog.types.size:=by
 intro t ht
 rw [Try.params5] at ht
 simp only [List.mem_cons,List.not_mem_nil,or_false] at ht
 rcases ht with rfl
 all_goals exact ⟨by kernel_rfl,of_decide_eq_true (by kernel_rfl)⟩
theorem Yqg (H:Type) (enc:TypeId × Value->H) (W:World) (base:Nat) (args:Array Value) (ds gs:List (DataW H)) (before:List MemPlace)
 (hval0:∀ (j:Nat) t v,Try.f5.params[j]? = some t->args[j]? = some v->Value.okWide Try.prog W .any base t v)
 (hW:DataW.Whole enc Try.prog Try.f5.params.toList Rows.optBookSpec.vars false W args.toList ds gs before) :
 Calls Try.prog 5 args W fun e W'=>∃ v,e = .returned v/\Rows.optBookSpec.post enc Try.prog Try.f5 false true false false W args v W':=by
 have hval:∀ (j:Nat) t v,Try.f5.params[j]? = some t->args[j]? = some v->Value.okWide Try.prog W .any base t v:=hval0
 have hW':=hW
 obtain ⟨p,q,hA0,hV,hbefore,hfz,hnd⟩:=hW
 have hA:DataW.TrodAll enc Try.prog W 0 (fun _=>true) true Try.f5.params.toList args.toList ds p:=hA0
 rw [Try.params5] at hA hval
 obtain ⟨v0,vs0,d0,ds0,p0,q0,hargs,rfl,rfl,h0,r0⟩:=trodAll_cons hA
 obtain ⟨rfl,rfl,rfl⟩:=trodAll_nil r0
 obtain rfl:args = #[v0]:=by cases args;simp_all
 obtain ⟨rfl,rfl⟩:=trodVars_none hV
 have o0:=hval 0 25 v0 rfl rfl
 have hcall:Calls Try.prog 5 #[v0] W fun e w'=>e = .returned (.bool true)/\W.grownBy w' none:=by
  obtain ⟨cs,hcs,_⟩:=okWide_struct Try.underlying25 o0
  obtain ⟨mem,dl,fs,pd,pF,cd,cF,rfl,hF,hD,hn,hR⟩:=OT.Ygl ⟨cs,hcs⟩ h0
  exact OT.Ypi mem dl fs pd pF cd cF W.heap.size W (Nat.le_refl _) hF hD hn hR
 refine hcall.mono fun e W' ⟨he,hg⟩ => ?_
 subst he
 exact ⟨_,rfl,TG.Ycz Yvj Ynf rfl rfl Try.underlying4 hW' (fun h=>rfl) hg⟩
theorem Xan (os:Os) (started:os.Started) (H:Type) (enc:TypeId × Value->H) :
 ReturnsInHanded {} Try.checked os 5 .any (Rows.optBookSpec.pre6 enc Try.prog Try.f5 Rows.optBookRow.domain false) (Rows.optBookSpec.post enc Try.prog Try.f5 false true false false):=by
 refine returnsInHanded_of_change (C:=Try.checked) own started (by kernel_rfl) Try.func5
  (ChangeSpec.witness6 (enc:=enc) (C:=Try.checked) false ⟨#[],#[.agg #[.int .i64 0,.slice none 0 0,.slice none 0 0]],[]⟩ 8 (by kernel_rfl) (by kernel_rfl) (by kernel_rfl) (by kernel_rfl)) ?_
 intro W base args ds gs before hval hW _ _
 exact Yqg H enc W base args ds gs before hval hW
theorem Xga:Rows.optBookRow.holds Try.pinned (OpenSpec.ofChange Rows.optBookSpec) :=
 OpenClaim.holds_of_wide 5 Try.f5 rfl rfl rfl rfl rfl rfl rfl ⟨rfl,rfl,rfl,rfl,rfl⟩ rfl rfl rfl rfl rfl (by kernel_rfl) Try.func5 (by kernel_rfl)
  (of_decide_eq_true (by kernel_rfl)) (by unfold Func.isWrapper;first|(rw [if_pos (by decide +kernel)];kernel_rfl)|(rw [if_neg (by decide +kernel)];exact ⟨rfl,rfl⟩))
  (fun os started H enc _=>Xan os started H enc)
theorem proved:Rows.OptBookSaid :=
 Xga
#print axioms proved
end Go.Proofs.Ythlkflagancdfaa.optBook
