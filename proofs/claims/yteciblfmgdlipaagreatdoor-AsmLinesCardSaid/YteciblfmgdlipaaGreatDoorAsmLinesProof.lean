/-
  Proved: called with any input, the Go function retort/retortlaw14.AsmLines returns true, and its arguments read afterwards as they read before (the given tied card Rows.AsmLinesCardSaid). Conditions: none beside those that the given card states.
-/
import Derived.Test.YteciblfmgdlipaaGreatDoorRows
import Derived.Test.YteciblfmgdlipaaGreatDoorCards
import Derived.Test.YteciblfmgdlipaaGreatDoorTie
import Derived.Test.YteciblfmgdlipaaGreatDoorMI00
import Derived.Test.YteciblfmgdlipaaGreatDoorMI01
import Derived.SevenTiedAt
import Derived.WalkKit
import Derived.ProofKit
import Derived.OpenShut
import Derived.ChangeMaps5
import Derived.Test.YteciblfmgdlipaaGreatDoorMI26
set_option linter.unusedSimpArgs false
set_option linter.unusedVariables false
set_option maxRecDepth 100000
set_option maxHeartbeats 16000000
namespace Go.Proofs.YteciblfmgdlipaaGreatDoor.asmLines
open Go.ChangeShapes Go.WideShapes Go.ChangeAt Go.RowKit Go.ChangeMaps
theorem Ysm:laidOutB Tryz.prog=true:=by kernel_rfl
theorem Ylj:∀ t∈Tryz.f4.params.toList,Tryz.prog.readableRec t=true/\t<Tryz.prog.types.size:=by
 intro t ht
 rw [Tryz.params4] at ht
 simp only [List.mem_cons,List.not_mem_nil,or_false] at ht
 rcases ht with rfl
 all_goals exact ⟨by kernel_rfl,of_decide_eq_true (by kernel_rfl)⟩
theorem Ztb (H:Type) (enc:TypeId × Value->H) (W:World) (base:Nat) (args:Array Value) (ds gs:List (DataW H)) (before:List MemPlace)
 (hval0:∀ (j:Nat) t v,Tryz.f4.params[j]? = some t->args[j]? = some v->Value.okWide Tryz.prog W .any base t v)
 (hW:DataW.Whole enc Tryz.prog Tryz.f4.params.toList Rows.asmLinesSpec.vars false W args.toList ds gs before) (hsz:(DataW.weightsEach Tryz.prog (Tryz.f4.params.toList++Rows.asmLinesSpec.plain.varTypes Tryz.prog) (ds++gs)).all (·<=reachBytes)=true) (hLib:AS.LibW W) :
 Calls Tryz.prog 4 args W fun e W'=>∃ v,e = .returned v/\Rows.asmLinesSpec.post enc Tryz.prog Tryz.f4 false true false false W args v W':=by
 have hval:∀ (j:Nat) t v,Tryz.f4.params[j]? = some t->args[j]? = some v->Value.okWide Tryz.prog W .any base t v:=hval0
 have hW':=hW
 obtain ⟨p,q,hA0,hV,hbefore,hfz,hnd⟩:=hW
 have hA:DataW.TrodAll enc Tryz.prog W 0 (fun _=>true) true Tryz.f4.params.toList args.toList ds p:=hA0
 rw [Tryz.params4] at hA hval hsz
 obtain ⟨v0,vs0,d0,ds0,p0,q0,hargs,rfl,rfl,h0,r0⟩:=trodAll_cons hA
 obtain ⟨rfl,rfl,rfl⟩:=trodAll_nil r0
 obtain rfl:args = #[v0]:=by cases args;simp_all
 obtain ⟨rfl,rfl⟩:=trodVars_none hV
 have o0:=hval 0 37 v0 rfl rfl
 have hcall:Calls Tryz.prog 4 #[v0] W fun e w'=>e = .returned (.bool true)/\W.grownBy w' none:=by
  have hs0:=okWide_slice AS.rd_strs_und o0
  obtain ⟨p0,ls,c0,rfl,hT,hL⟩:=AS.read_strs hs0 h0
  exact AS.lines_law ls p0 c0 W hLib hT hL
 refine hcall.mono fun e W' ⟨he,hg⟩ => ?_
 subst he
 exact ⟨_,rfl,TG.Ycx Ysm Ylj rfl rfl Tryz.underlying4 hW' (fun h=>rfl) hg⟩
theorem Yvb (os:Os) (started:os.Started) (H:Type) (enc:TypeId × Value->H) :
 ReturnsInHanded {} Tryz.checked os 4 .any (fun w args=>(Rows.asmLinesSpec.pre enc Tryz.prog Tryz.f4 [] false w args/\laidMetH Tryz.prog AS.laidL w)/\sizedMet enc Tryz.prog Tryz.f4 (OpenSpec.ofChange Rows.asmLinesSpec) false w args) (Rows.asmLinesSpec.post enc Tryz.prog Tryz.f4 false true false false):=by
 refine Zlk (C:=Tryz.checked) (X:=fun w _=>laidMetH Tryz.prog AS.laidL w) (fun _ _ _ hh h=>h.of_heap hh) AS.own started (by kernel_rfl) Tryz.func4
  (ChangeSpec.witness_shaped (enc:=enc) (C:=Tryz.checked) (os:=os) (X:=fun w _=>laidMetH Tryz.prog AS.laidL w) false (World.laidAll Tryz.prog os AS.laidL) #[.slice none 0 0] 8 (World.laidAll_os _ _ _)
    (AS.door_shaped os _) (by kernel_rfl) (by kernel_rfl) (by kernel_rfl) (AS.door_met os _)) ?_
 intro W base args ds gs before hval hW hsz hsh hL
 exact Ztb H enc W base args ds gs before hval hW hsz (AS.libW_of hL hsh)
theorem Yyh:Rows.asmLinesRow.holds Tryz.pinned (OpenSpec.ofChange Rows.asmLinesSpec) :=
 OpenClaim.holds_of_wide 4 Tryz.f4 rfl rfl rfl rfl rfl rfl rfl ⟨rfl,rfl,rfl,rfl,rfl⟩ rfl rfl rfl rfl rfl (by kernel_rfl) Tryz.func4 (by kernel_rfl)
  (of_decide_eq_true (by kernel_rfl)) (by unfold Func.isWrapper;first|(rw [if_pos (by decide +kernel)];kernel_rfl)|(rw [if_neg (by decide +kernel)];exact ⟨rfl,rfl⟩))
  (fun os started H enc _=>Yvb os started H enc)
theorem proved:Rows.AsmLinesCardSaid :=
 Claim7.holds_tied_plain_at .later [] [.data,.data,.data,.data,.sentinel,.sentinel,.pinned] true (true,"9ee309cc005af9431f3b5ee823ac730000b2acd4b8bbc7a3aa8971841bf4bb7c") true Yyh (fun _ h=>by cases h) (by kernel_rfl) (fun _ h=>by cases h) asmLines_row_tie rfl ⟨rfl,rfl⟩ (by kernel_rfl) rfl
  (fun f fn hf hfn=>by
    obtain rfl:f=4:=Option.some.inj ((show Tryz.prog.funcNamed "retort/retortlaw14.AsmLines" = some 4 by kernel_rfl).symm.trans hf) |>.symm
    obtain rfl:fn=Tryz.f4:=(Option.some.inj (Tryz.func4.symm.trans hfn)).symm
    exact ⟨by kernel_rfl,fun j t ht=>by
     rw [Tryz.params4] at ht
     have hm:t∈[37]:=by simpa using Array.mem_of_getElem? ht
     have hall:([37].all fun u => !Tryz.prog.wantsStandIn u)=true:=by kernel_rfl
     exact (show Tryz.prog.wantsStandIn t=false by simpa using List.all_eq_true.1 hall t hm)⟩)
  (by kernel_rfl)
#print axioms proved
end Go.Proofs.YteciblfmgdlipaaGreatDoor.asmLines
