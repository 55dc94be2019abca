/-
  Proved: called with any input, the Go function retort/retortlaw14.AsmParses returns true, and its arguments read afterwards as they read before (the given tied card Rows.AsmParsesCardSaid). Conditions: none beside those that the given card states.
-/
import Derived.Test.YteciblfmgdlipaaGreatDoorRows
import Derived.Test.YteciblfmgdlipaaGreatDoorCards
import Derived.Test.YteciblfmgdlipaaGreatDoorTie
import Derived.Test.YteciblfmgdlipaaGreatDoorMP00
import Derived.Test.YteciblfmgdlipaaGreatDoorMP01
import Derived.SevenTiedAt
import Derived.WalkKit
import Derived.ProofKit
import Derived.OpenShut
import Derived.ChangeMaps5
import Derived.Test.YteciblfmgdlipaaGreatDoorMP25
set_option linter.unusedSimpArgs false
set_option linter.unusedVariables false
set_option maxRecDepth 100000
set_option maxHeartbeats 16000000
namespace Go.Proofs.YteciblfmgdlipaaGreatDoor.asmParses
open Go.ChangeShapes Go.WideShapes Go.ChangeAt Go.RowKit Go.ChangeMaps
theorem Ysk:laidOutB Tryz.prog=true:=by kernel_rfl
theorem Ylg:∀ t∈Tryz.f3.params.toList,Tryz.prog.readableRec t=true/\t<Tryz.prog.types.size:=by
 intro t ht
 rw [Tryz.params3] at ht
 simp only [List.mem_cons,List.not_mem_nil,or_false] at ht
 rcases ht with rfl
 all_goals exact ⟨by kernel_rfl,of_decide_eq_true (by kernel_rfl)⟩
theorem Zta (H:Type) (enc:TypeId × Value->H) (W:World) (base:Nat) (args:Array Value) (ds gs:List (DataW H)) (before:List MemPlace)
 (hval0:∀ (j:Nat) t v,Tryz.f3.params[j]? = some t->args[j]? = some v->Value.okWide Tryz.prog W .any base t v)
 (hW:DataW.Whole enc Tryz.prog Tryz.f3.params.toList Rows.asmParsesSpec.vars false W args.toList ds gs before) (hsz:(DataW.weightsEach Tryz.prog (Tryz.f3.params.toList++Rows.asmParsesSpec.plain.varTypes Tryz.prog) (ds++gs)).all (·<=reachBytes)=true) (hLib:AS.LibW W) :
 Calls Tryz.prog 3 args W fun e W'=>∃ v,e = .returned v/\Rows.asmParsesSpec.post enc Tryz.prog Tryz.f3 false true false false W args v W':=by
 have hval:∀ (j:Nat) t v,Tryz.f3.params[j]? = some t->args[j]? = some v->Value.okWide Tryz.prog W .any base t v:=hval0
 have hW':=hW
 obtain ⟨p,q,hA0,hV,hbefore,hfz,hnd⟩:=hW
 have hA:DataW.TrodAll enc Tryz.prog W 0 (fun _=>true) true Tryz.f3.params.toList args.toList ds p:=hA0
 rw [Tryz.params3] at hA hval hsz
 obtain ⟨v0,vs0,d0,ds0,p0,q0,hargs,rfl,rfl,h0,r0⟩:=trodAll_cons hA
 obtain ⟨rfl,rfl,rfl⟩:=trodAll_nil r0
 obtain rfl:args = #[v0]:=by cases args;simp_all
 obtain ⟨rfl,rfl⟩:=trodVars_none hV
 have o0:=hval 0 9 v0 rfl rfl
 have hcall:Calls Tryz.prog 3 #[v0] W fun e w'=>e = .returned (.bool true)/\W.grownBy w' none:=by
  obtain ⟨s0,rfl,rfl,rfl,ws0⟩:=open_string Tryz.underlying9 o0 h0
  rw [<- AS.bs_data s0]
  exact AS.parses_any s0.data.toList W hLib
 refine hcall.mono fun e W' ⟨he,hg⟩ => ?_
 subst he
 exact ⟨_,rfl,TG.Ycv Ysk Ylg rfl rfl Tryz.underlying4 hW' (fun h=>rfl) hg⟩
theorem Yuz (os:Os) (started:os.Started) (H:Type) (enc:TypeId × Value->H) :
 ReturnsInHanded {} Tryz.checked os 3 .any (fun w args=>(Rows.asmParsesSpec.pre enc Tryz.prog Tryz.f3 [] false w args/\laidMetH Tryz.prog AS.laidL w)/\sizedMet enc Tryz.prog Tryz.f3 (OpenSpec.ofChange Rows.asmParsesSpec) false w args) (Rows.asmParsesSpec.post enc Tryz.prog Tryz.f3 false true false false):=by
 refine Zlk (C:=Tryz.checked) (X:=fun w _=>laidMetH Tryz.prog AS.laidL w) (fun _ _ _ hh h=>h.of_heap hh) AS.own started (by kernel_rfl) Tryz.func3
  (ChangeSpec.witness_shaped (enc:=enc) (C:=Tryz.checked) (os:=os) (X:=fun w _=>laidMetH Tryz.prog AS.laidL w) false (World.laidAll Tryz.prog os AS.laidL) #[.string ⟨#[]⟩] 8 (World.laidAll_os _ _ _)
    (AS.door_shaped os _) (by kernel_rfl) (by kernel_rfl) (by kernel_rfl) (AS.door_met os _)) ?_
 intro W base args ds gs before hval hW hsz hsh hL
 exact Zta H enc W base args ds gs before hval hW hsz (AS.libW_of hL hsh)
theorem Yyf:Rows.asmParsesRow.holds Tryz.pinned (OpenSpec.ofChange Rows.asmParsesSpec) :=
 OpenClaim.holds_of_wide 3 Tryz.f3 rfl rfl rfl rfl rfl rfl rfl ⟨rfl,rfl,rfl,rfl,rfl⟩ rfl rfl rfl rfl rfl (by kernel_rfl) Tryz.func3 (by kernel_rfl)
  (of_decide_eq_true (by kernel_rfl)) (by unfold Func.isWrapper;first|(rw [if_pos (by decide +kernel)];kernel_rfl)|(rw [if_neg (by decide +kernel)];exact ⟨rfl,rfl⟩))
  (fun os started H enc _=>Yuz os started H enc)
theorem proved:Rows.AsmParsesCardSaid :=
 Claim7.holds_tied_plain_at .later [] [.data,.data,.data,.data,.sentinel,.sentinel,.pinned] true (true,"9ee309cc005af9431f3b5ee823ac730000b2acd4b8bbc7a3aa8971841bf4bb7c") true Yyf (fun _ h=>by cases h) (by kernel_rfl) (fun _ h=>by cases h) asmParses_row_tie rfl ⟨rfl,rfl⟩ (by kernel_rfl) rfl
  (fun f fn hf hfn=>by
    obtain rfl:f=3:=Option.some.inj ((show Tryz.prog.funcNamed "retort/retortlaw14.AsmParses" = some 3 by kernel_rfl).symm.trans hf) |>.symm
    obtain rfl:fn=Tryz.f3:=(Option.some.inj (Tryz.func3.symm.trans hfn)).symm
    exact ⟨by kernel_rfl,fun j t ht=>by
     rw [Tryz.params3] at ht
     have hm:t∈[9]:=by simpa using Array.mem_of_getElem? ht
     have hall:([9].all fun u => !Tryz.prog.wantsStandIn u)=true:=by kernel_rfl
     exact (show Tryz.prog.wantsStandIn t=false by simpa using List.all_eq_true.1 hall t hm)⟩)
  (by kernel_rfl)
#print axioms proved
end Go.Proofs.YteciblfmgdlipaaGreatDoor.asmParses
