/-
  Proved: called with any input, the Go function retort/retortlaw14.AsmLonger returns true, and its arguments read afterwards as they read before (the given tied card Rows.AsmLongerCardSaid). Conditions: none beside those that the given card states.
-/
import Derived.Test.YteciblfmgdlipaaGreatDoorRows
import Derived.Test.YteciblfmgdlipaaGreatDoorCards
import Derived.Test.YteciblfmgdlipaaGreatDoorTie
import Derived.Test.YteciblfmgdlipaaGreatDoorMN00
import Derived.SevenTiedAt
import Derived.WalkKit
import Derived.ProofKit
import Derived.OpenShut
import Derived.ChangeMaps5
import Derived.Test.YteciblfmgdlipaaGreatDoorMN16
set_option linter.unusedSimpArgs false
set_option linter.unusedVariables false
set_option maxRecDepth 100000
set_option maxHeartbeats 16000000
namespace Go.Proofs.YteciblfmgdlipaaGreatDoor.asmLonger
open Go.ChangeShapes Go.WideShapes Go.ChangeAt Go.RowKit Go.ChangeMaps
theorem Ycv:laidOutB Tryz.prog=true:=by kernel_rfl
theorem Zyg:∀ t∈Tryz.f9.params.toList,Tryz.prog.readableRec t=true/\t<Tryz.prog.types.size:=by
 intro t ht
 rw [Tryz.params9] at ht
 simp only [List.mem_cons,List.not_mem_nil,or_false] at ht
 rcases ht with rfl|rfl
 all_goals exact ⟨by kernel_rfl,of_decide_eq_true (by kernel_rfl)⟩
theorem Zlt (H:Type) (enc:TypeId × Value->H) (W:World) (base:Nat) (args:Array Value) (ds gs:List (DataW H)) (before:List MemPlace)
 (hval0:∀ (j:Nat) t v,Tryz.f9.params[j]? = some t->args[j]? = some v->Value.okWide Tryz.prog W .any base t v)
 (hW:DataW.Whole enc Tryz.prog Tryz.f9.params.toList Rows.asmLongerSpec.vars false W args.toList ds gs before) (hsz:(DataW.weightsEach Tryz.prog (Tryz.f9.params.toList++Rows.asmLongerSpec.plain.varTypes Tryz.prog) (ds++gs)).all (·<=reachBytes)=true) (hLib:AS.LibW W) :
 Calls Tryz.prog 9 args W fun e W'=>∃ v,e = .returned v/\Rows.asmLongerSpec.post enc Tryz.prog Tryz.f9 false true false false W args v W':=by
 have hval:∀ (j:Nat) t v,Tryz.f9.params[j]? = some t->args[j]? = some v->Value.okWide Tryz.prog W .any base t v:=hval0
 have hW':=hW
 obtain ⟨p,q,hA0,hV,hbefore,hfz,hnd⟩:=hW
 have hA:DataW.TrodAll enc Tryz.prog W 0 (fun _=>true) true Tryz.f9.params.toList args.toList ds p:=hA0
 rw [Tryz.params9] at hA hval hsz
 obtain ⟨v0,vs0,d0,ds0,p0,q0,hargs,rfl,rfl,h0,r0⟩:=trodAll_cons hA
 obtain ⟨v1,vs1,d1,ds1,p1,q1,rfl,rfl,rfl,h1,r1⟩:=trodAll_cons r0
 obtain ⟨rfl,rfl,rfl⟩:=trodAll_nil r1
 obtain rfl:args = #[v0,v1]:=by cases args;simp_all
 obtain ⟨rfl,rfl⟩:=trodVars_none hV
 have o0:=hval 0 9 v0 rfl rfl
 have o1:=hval 1 9 v1 rfl rfl
 have hcall:Calls Tryz.prog 9 #[v0,v1] W fun e w'=>e = .returned (.bool true)/\W.grownBy w' none:=by
  obtain ⟨s0,rfl,rfl,rfl,ws0⟩:=open_string Tryz.underlying9 o0 h0
  obtain ⟨s1,rfl,rfl,rfl,ws1⟩:=open_string Tryz.underlying9 o1 h1
  have z0:=AS.str_small (j:=0) hsz rfl rfl
  have z1:=AS.str_small (j:=1) hsz rfl rfl
  rw [<- AS.bs_data s0,<- AS.bs_data s1]
  exact AS.longer_any s0.data.toList s1.data.toList (by omega) (by omega) W hLib
 refine hcall.mono fun e W' ⟨he,hg⟩ => ?_
 subst he
 exact ⟨_,rfl,TG.Ztd Ycv Zyg rfl rfl Tryz.underlying4 hW' (fun h=>rfl) hg⟩
theorem Yfc (os:Os) (started:os.Started) (H:Type) (enc:TypeId × Value->H) :
 ReturnsInHanded {} Tryz.checked os 9 .any (fun w args=>(Rows.asmLongerSpec.pre enc Tryz.prog Tryz.f9 [] false w args/\laidMetH Tryz.prog AS.laidL w)/\sizedMet enc Tryz.prog Tryz.f9 (OpenSpec.ofChange Rows.asmLongerSpec) false w args) (Rows.asmLongerSpec.post enc Tryz.prog Tryz.f9 false true false false):=by
 refine Zfq (C:=Tryz.checked) (X:=fun w _=>laidMetH Tryz.prog AS.laidL w) (fun _ _ _ hh h=>h.of_heap hh) AS.own started (by kernel_rfl) Tryz.func9
  (ChangeSpec.witness_shaped (enc:=enc) (C:=Tryz.checked) (os:=os) (X:=fun w _=>laidMetH Tryz.prog AS.laidL w) false (World.laidAll Tryz.prog os AS.laidL) #[.string ⟨#[]⟩,.string ⟨#[]⟩] 8 (World.laidAll_os _ _ _)
    (AS.door_shaped os _) (by kernel_rfl) (by kernel_rfl) (by kernel_rfl) (AS.door_met os _)) ?_
 intro W base args ds gs before hval hW hsz hsh hL
 exact Zlt H enc W base args ds gs before hval hW hsz (AS.libW_of hL hsh)
theorem Yhb:Rows.asmLongerRow.holds Tryz.pinned (OpenSpec.ofChange Rows.asmLongerSpec) :=
 OpenClaim.holds_of_wide 9 Tryz.f9 rfl rfl rfl rfl rfl rfl rfl ⟨rfl,rfl,rfl,rfl,rfl⟩ rfl rfl rfl rfl rfl (by kernel_rfl) Tryz.func9 (by kernel_rfl)
  (of_decide_eq_true (by kernel_rfl)) (by unfold Func.isWrapper;first|(rw [if_pos (by decide +kernel)];kernel_rfl)|(rw [if_neg (by decide +kernel)];exact ⟨rfl,rfl⟩))
  (fun os started H enc _=>Yfc os started H enc)
theorem proved:Rows.AsmLongerCardSaid :=
 Claim7.holds_tied_plain_at .later [] [.data,.data,.data,.data,.sentinel,.sentinel,.pinned] true (true,"9ee309cc005af9431f3b5ee823ac730000b2acd4b8bbc7a3aa8971841bf4bb7c") true Yhb (fun _ h=>by cases h) (by kernel_rfl) (fun _ h=>by cases h) asmLonger_row_tie rfl ⟨rfl,rfl⟩ (by kernel_rfl) rfl
  (fun f fn hf hfn=>by
    obtain rfl:f=9:=Option.some.inj ((show Tryz.prog.funcNamed "retort/retortlaw14.AsmLonger" = some 9 by kernel_rfl).symm.trans hf) |>.symm
    obtain rfl:fn=Tryz.f9:=(Option.some.inj (Tryz.func9.symm.trans hfn)).symm
    exact ⟨by kernel_rfl,fun j t ht=>by
     rw [Tryz.params9] at ht
     have hm:t∈[9,9]:=by simpa using Array.mem_of_getElem? ht
     have hall:([9,9].all fun u => !Tryz.prog.wantsStandIn u)=true:=by kernel_rfl
     exact (show Tryz.prog.wantsStandIn t=false by simpa using List.all_eq_true.1 hall t hm)⟩)
  (by kernel_rfl)
#print axioms proved
end Go.Proofs.YteciblfmgdlipaaGreatDoor.asmLonger
