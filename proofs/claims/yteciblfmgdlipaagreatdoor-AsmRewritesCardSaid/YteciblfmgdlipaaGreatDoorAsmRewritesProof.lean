/-
  Proved: called with any input, the Go function retort/retortlaw14.AsmRewrites returns true, and its arguments read afterwards as they read before (the given tied card Rows.AsmRewritesCardSaid). Conditions: none beside those that the given card states.
-/
import Derived.Test.YteciblfmgdlipaaGreatDoorRows
import Derived.Test.YteciblfmgdlipaaGreatDoorCards
import Derived.Test.YteciblfmgdlipaaGreatDoorTie
import Derived.Test.YteciblfmgdlipaaGreatDoorMR00
import Derived.SevenTiedAt
import Derived.WalkKit
import Derived.ProofKit
import Derived.OpenShut
import Derived.ChangeMaps5
import Derived.Test.YteciblfmgdlipaaGreatDoorMR17
set_option linter.unusedSimpArgs false
set_option linter.unusedVariables false
set_option maxRecDepth 100000
set_option maxHeartbeats 16000000
namespace Go.Proofs.YteciblfmgdlipaaGreatDoor.asmRewrites
open Go.ChangeShapes Go.WideShapes Go.ChangeAt Go.RowKit Go.ChangeMaps
theorem Yls:laidOutB Tryz.prog=true:=by kernel_rfl
theorem Yfz:∀ t∈Tryz.f8.params.toList,Tryz.prog.readableRec t=true/\t<Tryz.prog.types.size:=by
 intro t ht
 rw [Tryz.params8] at ht
 simp only [List.mem_cons,List.not_mem_nil,or_false] at ht
 rcases ht with rfl|rfl|rfl
 all_goals exact ⟨by kernel_rfl,of_decide_eq_true (by kernel_rfl)⟩
theorem Zpj (H:Type) (enc:TypeId × Value->H) (W:World) (base:Nat) (args:Array Value) (ds gs:List (DataW H)) (before:List MemPlace)
 (hval0:∀ (j:Nat) t v,Tryz.f8.params[j]? = some t->args[j]? = some v->Value.okWide Tryz.prog W .any base t v)
 (hW:DataW.Whole enc Tryz.prog Tryz.f8.params.toList Rows.asmRewritesSpec.vars false W args.toList ds gs before) (hsz:(DataW.weightsEach Tryz.prog (Tryz.f8.params.toList++Rows.asmRewritesSpec.plain.varTypes Tryz.prog) (ds++gs)).all (·<=reachBytes)=true) (hLib:AS.LibW W) :
 Calls Tryz.prog 8 args W fun e W'=>∃ v,e = .returned v/\Rows.asmRewritesSpec.post enc Tryz.prog Tryz.f8 false true false false W args v W':=by
 have hval:∀ (j:Nat) t v,Tryz.f8.params[j]? = some t->args[j]? = some v->Value.okWide Tryz.prog W .any base t v:=hval0
 have hW':=hW
 obtain ⟨p,q,hA0,hV,hbefore,hfz,hnd⟩:=hW
 have hA:DataW.TrodAll enc Tryz.prog W 0 (fun _=>true) true Tryz.f8.params.toList args.toList ds p:=hA0
 rw [Tryz.params8] at hA hval hsz
 obtain ⟨v0,vs0,d0,ds0,p0,q0,hargs,rfl,rfl,h0,r0⟩:=trodAll_cons hA
 obtain ⟨v1,vs1,d1,ds1,p1,q1,rfl,rfl,rfl,h1,r1⟩:=trodAll_cons r0
 obtain ⟨v2,vs2,d2,ds2,p2,q2,rfl,rfl,rfl,h2,r2⟩:=trodAll_cons r1
 obtain ⟨rfl,rfl,rfl⟩:=trodAll_nil r2
 obtain rfl:args = #[v0,v1,v2]:=by cases args;simp_all
 obtain ⟨rfl,rfl⟩:=trodVars_none hV
 have o0:=hval 0 26 v0 rfl rfl
 have o1:=hval 1 51 v1 rfl rfl
 have o2:=hval 2 9 v2 rfl rfl
 have hcall:Calls Tryz.prog 8 #[v0,v1,v2] W fun e w'=>e = .returned (.bool true)/\W.grownBy w' none:=by
  obtain ⟨cs0,hcs0,_⟩:=okWide_struct Tryz.underlying26 o0
  obtain ⟨mem,d,fs,pd,pF,cd,cF,rfl,hF,hD,hn,hR⟩:=AS.read_prog ⟨cs0,hcs0⟩ h0
  have hs1:=okWide_slice AS.rd_way_und o1
  obtain ⟨pw,ways,cw,rfl,hw,hL⟩:=AS.read_ways hs1 h1
  obtain ⟨s2,rfl,rfl,rfl,ws2⟩:=open_string Tryz.underlying9 o2 h2
  have z2:=AS.str_small (j:=2) hsz rfl rfl
  rw [<- AS.bs_data s2]
  exact AS.rewrites_any (mem,d,fs) pd pF pw cd cF cw ways s2.data.toList W hLib ⟨hD,hF⟩ ⟨hn,hR⟩ hw hL (by omega)
 refine hcall.mono fun e W' ⟨he,hg⟩ => ?_
 subst he
 exact ⟨_,rfl,TG.Zyl Yls Yfz rfl rfl Tryz.underlying4 hW' (fun h=>rfl) hg⟩
theorem Yoq (os:Os) (started:os.Started) (H:Type) (enc:TypeId × Value->H) :
 ReturnsInHanded {} Tryz.checked os 8 .any (fun w args=>(Rows.asmRewritesSpec.pre enc Tryz.prog Tryz.f8 [] false w args/\laidMetH Tryz.prog AS.laidL w)/\sizedMet enc Tryz.prog Tryz.f8 (OpenSpec.ofChange Rows.asmRewritesSpec) false w args) (Rows.asmRewritesSpec.post enc Tryz.prog Tryz.f8 false true false false):=by
 refine Zij (C:=Tryz.checked) (X:=fun w _=>laidMetH Tryz.prog AS.laidL w) (fun _ _ _ hh h=>h.of_heap hh) AS.own started (by kernel_rfl) Tryz.func8
  (ChangeSpec.witness_shaped (enc:=enc) (C:=Tryz.checked) (os:=os) (X:=fun w _=>laidMetH Tryz.prog AS.laidL w) false (World.laidAll Tryz.prog os AS.laidL) #[.agg #[.int .i64 0,.slice none 0 0,.slice none 0 0],.slice none 0 0,.string ⟨#[]⟩] 8 (World.laidAll_os _ _ _)
    (AS.door_shaped os _) (by kernel_rfl) (by kernel_rfl) (by kernel_rfl) (AS.door_met os _)) ?_
 intro W base args ds gs before hval hW hsz hsh hL
 exact Zpj H enc W base args ds gs before hval hW hsz (AS.libW_of hL hsh)
theorem Yrg:Rows.asmRewritesRow.holds Tryz.pinned (OpenSpec.ofChange Rows.asmRewritesSpec) :=
 OpenClaim.holds_of_wide 8 Tryz.f8 rfl rfl rfl rfl rfl rfl rfl ⟨rfl,rfl,rfl,rfl,rfl⟩ rfl rfl rfl rfl rfl (by kernel_rfl) Tryz.func8 (by kernel_rfl)
  (of_decide_eq_true (by kernel_rfl)) (by unfold Func.isWrapper;first|(rw [if_pos (by decide +kernel)];kernel_rfl)|(rw [if_neg (by decide +kernel)];exact ⟨rfl,rfl⟩))
  (fun os started H enc _=>Yoq os started H enc)
theorem proved:Rows.AsmRewritesCardSaid :=
 Claim7.holds_tied_plain_at .later [] [.data,.data,.data,.data,.sentinel,.sentinel,.pinned] true (true,"9ee309cc005af9431f3b5ee823ac730000b2acd4b8bbc7a3aa8971841bf4bb7c") true Yrg (fun _ h=>by cases h) (by kernel_rfl) (fun _ h=>by cases h) asmRewrites_row_tie rfl ⟨rfl,rfl⟩ (by kernel_rfl) rfl
  (fun f fn hf hfn=>by
    obtain rfl:f=8:=Option.some.inj ((show Tryz.prog.funcNamed "retort/retortlaw14.AsmRewrites" = some 8 by kernel_rfl).symm.trans hf) |>.symm
    obtain rfl:fn=Tryz.f8:=(Option.some.inj (Tryz.func8.symm.trans hfn)).symm
    exact ⟨by kernel_rfl,fun j t ht=>by
     rw [Tryz.params8] at ht
     have hm:t∈[26,51,9]:=by simpa using Array.mem_of_getElem? ht
     have hall:([26,51,9].all fun u => !Tryz.prog.wantsStandIn u)=true:=by kernel_rfl
     exact (show Tryz.prog.wantsStandIn t=false by simpa using List.all_eq_true.1 hall t hm)⟩)
  (by kernel_rfl)
#print axioms proved
end Go.Proofs.YteciblfmgdlipaaGreatDoor.asmRewrites
