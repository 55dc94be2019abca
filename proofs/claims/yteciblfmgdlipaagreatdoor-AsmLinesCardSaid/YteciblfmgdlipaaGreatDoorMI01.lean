/-
  Part of a proof: contracts of functions and lemmas, each stated by its own theorem. Conditions: as each theorem states.
-/
import Derived.Test.YteciblfmgdlipaaGreatDoorRows
import Derived.Test.YteciblfmgdlipaaGreatDoorMI00
import Derived.LaidMore
import Derived.Lay
import Derived.LaidLaws
import Derived.Lib.LaidTab
import Derived.SizedLaws
import Derived.Shelf.Vars
import Derived.Stop.Joined
import Derived.Laws.EntriesVeiled
import Derived.StillTailTactics
set_option linter.unusedSimpArgs false
set_option linter.unusedVariables false
set_option maxRecDepth 100000
set_option maxHeartbeats 16000000
namespace Go.Proofs.YteciblfmgdlipaaGreatDoor
open Go
theorem Zlk {H:Type} {enc:TypeId × Value->H} {a:Assume} {C:Checked} {os:Os} {f:FuncId} {fn:Func} {s:ChangeSpec} {conds:List PathCond} {apart fresh handsOn again:Bool} {X:World->Array Value->Prop}
 (hX:∀ (w w':World) (args:Array Value),w.heap=w'.heap->X w args->X w' args)
 (own:ownKnob C.prog.godebug=none) (started:os.Started) (noInit:C.prog.inits.idxOf? f=none) (hfn:C.prog.funcs[f]? = some fn)
 (witness:∃ (w:World) (tape:Tape) (i:Input),w.os=os/\(w.forCall tape i).Shaped C.prog/\i.vars=[]/\Input.okWide C.prog (w.forCall tape i) .any w.heap.size f i /\
   ((s.pre enc C.prog fn conds apart (w.forCall tape i).memory i.args/\X (w.forCall tape i).memory i.args)/\sizedMet enc C.prog fn (OpenSpec.ofChange s) apart (w.forCall tape i).memory i.args)/\a.holds C.prog (lone (Frame.enter C.prog f i.args .normal) [] (w.forCall tape i)))
 (Ztb:∀ (W:World) (base:Nat) (args:Array Value) (ds gs:List (DataW H)) (before:List MemPlace),
   (∀ (j:Nat) t v,fn.params[j]? = some t->args[j]? = some v->Value.okWide C.prog W .any base t v) ->
   DataW.Whole enc C.prog fn.params.toList s.vars apart W args.toList ds gs before ->
   (DataW.weightsEach C.prog (fn.params.toList++s.plain.varTypes C.prog) (ds++gs)).all (·<=reachBytes)=true ->
   W.ShapedOpen C.prog->X W args ->
   Calls C.prog f args W fun e W'=>∃ v,e = .returned v/\s.post enc C.prog fn apart fresh handsOn again W args v W') :
 ReturnsInHanded a C os f .any (fun w args=>(s.pre enc C.prog fn conds apart w args/\X w args)/\sizedMet enc C.prog fn (OpenSpec.ofChange s) apart w args) (s.post enc C.prog fn apart fresh handsOn again):=by
 refine returnsInHanded_of_calls own started noInit witness ?_
 intro w tape i _ hsh _ hok hpre hholds
 obtain ⟨_,_,_,fn',hfn',_,_,_,_,hval⟩:=hok
 have e:fn'=fn:=Option.some.inj (hfn'.symm.trans hfn)
 subst e
 obtain ⟨⟨⟨ds,gs,before,hw,hc⟩,hx⟩,hz⟩:=hpre
 have hw':=DataW.Whole.of_heap (w':=w.forCall tape i) (by rfl) hw
 refine (Ztb (w.forCall tape i) w.heap.size i.args ds gs before hval hw' (hz.weights hw) hsh (hX _ _ _ (by rfl) hx)).mono fun e W' ⟨v,he,hp⟩ => ?_
 subst he
 exact ChangeSpec.post_blind hp
end Go.Proofs.YteciblfmgdlipaaGreatDoor
namespace Go.Proofs.YteciblfmgdlipaaGreatDoor.AS
open Go.ChangeShapes Go.WideShapes Go.ChangeAt Go.RowKit
abbrev laidL:List (String × DataW Unit):=Rows.asmLongerRow.laid
theorem own:ownKnob Tryz.prog.godebug=none:=by kernel_rfl
theorem Yrp:Tryz.prog.underlying 235=some (.array 20 149):=by kernel_rfl
theorem Yqc:Tryz.prog.underlying 149=some (.int .u64):=by kernel_rfl
theorem libW_of {W:World} (h:laidMetH Tryz.prog laidL W) (hs:W.ShapedOpen Tryz.prog):LibW W:=by
 rw [MakeChecks.laidMetH_plain _ _ _ (by kernel_rfl)] at h
 obtain ⟨ps,⟨g0,t0,cs0,f0,p0,q0,hg0,ht0,hv0,hd0,⟨g1,t1,cs1,f1,p1,q1,hg1,ht1,hv1,hd1,⟨g2,t2,cs2,f2,p2,q2,hg2,ht2,hv2,hd2,⟨g3,t3,cs3,f3,p3,q3,hg3,ht3,hv3,hd3,⟨g4,t4,cs4,f4,p4,q4,hg4,ht4,hv4,hd4,hrest,_⟩,_⟩,_⟩,_⟩,_⟩,_,_⟩:=h
 obtain rfl:=Option.some.inj ((show Tryz.prog.globalNamed "internal/strconv.uint64pow10" = some 1 by kernel_rfl).symm.trans hg2)
 obtain rfl:=Option.some.inj ((show (Tryz.prog.globals[1]?).map (·.type)=some 235 by kernel_rfl).symm.trans ht2)
 obtain rfl:=Option.some.inj ((show Tryz.prog.globalNamed "strconv.ErrRange" = some 7 by kernel_rfl).symm.trans hg4)
 obtain rfl:=Option.some.inj ((show (Tryz.prog.globals[7]?).map (·.type)=some 28 by kernel_rfl).symm.trans ht4)
 have hpow:cs2.toList=Lib.pow10Tab.map fun z=>Value.int .u64 z:=by
  have e:(Rows.laid_internal_strconv_uint64pow10:DataW Unit)=Lib.tabData .u64 Lib.pow10Tab:=by kernel_rfl
  rw [e] at hd2
  exact Lib.cells_of_tab (zs:=Lib.pow10Tab) (k := .u64) (n:=20) Yrp Yqc (by kernel_rfl) (by kernel_rfl) hd2
 obtain ⟨fu,u,v,hcs,-,-⟩:=iface_of_trod (P:=Tryz.prog) Tryz.underlying28 hd4
 refine ⟨?_,?_,?_,?_⟩
 · obtain ⟨cs,hh,-⟩:=hs.1 7 #[.nilIface] 28 (by decide) (by kernel_rfl)
   have:=(Gs hh)
   omega
 · exact Go.Proofs.cell_of_shapedOpen_int hs (g:=0) (t:=3) (zero := #[.int .i64 0]) (by decide) (by kernel_rfl) rfl (by kernel_rfl) (by kernel_rfl) Tryz.underlying3
 · unfold Lib.TabIs
   rw [hv2,<- hpow]
 · refine ⟨u,v,?_⟩
   rw [World.var?_cell hg4 hv4 0,<- Array.getElem?_toList,hcs]
   rfl
theorem door_shaped (os:Os) (args:Array Value):((World.laidAll Tryz.prog os laidL).forCall (fun _ _=>0) ⟨#[],args,[]⟩).Shaped Tryz.prog:=World.shaped_of_ZipB (by kernel_rfl) (by kernel_rfl)
theorem door_met (os:Os) (args:Array Value):laidMetH Tryz.prog laidL ((World.laidAll Tryz.prog os laidL).forCall (fun _ _=>0) ⟨#[],args,[]⟩).memory:=by
 rw [MakeChecks.laidMetH_plain _ _ _ (by kernel_rfl)]
 exact laidMet_laidAll _ (by kernel_rfl) (by kernel_rfl)
end Go.Proofs.YteciblfmgdlipaaGreatDoor.AS
namespace Go.Proofs.YteciblfmgdlipaaGreatDoor.CK
open Go.RowKit Go.Great
def shapeT:List (ByteArray × Int × Int × Int):=[
 (⟨#[110,111,112]⟩,0,0,0),
 (⟨#[104,97,108,116]⟩,0,1,0),
 (⟨#[97,98,111,114,116]⟩,0,1,0),
 (⟨#[110,117,109]⟩,1,0,1),
 (⟨#[112,111,112]⟩,0,1,0),
 (⟨#[99,111,112,121]⟩,6,0,1),
 (⟨#[115,119,97,112]⟩,0,2,2),
 (⟨#[103,101,116]⟩,2,0,1),
 (⟨#[115,101,116]⟩,2,1,0),
 (⟨#[108,111,97,100]⟩,0,1,1),
 (⟨#[115,116,111,114,101]⟩,0,2,0),
 (⟨#[108,111,97,100,56]⟩,0,1,1),
 (⟨#[115,116,111,114,101,56]⟩,0,2,0),
 (⟨#[115,105,122,101]⟩,0,0,1),
 (⟨#[106,117,109,112]⟩,3,0,0),
 (⟨#[122,101,114,111]⟩,3,1,0),
 (⟨#[110,111,116,122,101,114,111]⟩,3,1,0),
 (⟨#[99,97,108,108]⟩,4,(-1),(-1)),
 (⟨#[114,101,116]⟩,0,(-1),0),
 (⟨#[115,121,115]⟩,5,(-1),1),
 (⟨#[97,100,100]⟩,0,2,1),
 (⟨#[115,117,98]⟩,0,2,1),
 (⟨#[109,117,108]⟩,0,2,1),
 (⟨#[100,105,118]⟩,0,2,1),
 (⟨#[114,101,109]⟩,0,2,1),
 (⟨#[97,110,100]⟩,0,2,1),
 (⟨#[111,114]⟩,0,2,1),
 (⟨#[120,111,114]⟩,0,2,1),
 (⟨#[115,104,108]⟩,0,2,1),
 (⟨#[115,104,114]⟩,0,2,1),
 (⟨#[117,115,104,114]⟩,0,2,1),
 (⟨#[101,113]⟩,0,2,1),
 (⟨#[108,116]⟩,0,2,1),
 (⟨#[117,108,116]⟩,0,2,1),
 (⟨#[110,101,103]⟩,0,1,1),
 (⟨#[110,111,116]⟩,0,1,1),
 (⟨#[102,97,100,100]⟩,0,2,1),
 (⟨#[102,115,117,98]⟩,0,2,1),
 (⟨#[102,109,117,108]⟩,0,2,1),
 (⟨#[102,100,105,118]⟩,0,2,1),
 (⟨#[102,101,113]⟩,0,2,1),
 (⟨#[102,108,116]⟩,0,2,1),
 (⟨#[102,110,101,103]⟩,0,1,1),
 (⟨#[102,114,111,111,116]⟩,0,1,1),
 (⟨#[116,111,102]⟩,0,1,1),
 (⟨#[116,111,105]⟩,0,1,1)]
def Zkp:Array Value := #[
 .string ⟨#[110,111,112]⟩,.int .i64 0,.int .i64 0,.int .i64 0,
 .string ⟨#[104,97,108,116]⟩,.int .i64 0,.int .i64 1,.int .i64 0,
 .string ⟨#[97,98,111,114,116]⟩,.int .i64 0,.int .i64 1,.int .i64 0,
 .string ⟨#[110,117,109]⟩,.int .i64 1,.int .i64 0,.int .i64 1,
 .string ⟨#[112,111,112]⟩,.int .i64 0,.int .i64 1,.int .i64 0,
 .string ⟨#[99,111,112,121]⟩,.int .i64 6,.int .i64 0,.int .i64 1,
 .string ⟨#[115,119,97,112]⟩,.int .i64 0,.int .i64 2,.int .i64 2,
 .string ⟨#[103,101,116]⟩,.int .i64 2,.int .i64 0,.int .i64 1,
 .string ⟨#[115,101,116]⟩,.int .i64 2,.int .i64 1,.int .i64 0,
 .string ⟨#[108,111,97,100]⟩,.int .i64 0,.int .i64 1,.int .i64 1,
 .string ⟨#[115,116,111,114,101]⟩,.int .i64 0,.int .i64 2,.int .i64 0,
 .string ⟨#[108,111,97,100,56]⟩,.int .i64 0,.int .i64 1,.int .i64 1,
 .string ⟨#[115,116,111,114,101,56]⟩,.int .i64 0,.int .i64 2,.int .i64 0,
 .string ⟨#[115,105,122,101]⟩,.int .i64 0,.int .i64 0,.int .i64 1,
 .string ⟨#[106,117,109,112]⟩,.int .i64 3,.int .i64 0,.int .i64 0,
 .string ⟨#[122,101,114,111]⟩,.int .i64 3,.int .i64 1,.int .i64 0,
 .string ⟨#[110,111,116,122,101,114,111]⟩,.int .i64 3,.int .i64 1,.int .i64 0,
 .string ⟨#[99,97,108,108]⟩,.int .i64 4,.int .i64 (-1),.int .i64 (-1),
 .string ⟨#[114,101,116]⟩,.int .i64 0,.int .i64 (-1),.int .i64 0,
 .string ⟨#[115,121,115]⟩,.int .i64 5,.int .i64 (-1),.int .i64 1,
 .string ⟨#[97,100,100]⟩,.int .i64 0,.int .i64 2,.int .i64 1,
 .string ⟨#[115,117,98]⟩,.int .i64 0,.int .i64 2,.int .i64 1,
 .string ⟨#[109,117,108]⟩,.int .i64 0,.int .i64 2,.int .i64 1,
 .string ⟨#[100,105,118]⟩,.int .i64 0,.int .i64 2,.int .i64 1,
 .string ⟨#[114,101,109]⟩,.int .i64 0,.int .i64 2,.int .i64 1,
 .string ⟨#[97,110,100]⟩,.int .i64 0,.int .i64 2,.int .i64 1,
 .string ⟨#[111,114]⟩,.int .i64 0,.int .i64 2,.int .i64 1,
 .string ⟨#[120,111,114]⟩,.int .i64 0,.int .i64 2,.int .i64 1,
 .string ⟨#[115,104,108]⟩,.int .i64 0,.int .i64 2,.int .i64 1,
 .string ⟨#[115,104,114]⟩,.int .i64 0,.int .i64 2,.int .i64 1,
 .string ⟨#[117,115,104,114]⟩,.int .i64 0,.int .i64 2,.int .i64 1,
 .string ⟨#[101,113]⟩,.int .i64 0,.int .i64 2,.int .i64 1,
 .string ⟨#[108,116]⟩,.int .i64 0,.int .i64 2,.int .i64 1,
 .string ⟨#[117,108,116]⟩,.int .i64 0,.int .i64 2,.int .i64 1,
 .string ⟨#[110,101,103]⟩,.int .i64 0,.int .i64 1,.int .i64 1,
 .string ⟨#[110,111,116]⟩,.int .i64 0,.int .i64 1,.int .i64 1,
 .string ⟨#[102,97,100,100]⟩,.int .i64 0,.int .i64 2,.int .i64 1,
 .string ⟨#[102,115,117,98]⟩,.int .i64 0,.int .i64 2,.int .i64 1,
 .string ⟨#[102,109,117,108]⟩,.int .i64 0,.int .i64 2,.int .i64 1,
 .string ⟨#[102,100,105,118]⟩,.int .i64 0,.int .i64 2,.int .i64 1,
 .string ⟨#[102,101,113]⟩,.int .i64 0,.int .i64 2,.int .i64 1,
 .string ⟨#[102,108,116]⟩,.int .i64 0,.int .i64 2,.int .i64 1,
 .string ⟨#[102,110,101,103]⟩,.int .i64 0,.int .i64 1,.int .i64 1,
 .string ⟨#[102,114,111,111,116]⟩,.int .i64 0,.int .i64 1,.int .i64 1,
 .string ⟨#[116,111,102]⟩,.int .i64 0,.int .i64 1,.int .i64 1,
 .string ⟨#[116,111,105]⟩,.int .i64 0,.int .i64 1,.int .i64 1]
def Zlo:List (ByteArray × Int × Int × Int)->List Value
 | []=>[]
 | x::r => .string x.1 :: .int .i64 x.2.1 :: .int .i64 x.2.2.1 :: .int .i64 x.2.2.2::Zlo r
theorem Zka:∀ (l:List (ByteArray × Int × Int × Int)) (i:Nat) (nm:ByteArray) (o t g:Int),l[i]? = some (nm,o,t,g)->(Zlo l)[i*4]? = some (.string nm)/\(Zlo l)[i*4+1]? = some (.int .i64 o)/\(Zlo l)[i*4+2]? = some (.int .i64 t)/\(Zlo l)[i*4+3]? = some (.int .i64 g)
 | [],i,_,_,_,_,h=>by simp at h
 | x::r,0,_,_,_,_,h=>by simp at h;subst h;simp [Zlo]
 | x::r,i+1,a,b,c,d,h=>by
   obtain ⟨h1,h2,h3,h4⟩:=Zka r i a b c d (by simpa using h)
   have e:(i+1)*4=i*4+1+1+1+1:=by omega
   rw [e]
   simp only [Zlo]
   exact ⟨by simpa using h1,by simpa using h2,by simpa using h3,by simpa using h4⟩
theorem Zqa:Zkp=(Zlo shapeT).toArray:=by rfl
theorem Zbm:shapeT.length=46:=by rfl
theorem Yqe (nm:ByteArray) (w:World):Calls Tryz.prog 123 #[.string nm] w fun e w'=>e = .returned (.agg #[.string nm,.int .i64 0,.int .i64 2,.int .i64 1])/\w.grownBy w' none:=by
 go_enter Tryz.func123,Tryz.ntmps123
 go_wp2
 (try simp only [Exit.inBlock,Exit.then])
 refine bodyPost_ret (v := .agg #[.string nm,.int .i64 0,.int .i64 2,.int .i64 1]) ?_ rfl ⟨rfl,?_⟩
 · rw [Zca rfl]
   go_simp
 · exact Ga _ _ _
theorem Zxk (nm:ByteArray) (w:World):Calls Tryz.prog 124 #[.string nm] w fun e w'=>e = .returned (.agg #[.string nm,.int .i64 0,.int .i64 1,.int .i64 1])/\w.grownBy w' none:=by
 go_enter Tryz.func124,Tryz.ntmps124
 go_wp2
 (try simp only [Exit.inBlock,Exit.then])
 refine bodyPost_ret (v := .agg #[.string nm,.int .i64 0,.int .i64 1,.int .i64 1]) ?_ rfl ⟨rfl,?_⟩
 · rw [Zca rfl]
   go_simp
 · exact Ga _ _ _
def Zke (w:World) (S:Nat):Prop:=S<w.heap.size/\∀ (i:Nat) (v:Value),Zkp[i]? = some v->w.cell? ⟨S,i,none⟩=some v
theorem Zjk {w w':World} {S:Nat} {r:Option Nat} (h:Zke w S) (g:w.grownBy w' r) (hr:some S≠r):Zke w' S:=⟨Nat.lt_of_lt_of_le h.1 g.size,fun i v hi=>g.cell (h.2 i v hi) hr⟩
theorem Zko (w:World):Calls Tryz.prog 85 #[] w fun e w'=>∃ S,e = .returned (.slice (some ⟨S,0,none⟩) 46 46)/\w.grownBy w' none/\w.heap.size<=S/\Zke w' S:=by
 have G:=Hq (Zb w none)
 have TW:=Hq Yqe
 have ON:=Hq Zxk
 go_enter Tryz.func85,Tryz.ntmps85
 go_wp2_with (first
  | (go_at_call 123;refine (TW.out _ _).mono ?_;rintro e w1 ⟨rfl,hg⟩;replace G:=Hq (Za G.out hg);clear hg)
  | (go_at_call 124;refine (ON.out _ _).mono ?_;rintro e w1 ⟨rfl,hg⟩;replace G:=Hq (Za G.out hg);clear hg)
  | (refine wpList_buildSliceTo rfl 171 144 46 _ rfl w1.heap.size rfl (some 47) rfl Tryz.underlying171 Zkp (by kernel_rfl) ?_))
 go_ret
 exact ⟨_,rfl,Za G.out (Ga _ _ none),G.out.size,by simp,fun i v h=>by rw [World.cell?_alloc_at (hn:=rfl)];exact h⟩
theorem Ypc (L n:Nat) (hn:n<L) (hL:L<1000) (b:Nat) (x:ByteArray) (y t u:Int) (w:World) (hb:b<w.heap.size) (h0:w.cell? ⟨b,n*4,none⟩=some (.string x)) (h1:w.cell? ⟨b,n*4+1,none⟩=some (.int .i64 y)) (h2:w.cell? ⟨b,n*4+2,none⟩=some (.int .i64 t)) (h3:w.cell? ⟨b,n*4+3,none⟩=some (.int .i64 u)) :
 Calls Tryz.prog 86 #[.slice (some ⟨b,0,none⟩) L L,.int .i64 n] w fun e w'=>e = .returned (.tuple #[.agg #[.string x,.int .i64 y,.int .i64 t,.int .i64 u],.bool true])/\w.grownBy w' none:=by
 have hni:(n:Int)<(L:Int):=by omega
 go_enter Tryz.func86,Tryz.ntmps86
 go_wp2
 (try simp only [Exit.inBlock,Exit.then])
 refine bodyPost_ret (v := .tuple #[.agg #[.string x,.int .i64 y,.int .i64 t,.int .i64 u],.bool true]) ?_ rfl ⟨rfl,Ga _ _ _⟩
 rw [results_cell_tmp rfl]
 go_simp
theorem Yrc (L:Nat) (n:Int) (hn:n<0\/(L:Int)<=n) (hL:L<1000) (b:Nat) (w:World) :
 Calls Tryz.prog 86 #[.slice (some ⟨b,0,none⟩) L L,.int .i64 n] w fun e w'=>e = .returned (.tuple #[.agg #[.string ⟨#[]⟩,.int .i64 0,.int .i64 0,.int .i64 0],.bool false])/\w.grownBy w' none:=by
 rcases (by omega:n<0\/(0<=n/\(L:Int)<=n)) with hn|⟨hn0,hn⟩
 all_goals
  go_enter Tryz.func86,Tryz.ntmps86
  go_wp2
  (try simp only [Exit.inBlock,Exit.then])
  refine bodyPost_ret (v := .tuple #[.agg #[.string ⟨#[]⟩,.int .i64 0,.int .i64 0,.int .i64 0],.bool false]) ?_ rfl ⟨rfl,Ga _ _ _⟩
  rw [results_cell_tmp rfl]
  go_simp
def Yx (op:Int):Option (ByteArray × Int × Int × Int):=if 0<=op/\op<46 then shapeT[op.toNat]? else none
theorem Zcx {op:Int} (h:0<=op/\op<46):∃ (n:Nat) (x:ByteArray × Int × Int × Int),op=n/\n<46/\shapeT[n]? = some x/\Yx op=some x:=by
 obtain ⟨n,rfl⟩:=Int.eq_ofNat_of_zero_le h.1
 have hn:n<shapeT.length:=by rw [Zbm];omega
 refine ⟨n,shapeT[n],rfl,by omega,List.getElem?_eq_getElem hn,?_⟩
 unfold Yx
 rw [if_pos h,Int.toNat_natCast]
 exact List.getElem?_eq_getElem hn
theorem Zbr {op:Int} (h:¬ (0<=op/\op<46)):Yx op=none:=by unfold Yx;rw [if_neg h]
def Zqb:Option (ByteArray × Int × Int × Int)->Value
 | some x => .tuple #[.agg #[.string x.1,.int .i64 x.2.1,.int .i64 x.2.2.1,.int .i64 x.2.2.2],.bool true]
 | none => .tuple #[.agg #[.string ⟨#[]⟩,.int .i64 0,.int .i64 0,.int .i64 0],.bool false]
theorem Ztt (op:Int) (S:Nat) (w:World) (h:Zke w S) :
 Calls Tryz.prog 86 #[.slice (some ⟨S,0,none⟩) 46 46,.int .i64 op] w fun e w'=>e = .returned (Zqb (Yx op))/\w.grownBy w' none:=by
 by_cases hop:0<=op/\op<46
 · obtain ⟨n,⟨nm,o,t,g⟩,rfl,hn,hx,hs⟩:=Zcx hop
   rw [hs]
   obtain ⟨h1,h2,h3,h4⟩:=Zka shapeT n nm o t g hx
   have hc:∀ i v,(Zlo shapeT)[i]? = some v->w.cell? ⟨S,i,none⟩=some v:=fun i v hi=>h.2 i v (by rw [Zqa,List.getElem?_toArray];exact hi)
   exact Ypc 46 n hn (by decide) S nm o t g w h.1 (hc _ _ h1) (hc _ _ h2) (hc _ _ h3) (hc _ _ h4)
 · rw [Zbr hop]
   exact Yrc 46 op (by omega) (by decide) S w
theorem Ypi (op:Int) (w:World):Calls Tryz.prog 66 #[.int .i64 op] w fun e w'=>e = .returned (Zqb (Yx op))/\w.grownBy w' none:=by
 have C:=Hq Zko
 have R:=Hq (Ztt op)
 obtain ⟨nm,o,t,g,b,hv⟩:∃ nm o t g b,Zqb (Yx op) = .tuple #[.agg #[.string nm,.int .i64 o,.int .i64 t,.int .i64 g],.bool b]:=by
  cases Yx op with
  | none=>exact ⟨_,_,_,_,_,rfl⟩
  | some x=>exact ⟨_,_,_,_,_,rfl⟩
 rw [hv] at R ⊢
 clear hv
 go_enter Tryz.func66,Tryz.ntmps66
 go_wp2_with (first
  | (go_at_call 85;refine (C.out _).mono ?_;rintro e w1 ⟨S,rfl,hg,hS,hsh⟩;have G1:=Hq hg;have SH:=Hq hsh;clear hg hsh)
  | (go_at_call 86;refine (R.out _ _ SH.out).mono ?_;rintro e w2 ⟨rfl,hg2⟩;have G2:=Hq hg2;have hb:=Zf (Zf (heap_alloc_new w (.cells #[.string ⟨#[]⟩,.int .i64 0,.int .i64 0,.int .i64 0] 144)) G1.out (by simp)) hg2 (by simp);have c0:=Cq w2 _ 0 _ _ _ hb;have c1:=Cq w2 _ 1 _ _ _ hb;have c2:=Cq w2 _ 2 _ _ _ hb;have c3:=Cq w2 _ 3 _ _ _ hb;have z0:=frozen_of_row w2 _ 0 _ _ hb;have z1:=frozen_of_row w2 _ 1 _ _ hb;have z2:=frozen_of_row w2 _ 2 _ _ hb;have z3:=frozen_of_row w2 _ 3 _ _ hb;have HB:=Hq hb;clear hg2 hb))
 (try simp only [Exit.inBlock,Exit.then])
 have hq:((((w2.setCell ⟨w.heap.size,0,none⟩ (.string nm)).setCell ⟨w.heap.size,1,none⟩ (.int .i64 o)).setCell ⟨w.heap.size,2,none⟩ (.int .i64 t)).setCell ⟨w.heap.size,3,none⟩ (.int .i64 g)).heap[w.heap.size]? = some (.cells #[.string nm,.int .i64 o,.int .i64 t,.int .i64 g] 144 (0,0)):=by
  rw [Zj (Zj (Zj (Zj HB.out)))];rfl
 refine bodyPost_ret (v := .tuple #[.agg #[.string nm,.int .i64 o,.int .i64 t,.int .i64 g],.bool b]) ?_ rfl ⟨rfl,Zy (Zy (Zy (Zy (Za (Za (Ga _ _ _) G1.out) G2.out) (Nat.le_refl _)) (Nat.le_refl _)) (Nat.le_refl _)) (Nat.le_refl _)⟩
 clear c0 c1 c2 c3 z0 z1 z2 z3
 have d0:=Cq _ _ 0 _ _ _ hq
 have d1:=Cq _ _ 1 _ _ _ hq
 have d2:=Cq _ _ 2 _ _ _ hq
 have d3:=Cq _ _ 3 _ _ _ hq
 clear hq
 generalize (((w2.setCell ⟨w.heap.size,0,none⟩ (.string nm)).setCell ⟨w.heap.size,1,none⟩ (.int .i64 o)).setCell ⟨w.heap.size,2,none⟩ (.int .i64 t)).setCell ⟨w.heap.size,3,none⟩ (.int .i64 g)=w9 at *
 rw [results_cell_tmp rfl]
 go_simp
section
variable {P:Program} {ops:Array Oper} {Q:Exit->Act->World->Prop}
theorem Ydt (hdag:∀ (j:Nat) (o:Oper),ops[j]? = some o->∀ e∈o.after,e.on<j) {l:Array Bool} (h:Region.ready .any ops l=[]) (hsz:l.size=ops.size):∀ j,j<ops.size->l.getD j false=true:=by
 intro j
 induction j using Nat.strongRecOn with
 | _ j ih =>
   intro hj
   by_cases hl:l.getD j false=true
   · exact hl
   · exfalso
     have hlt:j<l.size:=by omega
     have h1:l.getD j true=false:=by
      simp only [Array.getD,hlt,dif_pos] at hl ⊢
      simpa using hl
     have:j∈Region.ready .any ops l:=mem_ready.2 ⟨h1,ops[j],by simp [hj],fun e he _=>ih e.on (hdag j ops[j] (by simp [hj]) e he) (Nat.lt_trans (hdag j ops[j] (by simp [hj]) e he) hj)⟩
     rw [h] at this
     cases this
theorem Znb (J:Array Bool->Act->World->Prop)
 (step:∀ l a w i,J l a w->i∈Region.ready .any ops l->wpOp P ops Q i (fun a' w'=>J (l.setIfInBounds i true) a' w') a w)
 (fin:∀ l a w,J l a w->(Region.ready .any ops l=[])->Q .normal a w) :
 ∀ fuel l a w,J l a w->l.toList.count false<=fuel->wpAny P .any ops Q fuel l a w
 | 0,l,a,w,hJ,hc=>by
   have hnil:Region.ready .any ops l=[]:=by
    cases hr:Region.ready .any ops l with
    | nil=>rfl
    | cons i r =>
      exfalso
      have hi:i∈Region.ready .any ops l:=by rw [hr];exact List.mem_cons_self ..
      have h1:=(mem_ready.1 hi).1
      have hlt:i<l.size:=by
       rcases Nat.lt_or_ge i l.size with h'|h'
       · exact h'
       · simp [Array.getElem?_eq_none h'] at h1
      have hm:false∈l.toList:=by
       have:l[i]=false:=by simpa [hlt] using h1
       rw [<- this];exact Array.mem_toList_iff.2 (Array.getElem_mem hlt)
      have:=List.count_pos_iff.2 hm
      omega
   exact ⟨hnil,fin l a w hJ hnil⟩
 | fuel+1,l,a,w,hJ,hc=>by
   refine ⟨fun h=>fin l a w hJ h,fun i hi=>wpOp_mono (fun a' w' hJ'=>Znb J step fin fuel _ a' w' hJ' ?_) (step l a w i hJ hi)⟩
   have h1:=(mem_ready.1 hi).1
   have hlt:i<l.size:=by
    rcases Nat.lt_or_ge i l.size with h'|h'
    · exact h'
    · simp [Array.getElem?_eq_none h'] at h1
   have hf:l[i]=false:=by simpa [hlt] using h1
   have hm:false∈l.toList:=by rw [<- hf];exact Array.mem_toList_iff.2 (Array.getElem_mem hlt)
   have hpos:=List.count_pos_iff.2 hm
   rw [Array.toList_setIfInBounds,List.count_set (by simpa using hlt)]
   have e1:(l.toList[i]'(by simpa using hlt) == false)=true:=by rw [Array.getElem_toList,hf];rfl
   rw [if_pos e1,if_neg (by decide)]
   omega
end
theorem Zq {ops:Array Oper} {l:Array Bool} {i:Nat} (hi:i∈Region.ready .any ops l) (n:Nat) (h:((ops[i]?).any fun o=>o.after.any fun e=>e.on == n && Region.binds .any e)=true):l.getD n false=true:=by
 obtain ⟨_,o,ho,haf⟩:=mem_ready.1 hi
 rw [ho] at h
 obtain ⟨e,he,hb⟩:=Array.any_eq_true'.1 (show o.after.any (fun e=>e.on == n && Region.binds .any e)=true from h)
 simp only [Bool.and_eq_true,beq_iff_eq] at hb
 rw [<- hb.1]
 exact haf e he hb.2
theorem Yvr {ops:Array Oper} (h:((List.range ops.size).all fun j=>(ops[j]?).all fun o=>o.after.all fun e=>decide (e.on<j))=true):∀ (j:Nat) (o:Oper),ops[j]? = some o->∀ e∈o.after,e.on<j:=by
 intro j o ho e he
 have hj:j<ops.size:=(Gs ho)
 have h1:=List.all_eq_true.1 h j (List.mem_range.2 hj)
 rw [ho] at h1
 have h2:=Array.all_eq_true'.1 (show o.after.all (fun e=>decide (e.on<j))=true from h1) e he
 exact of_decide_eq_true h2
theorem Zdm (l:Array Bool) (i j:Nat) (hi:i<l.size):(l.setIfInBounds i true).getD j false=if j=i then true else l.getD j false:=by
 by_cases h:j=i
 · subst h;simp [hi]
 · rw [if_neg h];simp [Array.getD_eq_getD_getElem?,Array.getElem?_setIfInBounds_ne (Ne.symm h)]
def tm (a:Act) (d:Nat):Value:=a.tmps.getD d undef
theorem Yul {a:Act} {d n:Nat} {v:Value} (hs:a.tmps.size=n) (hd:d<n) (e:Nat):tm (a.put (some d) v) e=if e=d then v else tm a e:=by
 unfold tm Act.put
 by_cases h:e=d
 · subst h;simp [hs,hd]
 · rw [if_neg h];simp [Array.getD_eq_getD_getElem?,Array.getElem?_setIfInBounds_ne (Ne.symm h)]
theorem Ykt {a:Act} {d:Option Tmp} {n:Nat} {v:Value} (hs:a.tmps.size=n):(a.put d v).tmps.size=n:=by cases d <;> simp [Act.put,hs]
section
variable {ops:Array Oper} {Q:Exit->Act->World->Prop} {i:Nat} {a:Act} {w:World}
theorem Zkj {K:Act->World->Prop} {o:Oper} {v:Value} {w':World} (ho:ops[i]? = some o) (hg:o.guard=none) (hrun:(execOp a.eval o).run Tryz.prog w = .ok (.value v) w') (h:K (a.put o.dst v) w'):wpOp Tryz.prog ops Q i K a w:=by
 unfold wpOp
 simp only [ho,Region.wanted,hg]
 refine Or.inl ?_
 unfold Oper.wp
 rw [hrun,Oper.upon_value]
 exact h
theorem Yed {K:Act->World->Prop} {o:Oper} {w':World} (ho:ops[i]? = some o) (hg:o.guard=none) (hd:o.dst=none) (hrun:(execOp a.eval o).run Tryz.prog w = .ok .skip w') (h:K a w'):wpOp Tryz.prog ops Q i K a w:=by
 unfold wpOp
 simp only [ho,Region.wanted,hg]
 refine Or.inl ?_
 unfold Oper.wp
 rw [hrun]
 simp only [Oper.upon,hd]
 exact h
theorem Ybo {K:Act->World->Prop} {o:Oper} {f:FuncId} {args:Array Value} (ho:ops[i]? = some o) (hg:o.guard=none) (hrun:(execOp a.eval o).run Tryz.prog w = .ok (.enter f args) w)
 (h:Calls Tryz.prog f args w fun e w'=>∃ v,e = .returned v/\K (a.put o.dst v) w'):wpOp Tryz.prog ops Q i K a w:=by
 unfold wpOp
 simp only [ho,Region.wanted,hg]
 refine Or.inl ?_
 unfold Oper.wp
 rw [hrun]
 simp only [Oper.upon]
 refine h.mono fun e w' he => ?_
 obtain ⟨v,rfl,hK⟩:=he
 exact hK
end
def fnV (f:FuncId) (caps:Array Value):Value := .func (.func f) #[] caps
def Ydy (b:Nat):Value := .pointer (some ⟨b,0,none⟩)
def Zcn (lo:Nat) (n:Int) (v:Value) (w:World):Prop:=∃ b,v = .agg #[fnV 146 #[Ydy b],fnV 87 #[],fnV 147 #[]]/\lo<=b/\w.cell? ⟨b,0,none⟩=some (.int .i64 n)
def Ymo:Value := .agg #[fnV 116 #[],fnV 117 #[],fnV 118 #[]]
def Ysc:Value := .agg #[fnV 119 #[],fnV 120 #[],fnV 121 #[]]
theorem Yjr (n:Int) (w:World):Calls Tryz.prog 122 #[.int .i64 n] w fun e w'=>∃ v,e = .returned v/\w.grownBy w' none/\Zcn w.heap.size n v w':=by
 go_enter Tryz.func122,Tryz.ntmps122
 go_wp2
 (try simp only [Exit.inBlock,Exit.then])
 refine bodyPost_ret (v := .agg #[fnV 146 #[Ydy w.heap.size],fnV 87 #[],fnV 147 #[]]) ?_ rfl ⟨_,rfl,Za (Ga _ _ _) (Ga _ _ _),_,rfl,Nat.le_refl _,by simp⟩
 rw [Zca rfl]
 go_simp
 exact ⟨rfl,rfl,rfl⟩
def KV (lo:Nat) (k:Nat) (v:Value) (w:World):Prop :=
 match k with
 | 0=>v=Ymo
 | 1=>v=Ysc
 | 2=>Zcn lo 64 v w
 | 3=>Zcn lo 4096 v w
 | 4=>Zcn lo 64 v w
 | 5=>Zcn lo 5 v w
 | _=>Zcn lo 256 v w
theorem Zdy {lo:Nat} {n:Int} {v:Value} {w w':World} (h:Zcn lo n v w) (g:w.grownBy w' none):Zcn lo n v w':=by
 obtain ⟨b,e,hl,hc⟩:=h;exact ⟨b,e,hl,g.cell hc (by simp)⟩
theorem Yhw {lo k:Nat} {v:Value} {w w':World} (h:KV lo k v w) (g:w.grownBy w' none):KV lo k v w':=by
 match k,h with
 | 0,h=>exact h
 | 1,h=>exact h
 | 2,h=>exact Zdy h g
 | 3,h=>exact Zdy h g
 | 4,h=>exact Zdy h g
 | 5,h=>exact Zdy h g
 | _+6,h=>exact Zdy h g
def Zhj (w:World) (lo S:Nat):Prop:=S<w.heap.size/\lo<=S/\∀ k,k<7->∃ a b c,KV lo k (.agg #[a,b,c]) w/\w.cell? ⟨S,k*3,none⟩=some a/\w.cell? ⟨S,k*3+1,none⟩=some b/\w.cell? ⟨S,k*3+2,none⟩=some c
theorem Zma {w w':World} {lo S:Nat} (h:Zhj w lo S) (g:w.grownBy w' none):Zhj w' lo S :=
 ⟨Nat.lt_of_lt_of_le h.1 g.size,h.2.1,fun k hk=>by obtain ⟨a,b,c,h1,h2,h3,h4⟩:=h.2.2 k hk;exact ⟨a,b,c,Yhw h1 g,g.cell h2 (by simp),g.cell h3 (by simp),g.cell h4 (by simp)⟩⟩
theorem Zfl {lo lo':Nat} {n:Int} {v:Value} {w:World} (h:Zcn lo n v w) (hl:lo'<=lo):Zcn lo' n v w:=by
 obtain ⟨b,e,h1,hc⟩:=h;exact ⟨b,e,Nat.le_trans hl h1,hc⟩
theorem Yxd {lo lo' k:Nat} {v:Value} {w:World} (h:KV lo k v w) (hl:lo'<=lo):KV lo' k v w:=by
 match k,h with
 | 0,h=>exact h
 | 1,h=>exact h
 | 2,h=>exact Zfl h hl
 | 3,h=>exact Zfl h hl
 | 4,h=>exact Zfl h hl
 | 5,h=>exact Zfl h hl
 | _+6,h=>exact Zfl h hl
theorem Ydd {w:World} {lo lo' S:Nat} (h:Zhj w lo S) (hl:lo'<=lo):Zhj w lo' S :=
 ⟨h.1,Nat.le_trans hl h.2.1,fun k hk=>by obtain ⟨a,b,c,h1,h2⟩:=h.2.2 k hk;exact ⟨a,b,c,Yxd h1 hl,h2⟩⟩
def SlO (lo j:Nat) (v:Value) (w:World):Prop :=
 if j<7 then KV lo j v w else ∃ S,v = .slice (some ⟨S,0,none⟩) 7 7/\Zhj w lo S
theorem Yks {lo j:Nat} {v:Value} {w w':World} (h:SlO lo j v w) (g:w.grownBy w' none):SlO lo j v w':=by
 unfold SlO at *
 split
 · rename_i hj;rw [if_pos hj] at h;exact Yhw h g
 · rename_i hj;rw [if_neg hj] at h;obtain ⟨S,e,hk⟩:=h;exact ⟨S,e,Zma hk g⟩
def dO:Nat->Nat
 | 0=>5|1=>6|2=>7|3=>8|4=>9|5=>10|6=>11|7=>12|_=>0
structure OJ (w1:World) (b1 b2:Nat) (l:Array Bool) (a:Act) (w:World):Prop where
 sz:l.size=9
 ts:a.tmps.size=13
 df:a.defers=[]
 g:w1.grownBy w none
 t1:tm a 1=Ydy b1
 t2:tm a 2=Ydy b2
 sl:∀ j,j<9->l.getD j false=true->SlO w1.heap.size j (tm a (dO j)) w
theorem Ynx:∀ i,i<9->dO i≠1/\dO i≠2/\dO i<13:=by decide
theorem Yny:∀ i,i<9->∀ j,j<9->i≠j->dO i≠dO j:=by decide
theorem Zzz {w1:World} {b1 b2 i:Nat} {l:Array Bool} {a:Act} {w w':World} {v:Value} (h:OJ w1 b1 b2 l a w) (hi:i<9) (g:w.grownBy w' none) (hv:SlO w1.heap.size i v w'):OJ w1 b1 b2 (l.setIfInBounds i true) (a.put (some (dO i)) v) w':=by
 obtain ⟨f1,f2,fd⟩:=Ynx i hi
 have T:∀ e,tm (a.put (some (dO i)) v) e=if e=dO i then v else tm a e:=fun e=>Yul h.ts fd e
 have hgs:∀ j,(l.setIfInBounds i true).getD j false=if j=i then true else l.getD j false:=fun j=>Zdm l i j (by rw [h.sz];exact hi)
 refine ⟨by simp [h.sz],Ykt h.ts,h.df,Za h.g g,by rw [T,if_neg (Ne.symm f1)];exact h.t1,by rw [T,if_neg (Ne.symm f2)];exact h.t2,?_⟩
 intro j hj hl
 rw [hgs] at hl
 by_cases hji:j=i
 · subst hji
   rw [T,if_pos rfl]
   exact hv
 · rw [if_neg hji] at hl
   rw [T,if_neg (fun e=>Yny i hi j hj (Ne.symm hji) e.symm)]
   exact Yks (h.sl j hj hl) g
section
variable {ops:Array Oper} {Q:Exit->Act->World->Prop} {w1:World} {b1 b2 i:Nat} {l:Array Bool} {a:Act} {w:World}
theorem Zjj {o:Oper} {n:Int} {ts:Array TypeId} (hJ:OJ w1 b1 b2 l a w) (ho:ops[i]? = some o) (hg:o.guard=none) (hop:o.op = .call { callee := .value (.func 122),args := #[.const (.int .i64 n)],argTypes:=ts }) (hdst:o.dst=some (dO i)) (hi:i<9)
 (hv:∀ v w,Zcn w1.heap.size n v w->SlO w1.heap.size i v w):wpOp Tryz.prog ops Q i (fun a' w'=>OJ w1 b1 b2 (l.setIfInBounds i true) a' w') a w:=by
 refine Ybo ho hg (f:=122) (args := #[.int .i64 n]) (by simp [execOp,hop,Act.eval,go_sem]) ?_
 refine (Yjr n w).mono fun e w' h => ?_
 obtain ⟨v,rfl,g,hb⟩:=h
 refine ⟨v,rfl,?_⟩
 rw [hdst]
 exact Zzz hJ hi g (hv v w' (Zfl hb hJ.g.size))
theorem Yfd {o:Oper} {s:Tmp} {b:Nat} {x y z:Value} (hJ:OJ w1 b1 b2 l a w) (ho:ops[i]? = some o) (hg:o.guard=none) (hop:o.op = .load 178 (.tmp s)) (hdst:o.dst=some (dO i)) (hi:i<9) (hs:tm a s=Ydy b)
 (h0:w1.cell? ⟨b,0,none⟩=some x) (h1:w1.cell? ⟨b,1,none⟩=some y) (h2:w1.cell? ⟨b,2,none⟩=some z) (hv:∀ w,SlO w1.heap.size i (.agg #[x,y,z]) w):wpOp Tryz.prog ops Q i (fun a' w'=>OJ w1 b1 b2 (l.setIfInBounds i true) a' w') a w:=by
 have c0:w.cell? ⟨b,0,none⟩=some x:=hJ.g.cell h0 (by simp)
 have c1:w.cell? ⟨b,1,none⟩=some y:=hJ.g.cell h1 (by simp)
 have c2:w.cell? ⟨b,2,none⟩=some z:=hJ.g.cell h2 (by simp)
 unfold tm at hs
 refine Zkj ho hg (v := .agg #[x,y,z]) (w':=w) (by simp [execOp,hop,Act.eval,hs,Ydy,c0,c1,c2,go_sem]) ?_
 rw [hdst]
 exact Zzz hJ hi (Zb _ _) (hv w)
theorem Yda:(Tryz.prog.info? 178).map (fun i=>(i.zero,i.size,i.bytes))=some (some (.agg #[.nilFunc,.nilFunc,.nilFunc]),3,24):=by kernel_rfl
theorem Yht:Tryz.prog.underlying 169=some (.slice 178):=by kernel_rfl
def Zge (b:Nat):Value := .agg #[fnV 146 #[Ydy b],fnV 87 #[],fnV 147 #[]]
def Zdv (b2 b3 b4 b5 b6:Nat):Array Value := #[fnV 116 #[],fnV 117 #[],fnV 118 #[],fnV 119 #[],fnV 120 #[],fnV 121 #[],
 fnV 146 #[Ydy b2],fnV 87 #[],fnV 147 #[],fnV 146 #[Ydy b3],fnV 87 #[],fnV 147 #[],
 fnV 146 #[Ydy b4],fnV 87 #[],fnV 147 #[],fnV 146 #[Ydy b5],fnV 87 #[],fnV 147 #[],
 fnV 146 #[Ydy b6],fnV 87 #[],fnV 147 #[]]
theorem Ydb (b2 b3 b4 b5 b6:Nat):Instr.fill (fun i=>some (i*3,3)) ((Array.range (7*3)).map ((Value.agg #[.nilFunc,.nilFunc,.nilFunc]).cells[· % (Value.agg #[.nilFunc,.nilFunc,.nilFunc]).cells.size]!))
 [(0,Ymo),(1,Ysc),(2,Zge b2),(3,Zge b3),(4,Zge b4),(5,Zge b5),(6,Zge b6)]=some (Zdv b2 b3 b4 b5 b6):=by kernel_rfl
theorem Ykr {o:Oper} (hJ:OJ w1 b1 b2 l a w) (ho:ops[7]? = some o) (hg:o.guard=none)
 (hop:o.op = .buildSlice 169 7 #[(0,.tmp 5),(1,.tmp 6),(2,.tmp 7),(3,.tmp 8),(4,.tmp 9),(5,.tmp 10),(6,.tmp 11)]) (hdst:o.dst=some 12) (hl:∀ j,j<7->l.getD j false=true) :
 wpOp Tryz.prog ops Q 7 (fun a' w'=>OJ w1 b1 b2 (l.setIfInBounds 7 true) a' w') a w:=by
 have e0:tm a 5=Ymo:=hJ.sl 0 (by decide) (hl 0 (by decide))
 have e1:tm a 6=Ysc:=hJ.sl 1 (by decide) (hl 1 (by decide))
 obtain ⟨c2,e2,l2,h2⟩:Zcn w1.heap.size 64 (tm a 7) w:=hJ.sl 2 (by decide) (hl 2 (by decide))
 obtain ⟨c3,e3,l3,h3⟩:Zcn w1.heap.size 4096 (tm a 8) w:=hJ.sl 3 (by decide) (hl 3 (by decide))
 obtain ⟨c4,e4,l4,h4⟩:Zcn w1.heap.size 64 (tm a 9) w:=hJ.sl 4 (by decide) (hl 4 (by decide))
 obtain ⟨c5,e5,l5,h5⟩:Zcn w1.heap.size 5 (tm a 10) w:=hJ.sl 5 (by decide) (hl 5 (by decide))
 obtain ⟨c6,e6,l6,h6⟩:Zcn w1.heap.size 256 (tm a 11) w:=hJ.sl 6 (by decide) (hl 6 (by decide))
 obtain ⟨ie,i0,i1,i2,i3⟩:=info_parts Yda
 have g:w.grownBy (w.alloc (.cells (Zdv c2 c3 c4 c5 c6) 178)) none:=Ga _ _ _
 refine Zkj ho hg (v := .slice (some ⟨w.heap.size,0,none⟩) 7 7) (w':=w.alloc (.cells (Zdv c2 c3 c4 c5 c6) 178)) ?_ ?_
 · have hp:((#[(0,.tmp 5),(1,.tmp 6),(2,.tmp 7),(3,.tmp 8),(4,.tmp 9),(5,.tmp 10),(6,.tmp 11)]:Array (Nat × Operand)).map fun (i,x)=>(i,a.eval x)).toList=[(0,Ymo),(1,Ysc),(2,Zge c2),(3,Zge c3),(4,Zge c4),(5,Zge c5),(6,Zge c6)]:=by
    unfold tm at e0 e1 e2 e3 e4 e5 e6
    simp only [Array.getD_eq_getD_getElem?] at e0 e1 e2 e3 e4 e5 e6
    simp [Act.eval,e0,e1,e2,e3,e4,e5,e6,Zge]
   have hr:=run_buildSlice (P:=Tryz.prog) w 169 178 7 ((#[(0,.tmp 5),(1,.tmp 6),(2,.tmp 7),(3,.tmp 8),(4,.tmp 9),(5,.tmp 10),(6,.tmp 11)]:Array (Nat × Operand)).map fun (i,x)=>(i,a.eval x)) (Zdv c2 c3 c4 c5 c6) ie (.agg #[.nilFunc,.nilFunc,.nilFunc]) Yht i0 i1 (by rw [i2];decide) (by rw [i2];decide) (by rw [i2,hp];exact Ydb c2 c3 c4 c5 c6)
   unfold execOp
   simp only [hop,Sem.run_bind,hr,Result.andThen_ok]
   rfl
 · rw [hdst]
   refine Zzz (i:=7) hJ (by decide) g ⟨_,rfl,by simp,hJ.g.size,fun k hk => ?_⟩
   have hc:∀ j v,(Zdv c2 c3 c4 c5 c6)[j]? = some v->(w.alloc (.cells (Zdv c2 c3 c4 c5 c6) 178)).cell? ⟨w.heap.size,j,none⟩=some v:=fun j v hj=>by rw [World.cell?_alloc_at (hn:=rfl)];exact hj
   have hb:∀ n c,w1.heap.size<=c->w.cell? ⟨c,0,none⟩=some (.int .i64 n)->Zcn w1.heap.size n (Zge c) (w.alloc (.cells (Zdv c2 c3 c4 c5 c6) 178)):=fun n c h1 h=>⟨c,rfl,h1,g.cell h (by simp)⟩
   rcases (by omega:k=0\/k=1\/k=2\/k=3\/k=4\/k=5\/k=6) with rfl|rfl|rfl|rfl|rfl|rfl|rfl
   · exact ⟨_,_,_,rfl,hc _ _ rfl,hc _ _ rfl,hc _ _ rfl⟩
   · exact ⟨_,_,_,rfl,hc _ _ rfl,hc _ _ rfl,hc _ _ rfl⟩
   · exact ⟨_,_,_,hb _ _ l2 h2,hc _ _ rfl,hc _ _ rfl,hc _ _ rfl⟩
   · exact ⟨_,_,_,hb _ _ l3 h3,hc _ _ rfl,hc _ _ rfl,hc _ _ rfl⟩
   · exact ⟨_,_,_,hb _ _ l4 h4,hc _ _ rfl,hc _ _ rfl,hc _ _ rfl⟩
   · exact ⟨_,_,_,hb _ _ l5 h5,hc _ _ rfl,hc _ _ rfl,hc _ _ rfl⟩
   · exact ⟨_,_,_,hb _ _ l6 h6,hc _ _ rfl,hc _ _ rfl,hc _ _ rfl⟩
theorem Yqt {o:Oper} (hJ:OJ w1 b1 b2 l a w) (ho:ops[8]? = some o) (hg:o.guard=none) (hop:o.op = .assign (.tmp 12)) (hdst:o.dst=some 0) (hl:l.getD 7 false=true):wpOp Tryz.prog ops Q 8 (fun a' w'=>OJ w1 b1 b2 (l.setIfInBounds 8 true) a' w') a w:=by
 refine Zkj ho hg (v:=tm a 12) (w':=w) (by simp [execOp,hop,Act.eval,tm]) ?_
 rw [hdst]
 exact Zzz (i:=8) hJ (by decide) (Zb _ _) (hJ.sl 7 (by decide) hl)
end
def Zvz (w:World) (e:Ending) (w':World):Prop:=∃ S,e = .returned (.slice (some ⟨S,0,none⟩) 7 7)/\w.grownBy w' none/\Zhj w' w.heap.size S
theorem Zuh (w:World):Calls Tryz.prog 84 #[] w (Zvz w):=by
 go_enter Tryz.func84,Tryz.ntmps84
 go_wp2
 rename_i K hK
 have g1:w.grownBy ((w.alloc (.cells #[.func (.func 116) #[] #[],.func (.func 117) #[] #[],.func (.func 118) #[] #[]] 178)).alloc (.cells #[.func (.func 119) #[] #[],.func (.func 120) #[] #[],.func (.func 121) #[] #[]] 178)) none:=Za (Ga _ _ _) (Ga _ _ _)
 have hb1:=heap_alloc_new w (.cells #[.func (.func 116) #[] #[],.func (.func 117) #[] #[],.func (.func 118) #[] #[]] 178)
 have hb1':=Zf hb1 (Ga _ (.cells #[.func (.func 119) #[] #[],.func (.func 120) #[] #[],.func (.func 121) #[] #[]] 178) none) (by simp)
 have hb2:=Yaq w (.cells #[.func (.func 116) #[] #[],.func (.func 117) #[] #[],.func (.func 118) #[] #[]] 178) (.cells #[.func (.func 119) #[] #[],.func (.func 120) #[] #[],.func (.func 121) #[] #[]] 178)
 clear hb1
 generalize (w.alloc (.cells #[.func (.func 116) #[] #[],.func (.func 117) #[] #[],.func (.func 118) #[] #[]] 178)).alloc (.cells #[.func (.func 119) #[] #[],.func (.func 120) #[] #[],.func (.func 121) #[] #[]] 178)=w1 at *
 refine wp_region_any (by kernel_rfl) ?_
 refine Znb (OJ w1 w.heap.size (w.heap.size+1)) ?step ?fin _ _ _ _ ?start (by simp)
 case start =>
  refine ⟨by simp,by simp,rfl,⟨rfl,rfl,rfl,Nat.le_refl _,fun _ _ _=>rfl⟩,rfl,rfl,?_⟩
  intro j hj h;exfalso;revert h;simp only [List.size_toArray];rw [getD_replicate_false];simp
 case fin =>
  intro l a w' hJ hr
  have hl:=Ydt (Yvr (by kernel_rfl)) hr hJ.sz
  obtain ⟨S,hS,hk⟩:∃ S,tm a 0 = .slice (some ⟨S,0,none⟩) 7 7/\Zhj w' w1.heap.size S:=hJ.sl 8 (by decide) (hl 8 (by decide))
  refine hK _ _ ?_
  go_wp2
  refine bodyPost_ret (v := .slice (some ⟨S,0,none⟩) 7 7) ?_ hJ.df ⟨S,rfl,Za g1 hJ.g,Ydd hk g1.size⟩
  rw [results_tmp rfl]
  unfold tm at hS
  rw [hS]
 case step =>
  intro l a w' i hJ hi
  have hi9:i<9:=by
   obtain ⟨_,o,ho,_⟩:=mem_ready.1 hi
   exact (Gs ho)
  rcases (by omega:i=0\/i=1\/i=2\/i=3\/i=4\/i=5\/i=6\/i=7\/i=8) with rfl|rfl|rfl|rfl|rfl|rfl|rfl|rfl|rfl
  · exact Yfd hJ rfl rfl rfl rfl (by decide) hJ.t1 (Cq _ _ _ _ _ _ hb1') (Cq _ _ _ _ _ _ hb1') (Cq _ _ _ _ _ _ hb1') (fun w=>rfl)
  · exact Yfd hJ rfl rfl rfl rfl (by decide) hJ.t2 (Cq _ _ _ _ _ _ hb2) (Cq _ _ _ _ _ _ hb2) (Cq _ _ _ _ _ _ hb2) (fun w=>rfl)
  · exact Zjj hJ rfl rfl rfl rfl (by decide) (fun _ _ h=>h)
  · exact Zjj hJ rfl rfl rfl rfl (by decide) (fun _ _ h=>h)
  · exact Zjj hJ rfl rfl rfl rfl (by decide) (fun _ _ h=>h)
  · exact Zjj hJ rfl rfl rfl rfl (by decide) (fun _ _ h=>h)
  · exact Zjj hJ rfl rfl rfl rfl (by decide) (fun _ _ h=>h)
  · refine Ykr hJ rfl rfl rfl rfl fun j hj => ?_
    rcases (by omega:j=0\/j=1\/j=2\/j=3\/j=4\/j=5\/j=6) with rfl|rfl|rfl|rfl|rfl|rfl|rfl
    · exact Zq hi 0 (by kernel_rfl)
    · exact Zq hi 1 (by kernel_rfl)
    · exact Zq hi 2 (by kernel_rfl)
    · exact Zq hi 3 (by kernel_rfl)
    · exact Zq hi 4 (by kernel_rfl)
    · exact Zq hi 5 (by kernel_rfl)
    · exact Zq hi 6 (by kernel_rfl)
  · exact Yqt hJ rfl rfl rfl rfl (Zq hi 7 (by kernel_rfl))
def Yon (w:World) (e:Ending) (w':World):Prop :=
 ∃ g n c xs,e = .returned (.slice (some ⟨g,0,none⟩) n c)/\1<=n/\n<=9/\w'.ownsRow w.heap.size 5 1 (.slice (some ⟨g,0,none⟩) n c) n xs/\(∀ u∈xs,u.oneCell'=true)/\w.grownBy w' none
theorem Zjz (u:Int) (h0:0<=u) (hu:u<18446744073709551616) (w:World) :
 Calls Tryz.prog 126 #[.int .u64 u] w (Yon w):=by
 by_cases h1:u<248
 · go_enter Tryz.func126,Tryz.ntmps126
   go_wp2
   go_ret
   refine ⟨_,1,1,[_],rfl,by decide,by decide,World.ownsRow_lit w #[_] 1 (Nat.le_refl _) (by decide) rfl,Zah _ _,Ga _ _ _⟩
 · go_enter Tryz.func126,Tryz.ntmps126
   go_wp2
   go_loopw [3] (fun v wr=>∃ k:Nat,1<=k/\k<=8/\v = .int .i64 k/\wr=w) (fun v _=>(intOf v).toNat)
   case atStart=>exact ⟨8,by decide,by decide,rfl,rfl⟩
   case round =>
    obtain ⟨k,hk1,hk8,rfl,rfl⟩:=hrel
    by_cases hz:u / 2 ^ (8*(k - 1))=0
    · have hz2:(u / 2 ^ (8*(k - 1)) == 0)=true:=by simp [hz]
      have hk2:2<=k:=by
       rcases Nat.lt_or_ge k 2 with h|h
       · have e:k=1:=by omega
         subst e
         simp at hz
         omega
       · exact h
      clear hz
      go_wp2
      refine ⟨⟨k - 1,by omega,by omega,by congr 1;omega,trivial⟩,by simp [intOf];omega⟩
    · have hz2:(u / 2 ^ (8*(k - 1)) == 0)=false:=by simp [hz]
      clear hz
      obtain ⟨bi,bi0,bi1,bi2,bi3⟩:=info_parts Zaz
      go_wp2
      clear hz2
      have O0:=Hq (World.ownsRow_lit (base:=wr.heap.size) (e:=5) (size:=1) wr #[Value.int IntKind.u8 (247+↑k)] 1 (Nat.le_refl _) (by decide) rfl)
      have G0:=Hq (Ga wr (.cells #[Value.int IntKind.u8 (247+↑k)] 5) none)
      obtain ⟨w0,hw0⟩:∃ w0,w0=wr:=⟨_,rfl⟩
      subst hw0
      generalize w0.alloc (.cells #[Value.int IntKind.u8 (247+↑k)] 5)=w1 at *
      go_loopw [4,5] (fun v i wr=>∃ (n:Nat) (xs:List Value) (j:Int),i = .int .i64 j /\ -1<=j/\(n:Int)+j=k/\1<=n/\wr.ownsRow w0.heap.size 5 1 v n xs/\(∀ u∈xs,u.oneCell'=true)/\w0.grownBy wr none) (fun _ i _=>(intOf i+1).toNat)
      case atStart=>exact ⟨1,_,(k:Int) - 1,rfl,by omega,by omega,Nat.le_refl _,O0.out,Zah _ _,G0.out⟩
      case round =>
       obtain ⟨n,xs,j,rfl,hj,hn,hn1,hown,ho1,hg⟩:=hrel
       have HO:=Hq ho1
       have OW:=Hq hown
       have GW:=Hq hg
       obtain ⟨m,rfl⟩:∃ m,n=m+1:=⟨n - 1,by omega⟩
       obtain ⟨g,c,rfl⟩:=Js hown
       have hc3:m+1+1<=maxLen:=by unfold maxLen;omega
       have hc4:(m+1+1)*1<=140737488355328:=by omega
       have hE:∀ o,w0.heap.size<=(wr.alloc o).heap.size:=fun o=>by have:=hg.size;simp;omega
       clear hown hg ho1
       by_cases h2:0<=j
       · go_wp2_with (at_builtin;refine wpList_append_own_at _ rfl _ _ 23 rfl w0.heap.size 5 bi (.int .u8 0) 1 1 Xv bi0 bi1 bi2 bi3 rfl (by decide) (.slice (some ⟨g,0,none⟩) (m+1) c) _ _ rfl (OW.out.alloc _) ⟨wr.heap.size,0,none⟩ 1 1 [.int .u8 _] rfl rfl (Zcd wr _ _) (Zah _ _) hc3 hc4 (hE _) ?_;intro v3 w3 hown3 hgr3 hnil3 hat3;obtain ⟨p3,k3,hv3⟩:=Zi hown3;subst hv3;have OW3:=Hq hown3;have GR3:=Hq hgr3;clear hown3 hgr3 hnil3 hat3)
         refine ⟨⟨m+1+1,_,j - 1,rfl,by omega,by omega,by omega,OW3.out,fun u hu=>(List.mem_append.1 hu).elim (HO.out u) (Zah _ _ u),Zej (Za GW.out (Ga _ _ none)) GR3.out fun k hk=>(OW.out.lt k hk).1⟩,by simp [intOf];omega⟩
       · go_wp2
         go_ret
         exact ⟨_,_,_,_,rfl,by omega,by omega,OW.out,HO.out,GW.out⟩
end Go.Proofs.YteciblfmgdlipaaGreatDoor.CK
