/-
  Part of a proof: contracts of functions and lemmas, each stated by its own theorem. Conditions: as each theorem states.
-/
import Derived.Test.YteciblfmgdlipaaGreatDoorProg
import Derived.WalkKit
import Derived.WalkLawsBesides
import Derived.RowKit3
import Derived.Deep.Draws
import Derived.Lib.Hide
import Derived.Great.BuildSlice
import Derived.Great.Walk
import Derived.Outline
import Derived.Maps.AppendAt
import Derived.Laws.OwnMore
import Derived.OwnWalk
import Derived.Laws.ResultCell
import Derived.ChangeSame
import Derived.ProofKit
import Derived.OpenShut
import Derived.Below
import Derived.Deep.Frames
import Derived.Carry
import Derived.Lib.AtoiAll
import Derived.Lib.Atoi
import Derived.Lib.SlTrimSet
import Derived.Lib.Split
import Derived.Laws.RangeString
import Derived.Laws.RangeAny
import Derived.LoopTactic
import Derived.Test.YteciblfmgdlipaaGreatDoorMIShelf
import Derived.Shelf.Strings.SlTrimAscii
import Derived.Test.YteciblfmgdlipaaGreatDoorMISq
set_option linter.unusedSimpArgs false
set_option linter.unusedVariables false
set_option maxRecDepth 100000
set_option maxHeartbeats 16000000
namespace Go.Proofs.YteciblfmgdlipaaGreatDoor.CK
open Go.RowKit Go.Great
theorem Zgr {k:IntKind} {a b:Int} (h:a=b):Ending.returned (.int k a) = .returned (.int k b):=by rw [h]
theorem Zb (w:World) (r:Option Nat):w.grownBy w r:=⟨rfl,rfl,rfl,Nat.le_refl _,fun _ _ _=>rfl⟩
theorem Za {a b c:World} {r:Option Nat} (h:a.grownBy b r) (g:b.grownBy c r):a.grownBy c r :=
 ⟨g.os.trans h.os,g.tape.trans h.tape,g.output.trans h.output,Nat.le_trans h.size g.size,fun k hk hr=>(g.block k (Nat.lt_of_lt_of_le hk h.size) hr).trans (h.block k hk hr)⟩
theorem Zm (w:World) (b o:Nat) (v:Value):w.grownBy (w.setCell ⟨b,o,none⟩ v) (some b):=⟨rfl,rfl,rfl,by simp,fun k hk hr=>heap_setCell_other w _ k v (by intro e;exact hr (by rw [e]))⟩
theorem Ze {w w':World} {row:Option Nat} (h:w.grownBy w' row):w.grownBy w'.drew row:=⟨h.os,h.tape,h.output,h.size,h.block⟩
theorem Zsu (w:World) (n:Nat) (row:Option Nat):w.grownBy (w.drewN n) row:=⟨rfl,rfl,rfl,by simp,fun k hk _=>by simp⟩
theorem Xn {w w':World} {row:Option Nat} (h:w.grownBy w' row) (n:Nat):w.grownBy (w'.drewN n) row:=Za h (Zsu w' n row)
theorem Zon {w w':World} {r:Option Nat} (h:w.grownBy w' none):w.grownBy w' r:=⟨h.os,h.tape,h.output,h.size,fun k hk _=>h.block k hk (by simp)⟩
theorem Znw {w:World} {base:Nat} {e:TypeId} {size n:Nat} {v:Value} {xs:List Value} {b:Nat} (h:w.ownsRow base e size v n xs) (hb:b<base):v.ownBlock=none\/v.ownBlock≠some b:=by
 cases hv:v.ownBlock with
 | none=>left;rfl
 | some k=>right;have:=(h.lt k hv).1;intro e;injection e with e;omega
theorem Zsg {w:World} {base:Nat} {e:TypeId} {size n:Nat} {v:Value} {xs:List Value} {b:Nat} (h:w.ownsRow base e size v n xs) (hb:b<base):v.ownBlock≠some b:=by
 rcases Znw h hb with h1|h1
 · rw [h1];simp
 · exact h1
theorem Zf {w w':World} {b:Nat} {o:Obj} {row:Option Nat} (h:w.heap[b]? = some o) (g:w.grownBy w' row) (hr:row≠some b):w'.heap[b]? = some o:=by
 rw [g.block b (Gs h) (fun e=>hr e.symm)];exact h
theorem Zcd (w:World) (x:Value) (t:TypeId):∀ j u,[x][j]? = some u->(w.alloc (.cells #[x] t)).cell? ((⟨w.heap.size,0,none⟩:Addr).add j)=some u:=by
 intro j u hj
 match j,hj with
 | 0,hj=>simp at hj;subst hj;simp [Addr.add]
theorem Zah (k:IntKind) (x:Int):∀ u∈[Value.int k x],u.oneCell'=true:=by intro u hu;simp at hu;subst hu;rfl
theorem Yqd (w:World) (x y:Value) (t:TypeId):∀ j u,[x,y][j]? = some u->(w.alloc (.cells #[x,y] t)).cell? ((⟨w.heap.size,0,none⟩:Addr).add j)=some u:=by
 intro j u hj
 match j,hj with
 | 0,hj=>simp at hj;subst hj;simp [Addr.add]
 | 1,hj=>simp at hj;subst hj;simp [Addr.add]
theorem Yki (k:IntKind) (x y:Int):∀ u∈[Value.int k x,Value.int k y],u.oneCell'=true:=by
 intro u hu;simp at hu;rcases hu with rfl|rfl <;> rfl
structure Sp (P:Nat->Prop) (w w':World):Prop where
 os:w'.os=w.os
 tape:w'.tape=w.tape
 output:w'.output=w.output
 size:w.heap.size<=w'.heap.size
 block:∀ k,k<w.heap.size->¬ P k->w'.heap[k]? = w.heap[k]?
theorem Yqs (P:Nat->Prop) (w:World):Sp P w w:=⟨rfl,rfl,rfl,Nat.le_refl _,fun _ _ _=>rfl⟩
theorem Zza {P Q:Nat->Prop} {w w1 w2:World} (h:Sp P w w1) (g:Sp Q w1 w2) (hq:∀ k,k<w.heap.size->Q k->P k):Sp P w w2 :=
 ⟨g.os.trans h.os,g.tape.trans h.tape,g.output.trans h.output,Nat.le_trans h.size g.size,fun k hk hp=>(g.block k (Nat.lt_of_lt_of_le hk h.size) (fun hQ=>hp (hq k hk hQ))).trans (h.block k hk hp)⟩
theorem Zji {P:Nat->Prop} {w w1:World} {r:Option Nat} (h:w.grownBy w1 r) (hr:∀ k,k<w.heap.size->r=some k->P k):Sp P w w1 :=
 ⟨h.os,h.tape,h.output,h.size,fun k hk hp=>h.block k hk (fun e=>hp (hr k hk e.symm))⟩
theorem Yih {w w':World} {k:Nat} (h:w'.heap[k]? = w.heap[k]?) (o:Nat):w'.cell? ⟨k,o,none⟩=w.cell? ⟨k,o,none⟩:=by
 unfold World.cell?;rw [h]
theorem Znl {P:Nat->Prop} {w w':World} {b o:Nat} {v:Value} (h:w.cell? ⟨b,o,none⟩=some v) (g:Sp P w w') (hp:¬ P b):w'.cell? ⟨b,o,none⟩=some v:=by
 rw [Yih (g.block b (World.block_lt_of_cell? _ _ h) hp)];exact h
theorem Ygs {P:Nat->Prop} {w w':World} {base:Nat} {e:TypeId} {size n:Nat} {v:Value} {xs:List Value} (h:w.ownsRow base e size v n xs) (g:Sp P w w') (hp:∀ k,v.ownBlock=some k->¬ P k):w'.ownsRow base e size v n xs:=by
 obtain ⟨h1,h2⟩:=h
 refine ⟨h1,?_⟩
 rcases h2 with h2|⟨g0,cap,cur,rfl,hb,hg,rest⟩
 · exact .inl h2
 · exact .inr ⟨g0,cap,cur,rfl,hb,by rw [g.block g0 (Gs hg) (hp g0 rfl)];exact hg,rest⟩
theorem Js {w:World} {base:Nat} {e:TypeId} {size n:Nat} {v:Value} {xs:List Value} (h:w.ownsRow base e size v (n+1) xs):∃ g cap,v = .slice (some ⟨g,0,none⟩) (n+1) cap:=by
 rcases h.2 with ⟨_,h0⟩|⟨g,cap,cur,hv,_⟩
 · omega
 · exact ⟨g,cap,hv⟩
theorem Yrv {w:World} {base:Nat} {e:TypeId} {size n:Nat} {v:Value} {xs:List Value} {b o:Nat} {u:Value} (h:w.ownsRow base e size v n xs) (hb:b<base):(w.setCell ⟨b,o,none⟩ u).ownsRow base e size v n xs :=
 h.kept (Zm w b o u) (Znw h hb)
theorem Zh {w:World} {base:Nat} {e e':TypeId} {size size' n n':Nat} {v v':Value} {xs xs':List Value} (h:w.ownsRow base e size v n xs) (h':w.ownsRow base e' size' v' n' xs') (hne:e≠e'):v.ownBlock=none\/v.ownBlock≠v'.ownBlock:=by
 rcases h.2 with ⟨rfl,_⟩|⟨g,cap,cur,rfl,_,hg,_⟩
 · left;rfl
 · right
   rcases h'.2 with ⟨rfl,_⟩|⟨g',cap',cur',rfl,_,hg',_⟩
   · simp [Value.ownBlock]
   · simp only [Value.ownBlock]
     intro heq
     injection heq with heq
     rw [heq] at hg
     rw [hg] at hg'
     injection hg' with hx
     injection hx with _ hx2 _
     exact hne hx2
theorem Zcc {w:World} {base base':Nat} {e:TypeId} {size n:Nat} {v:Value} {xs:List Value} (h:w.ownsRow base e size v n xs) (hb:base'<=base):w.ownsRow base' e size v n xs:=by
 refine ⟨h.1,?_⟩
 rcases h.2 with h|⟨g,cap,cur,e1,e2,e3⟩
 · exact Or.inl h
 · exact Or.inr ⟨g,cap,cur,e1,Nat.le_trans hb e2,e3⟩
theorem Zi {w:World} {base:Nat} {e:TypeId} {size n:Nat} {v:Value} {xs:List Value} (h:w.ownsRow base e size v n xs):∃ (p:Option Addr) (cap:Nat),v = .slice p n cap:=by
 rcases h.2 with ⟨rfl,rfl⟩|⟨g,cap,cur,hv,_⟩
 · exact ⟨_,_,rfl⟩
 · exact ⟨_,_,hv⟩
theorem Zv {w:World} {base:Nat} {e:TypeId} {size n:Nat} {v:Value} {xs:List Value} (h:w.ownsRow base e size v n xs) (h0:0<n):∃ g cap,v = .slice (some ⟨g,0,none⟩) n cap/\g<w.heap.size/\∀ j x,xs[j]? = some x->j<n*size->w.cell? ⟨g,j,none⟩=some x:=by
 obtain ⟨m,rfl⟩:∃ m,n=m+1:=⟨n - 1,by omega⟩
 obtain ⟨g,cap,rfl⟩:=Js h
 exact ⟨g,cap,rfl,(h.lt g rfl).2,fun j x hx hj=>by rw [h.cellAt _ (by omega)];exact hx⟩
theorem Zn {w:World} {base:Nat} {e t:TypeId} {size n b:Nat} {v:Value} {xs:List Value} {cs:Array Value} (h:w.ownsRow base e size v n xs) (hb:w.heap[b]? = some (.cells cs t (0,0))) (hne:e≠t):v.ownBlock≠some b:=by
 rcases h.2 with ⟨rfl,_⟩|⟨g,cap,cur,rfl,_,hg,_⟩
 · simp [Value.ownBlock]
 · simp only [Value.ownBlock]
   intro e'
   injection e' with e'
   subst e'
   rw [hb] at hg
   injection hg with hg
   injection hg with _ h2 _
   exact hne h2.symm
theorem Yaq (w:World) (o o':Obj):((w.alloc o).alloc o').heap[w.heap.size+1]? = some o':=by
 have h:=heap_alloc_new (w.alloc o) o'
 rw [World.size_alloc] at h;exact h
theorem Zsv {w w1 w2:World} {r:Option Nat} {b:Nat} (h:w.grownBy w1 r) (g:w1.grownBy w2 (some b)) (hb:w.heap.size<=b):w.grownBy w2 r :=
 ⟨g.os.trans h.os,g.tape.trans h.tape,g.output.trans h.output,Nat.le_trans h.size g.size,fun k hk hr=>(g.block k (Nat.lt_of_lt_of_le hk h.size) (by intro e;injection e with e;omega)).trans (h.block k hk hr)⟩
theorem Zw {E:Nat} {w:World} (h:E<=w.heap.size) (o:Obj):E<=(w.alloc o).heap.size:=by simp;omega
def Xh:List (Int × Int)->List Value
 | []=>[]
 | x::r => .int .i64 x.1 :: .int .i64 x.2::Xh r
theorem Zhd (a b:List (Int × Int)):Xh (a++b)=Xh a++Xh b:=by
 induction a with
 | nil=>rfl
 | cons x r ih=>simp [Xh,ih]
theorem Zfg:∀ (l:List (Int × Int)) (i:Nat) (a b:Int),l[i]? = some (a,b)->(Xh l)[i*2]? = some (.int .i64 a)/\(Xh l)[i*2+1]? = some (.int .i64 b)
 | [],i,a,b,h=>by simp at h
 | x::r,0,a,b,h=>by simp at h;subst h;simp [Xh]
 | x::r,i+1,a,b,h=>by
   obtain ⟨h1,h2⟩:=Zfg r i a b (by simpa using h)
   have e:(i+1)*2=i*2+1+1:=by omega
   rw [e]
   simp only [Xh]
   exact ⟨by simpa using h1,by simpa using h2⟩
theorem Xu {w w':World} {row:Option Nat} {B b o:Nat} {v:Value} (g:w.grownBy w' row) (hr:∀ r,row=some r->B<=r) (hb:b<B) (h:w.cell? ⟨b,o,none⟩=some v):w'.cell? ⟨b,o,none⟩=some v :=
 g.cell h (by intro e;have:=hr b e.symm;omega)
theorem Zj {w:World} {b o:Nat} {cs:Array Value} {t:TypeId} {v:Value} (h:w.heap[b]? = some (.cells cs t (0,0))):(w.setCell ⟨b,o,none⟩ v).heap[b]? = some (.cells (cs.setIfInBounds o v) t (0,0)):=heap_setCell_same w b o cs t v h
theorem Zej {w0 w w':World} {r:Option Nat} (h:w0.grownBy w none) (g:w.grownBy w' r) (hb:∀ k,r=some k->w0.heap.size<=k):w0.grownBy w' none :=
 ⟨g.os.trans h.os,g.tape.trans h.tape,g.output.trans h.output,Nat.le_trans h.size g.size,fun k hk _=>(g.block k (Nat.lt_of_lt_of_le hk h.size) (by intro e;have:=hb k e.symm;omega)).trans (h.block k hk (by simp))⟩
theorem Zca {fn:Func} {p:Tmp} {ty:TypeId} (h:fn.results = #[.cell p ty]) (tmps:Array Value) (P:Program) (w:World) :
 (results fn tmps).run P w=((asAddr (tmps.getD p undef)).run P w).andThen fun a w₁=>(loadVar ty a).run P w₁:=by
 simp only [results,h]
 simp [Sem.run_bind,Result.andThen]
theorem Zfc {fn:Func} {p u v:Tmp} {ty:TypeId} (h:fn.results = #[.cell p ty,.tmp u,.tmp v]) (tmps:Array Value) (P:Program) (w:World) :
 (results fn tmps).run P w =
   ((asAddr (tmps.getD p undef)).run P w).andThen fun a w₁=>((loadVar ty a).run P w₁).andThen fun x w₂ => .ok (.tuple #[x,tmps.getD u undef,tmps.getD v undef]) w₂:=by
 simp only [results,h]
 simp [Sem.run_bind,Result.andThen]
theorem Zy {w0 w:World} {b o:Nat} {v:Value} (h:w0.grownBy w none) (hb:w0.heap.size<=b):w0.grownBy (w.setCell ⟨b,o,none⟩ v) none :=
 Zej h (Zm w b o v) fun k hk=>by injection hk with hk;omega
theorem Yia:Tryz.prog.underlying 93=some (.slice 3):=by kernel_rfl
theorem Yne:(Tryz.prog.info? 3).map (fun i=>(i.zero,i.size,i.bytes))=some (some (.int .i64 0),1,8):=by kernel_rfl
theorem Xv:Tryz.prog.underlying 23=some (.slice 5):=by kernel_rfl
theorem Zaz:(Tryz.prog.info? 5).map (fun i=>(i.zero,i.size,i.bytes))=some (some (.int .u8 0),1,1):=by kernel_rfl
end Go.Proofs.YteciblfmgdlipaaGreatDoor.CK
namespace Go.Proofs.YteciblfmgdlipaaGreatDoor.TG
open Go.RowKit Go.ChangeShapes Go.WideShapes
theorem Zsr {w w':World} (h:w.grownBy w' none) (may:MemPlace->Prop):w.keptBut w' may:=by
 refine ⟨h.os,h.output,fun i hi => ?_⟩
 rw [h.block i hi (by simp)]
 cases w.heap[i]? with
 | none=>rfl
 | some o =>
   cases o with
   | cells c t fr=>exact ⟨rfl,rfl,rfl,fun _ _=>rfl⟩
   | map es ck=>exact Or.inr ⟨rfl,rfl⟩
   | _=>rfl
theorem Zvb {w w':World} (h:w.grownBy w' none) (a:Addr) (ha:a.block<w.heap.size):w'.frozen? a=w.frozen? a:=by
 unfold World.frozen?
 rw [h.block a.block ha (by simp)]
theorem Zsc {H:Type} {enc:TypeId × Value->H} {P:Program} {f:Func} {s:ChangeSpec} {apart fresh handsOn again:Bool} {W W':World} {args:Array Value} {v:Value} {ds gs:List (DataW H)} {before pa pv:List MemPlace}
 (hW:DataW.Whole enc P f.params.toList s.vars apart W args.toList ds gs before)
 (hres:∀ (b:Nat) (sp:Nat->Bool) (hd:Bool),DataW.TrodAll enc P W' b sp hd f.resultTypes.toList (v.resultList f.resultTypes.size) (s.fn H (ds++gs)).results [])
 (hargs:∀ sp:Nat->Bool,(∀ p∈before,sp p.block=true)->DataW.TrodAll enc P W' 0 sp true f.params.toList args.toList (s.fn H (ds++gs)).args pa)
 (hvars:∀ sp:Nat->Bool,(∀ p∈before,sp p.block=true)->DataW.TrodVars enc P W' sp s.vars (s.fn H (ds++gs)).vars pv)
 (hps:before=pa++pv) (hg:W.grownBy W' none)
 (hok:∀ (j:Nat) (t:TypeId) (r:Value),f.resultTypes[j]? = some t->(v.resultList f.resultTypes.size)[j]? = some r->Value.okWide P W' .any 0 t r) :
 s.post enc P f apart fresh handsOn again W args v W':=by
 subst hps
 have low:=hW.lt
 have hold:∀ p∈pa++pv,(fun b=>decide (b<W.heap.size)) p.block=true:=fun p hp=>decide_eq_true (low p hp)
 have hall:∀ p∈pa++pv,(fun _:Nat=>true) p.block=true:=fun _ _=>rfl
 have hW0:=hW
 obtain ⟨_,_,_,_,_,hz,hn⟩:=hW0
 refine ⟨ds,gs,pa++pv,[],pa,pv,hW,hres _ _ _,hargs _ hold,hvars _ hold,Zsr hg _,fun _=>⟨hok,_,_,pa++pv,⟨pa,pv,trodAll_append (p:=[]) (hargs _ hall) (hres _ _ _),hvars _ hall,rfl,?_,hn⟩,fun p hp _=>hp⟩⟩
 intro b off hp
 rw [Zvb hg _ (low _ hp)]
 exact hz b off hp
open Go.ChangeAt
section
variable {H:Type} {enc:TypeId × Value->H} {P:Program}
theorem Ybw {W W':World} (hg:W.grownBy W' none) {p:MemPlace} (hp:p.block<W.heap.size):W.sameAt W' p:=by
 have hb:=hg.block p.block hp (by simp)
 cases p with
 | cell b off=>exact World.cell?_of_block (w:=W) hb
 | map b=>exact hb
theorem Zrn (hl:laidOutB P=true) {W W':World} {sp:Nat->Bool} (hg:W.grownBy W' none) :
 ∀ {ts:List TypeId} {vs:List Value} {ds:List (DataW H)} {ps:List MemPlace},(∀ t∈ts,P.readableRec t=true/\t<P.types.size) ->
 DataW.TrodAll enc P W 0 (fun _=>true) true ts vs ds ps->(∀ p∈ps,p.block<W.heap.size)->(∀ p∈ps,sp p.block=true)->DataW.TrodAll enc P W' 0 sp true ts vs ds ps
 | [],[],[],_,_,h,_,_=>h
 | t::ts,_::_,_::_,_,hr,⟨p,q,h1,h2,e⟩,hlt,hs =>
   ⟨p,q,WideElems.Trod_stays hl (hr t (List.mem_cons.2 (Or.inl rfl))).1 (hr t (List.mem_cons.2 (Or.inl rfl))).2 h1
      (fun x hx=>Ybw hg (hlt x (by rw [e];exact List.mem_append_left _ hx)))
      (fun x hx=>hs x (by rw [e];exact List.mem_append_left _ hx)),
    Zrn hl hg (fun t ht=>hr t (List.mem_cons.2 (Or.inr ht))) h2
     (fun x hx=>hlt x (by rw [e];exact List.mem_append_right _ hx)) (fun x hx=>hs x (by rw [e];exact List.mem_append_right _ hx)),e⟩
theorem Ycx {f:Func} {s:ChangeSpec} {tb:TypeId} {apart fresh handsOn again:Bool} {W W':World} {args:Array Value} {ds gs:List (DataW H)} {before:List MemPlace}
 (hl:laidOutB P=true) (hr:∀ t∈f.params.toList,P.readableRec t=true/\t<P.types.size) (hv:s.vars=[])
 (hres:f.resultTypes = #[tb]) (hb:P.underlying tb=some .bool)
 (hW:DataW.Whole enc P f.params.toList s.vars apart W args.toList ds gs before)
 (hfn:gs=[]->s.fn H (ds++gs)={ results:=[.lit (.bool true)],args:=ds }) (hg:W.grownBy W' none) :
 s.post enc P f apart fresh handsOn again W args (.bool true) W':=by
 have hW':=hW
 obtain ⟨p,q,hA,hV,rfl,hfz,hnd⟩:=hW'
 have hgs:gs=[]/\q=[]:=by
  rw [hv] at hV
  cases gs with
  | nil=>exact ⟨rfl,hV⟩
  | cons g gs=>exact absurd hV (fun h=>h)
 obtain ⟨rfl,rfl⟩:=hgs
 have hf:=hfn rfl
 refine Zsc (pa:=p) (pv:=[]) hW (fun b sp hd => ?_) (fun sp hsp => ?_) (fun sp hsp => ?_) (by simp) hg ?_
 · rw [hf,hres]
   exact trodAll_cons_mk (shut_bool hb _) trodAll_mk0
 · rw [hf]
   exact Zrn hl hg hr hA (fun x hx=>hW.lt x (List.mem_append_left _ hx)) (fun x hx=>hsp x (List.mem_append_left _ hx))
 · rw [hf,hv];exact rfl
 · exact ok_one hres rfl (okWide_bool_mk hb _)
end
end Go.Proofs.YteciblfmgdlipaaGreatDoor.TG
namespace Go.Proofs.YteciblfmgdlipaaGreatDoor.AS
abbrev Txt:=List UInt8
def bs (l:Txt):ByteArray:=⟨l.toArray⟩
def Zob (c:Int):Bool:=c == 95 || decide (97<=c) && decide (c<=122) || decide (65<=c) && decide (c<=90)
def Zeb (c:Int):Bool:=decide (48<=c) && decide (c<=57)
def tlI (c:Int):Bool:=Zob c || Zeb c
def Ycr (b:UInt8):Bool:=Zob (b.toNat:Int)
def Zpo (b:UInt8):Bool:=Zeb (b.toNat:Int)
def tlB (b:UInt8):Bool:=tlI (b.toNat:Int)
def Zhu (b:UInt8):Option Nat:=if 48<=b.toNat/\b.toNat<=57 then some (b.toNat - 48) else if 97<=b.toNat/\b.toNat<=102 then some (b.toNat - 87) else none
def Yz (acc:Nat):Txt->Option Nat
 | []=>some acc
 | c::r=>match Zhu c with|none=>none|some d=>Yz (16*acc+d) r
def Zcy (l:Txt):Nat:=(l.takeWhile tlB).length
def unq:Txt->Option (Txt × Nat)
 | []=>none
 | c::r =>
   if c.toNat=34 then some ([],1)
   else if c.toNat<32\/126<c.toNat then none
   else if c.toNat≠92 then (unq r).map fun x=>(c::x.1,x.2+1)
   else match r with
    | []=>none
    | d::r2 =>
      if d.toNat=34\/d.toNat=92 then (unq r2).map fun x=>(d::x.1,x.2+2)
      else if d.toNat=120 then match r2 with
       | x::y::r3=>match Zhu x,Zhu y with
         | some a,some b=>(unq r3).map fun z=>(UInt8.ofNat (16*a+b)::z.1,z.2+4)
         | _,_=>none
       | _=>none
      else none
def Zrq (u:Nat):Int:=if u<9223372036854775808 then (u:Int) else (u:Int) - 18446744073709551616
def Zex (l:Txt):Option (Int × Bool) :=
 if [48,120].isPrefixOf l then
  if 1<=(l.drop 2).length/\(l.drop 2).length<=16 then (Yz 0 (l.drop 2)).map fun u=>(Zrq u,false) else none
 else
  let neg:=l.head? == some 45
  (Lib.decNat (if neg then l.drop 1 else l)).map fun v =>
    if neg then (if v<=9223372036854775808 then (-(v:Int),false) else (0,true))
    else (if v<9223372036854775808 then ((v:Int),false) else (0,true))
inductive Pc
 | word (t:Txt)
 | num (n:Int) (big:Bool)
 | str (t:Txt)
 | colon
def Zmm:Txt->Option (Pc × Nat)
 | []=>none
 | c::r =>
   if Ycr c then some (.word ((c::r).take (Zcy (c::r))),Zcy (c::r))
   else if c.toNat=34 then (unq r).map fun x=>(.str x.1,x.2+1)
   else if c.toNat=45\/Zpo c then (Zex ((c::r).take (1+Zcy r))).map fun x=>(.num x.1 x.2,1+Zcy r)
   else none
def Zpr:Nat->Bool->Txt->Option (List Pc)
 | 0,_,_=>none
 | _+1,_,[]=>some []
 | f+1,apart,c::r =>
   if c.toNat=59 then some []
   else if c.toNat=32\/c.toNat=9\/c.toNat=13 then Zpr f true r
   else if c.toNat=58 then (Zpr f true r).map (Pc.colon::·)
   else if apart=false then none
   else match Zmm (c::r) with
    | none=>none
    | some (p,k)=>(Zpr f false ((c::r).drop k)).map (p::·)
def Zpm (l:Txt):Option (List Pc):=Zpr (l.length+1) true l
abbrev Yym:=Int × Int × Option Txt
inductive Sd
 | nothing
 | mem (n:Int)
 | data (t:Txt)
 | fn (name:Txt) (a l r:Int)
 | code (labels:List Txt) (ins:Option Yym)
def Yb:List Pc->List Txt × List Pc
 | .word t :: .colon::r=>(t::(Yb r).1,(Yb r).2)
 | l=>([],l)
structure Tab where
 named:Txt->Option Int
 kind:Int->Int
 sys:Txt->Option Int
def Zfu (T:Tab) (lb:List Txt):List Pc->Option Sd
 | []=>some (.code lb none)
 | .word t::rest=>match T.named t with
   | none=>none
   | some n =>
     if T.kind n=0 then (match rest with|[]=>some (.code lb (some (n,0,none)))|_=>none)
     else match rest with
      | [.num v _]=>some (.code lb (some (n,v,none)))
      | [.word s] =>
        if T.kind n=5 then (T.sys s).map fun c => .code lb (some (n,c,none))
        else if T.kind n=3\/T.kind n=4 then some (.code lb (some (n,0,some s)))
        else none
      | _=>none
 | _=>none
def Jn:Txt:=[109,101,109,111,114,121]
def Zey:Txt:=[100,97,116,97]
def Zgf:Txt:=[102,117,110,99]
def Zdl (T:Tab):List Pc->Option Sd
 | .word t::r =>
   if t=Jn then (match r with|[.num n _]=>some (.mem n)|_=>none)
   else if t=Zey then (match r with|[.str b]=>some (.data b)|_=>none)
   else if t=Zgf then (match r with|[.word nm,.num a _,.num l _,.num k _]=>some (.fn nm a l k)|_=>none)
   else Zfu T [] (.word t::r)
 | l=>Zfu T [] l
def Zdj (T:Tab) (l:List Pc):Option Sd :=
 match l with
 | []=>some .nothing
 | _=>match Yb l with
   | ([],r)=>Zdl T r
   | (lb,r)=>Zfu T lb r
def Ziz (l:List Pc):Bool:=l.any fun p=>match p with | .num _ b=>b|_=>false
abbrev FnR:=Int × Int × Int × List (Int × Int)
structure Zdz where
 fn:Nat
 pl:Nat
 line:Nat
 word:Txt
 jump:Bool
structure St where
 mem:Int
 memSet:Bool
 data:Txt
 funcs:List FnR
 names:List Txt
 labels:List (List (Txt × Nat))
 wants:List Zdz
def St0:St:=⟨0,false,[],[],[],[],[]⟩
def Zfh (s:St):Sd->Bool
 | .mem _ => !s.memSet && s.funcs.isEmpty
 | .data _=>s.funcs.isEmpty
 | .code _ _ => !s.funcs.isEmpty
 | _=>true
def Zae (at_:Nat):List (Txt × Nat)->List Txt->Option (List (Txt × Nat))
 | m,[]=>some m
 | m,t::r=>if m.any (fun x=>x.1 == t) then none else Zae at_ (m++[(t,at_)]) r
def Xr (s:St):FnR:=s.funcs.getLastD (0,0,0,[])
def Jr (s:St) (x:Int × Int):List FnR:=s.funcs.set (s.funcs.length - 1) ((Xr s).1,(Xr s).2.1,(Xr s).2.2.1,(Xr s).2.2.2++[x])
def Jv (T:Tab) (s:St) (x:Sd) (big:Bool) (line:Nat):Except Int St :=
 if !Zfh s x then .error 141
 else if big then .error 143
 else match x with
  | .nothing => .ok s
  | .mem n => .ok { s with mem:=n,memSet:=true }
  | .data t => .ok { s with data:=s.data++t }
  | .fn nm a l r =>
    if s.names.contains nm then .error 142
    else .ok { s with funcs:=s.funcs++[(a,l,r,[])],names:=s.names++[nm],labels:=s.labels++[[]] }
  | .code lb ins =>
    match Zae (Xr s).2.2.2.length (s.labels.getLastD []) lb with
    | none => .error 142
    | some m =>
      let s1:={ s with labels:=s.labels.set (s.labels.length - 1) m }
      match ins with
      | none => .ok s1
      | some (n,a,w) =>
        let ws:=match w with
         | none=>s.wants
         | some t=>s.wants++[⟨s.funcs.length - 1,(Xr s).2.2.2.length,line,t,T.kind n == 3⟩]
        .ok { s1 with wants:=ws,funcs:=Jr s (n,a) }
def Zjv (T:Tab) (s:St) (l:Txt) (line:Nat):Except Int St :=
 match Zpm l with
 | none => .error 141
 | some ps=>match Zdj T ps with
   | none => .error 141
   | some x=>Jv T s x (Ziz ps) line
def Zcm (T:Tab):St->Nat->List Txt->Except (Int × Nat) St
 | s,_,[] => .ok s
 | s,n,l::r=>match Zjv T s l n with
   | .error e => .error (e,n)
   | .ok s1=>Zcm T s1 (n+1) r
def Zci:Txt->List Txt
 | []=>[[]]
 | c::r=>if c.toNat=10 then []::Zci r else match Zci r with|[]=>[[c]]|l::m=>(c::l)::m
def Zmo (s:St) (w:Zdz):Option Nat :=
 if w.jump then ((s.labels.getD w.fn []).find? (fun x=>x.1 == w.word)).map (·.2)
 else s.names.findIdx? (· == w.word)
def Zpl (fs:List FnR) (f at_:Nat) (a:Int):List FnR :=
 match fs[f]? with
 | none=>fs
 | some x=>fs.set f (x.1,x.2.1,x.2.2.1,match x.2.2.2[at_]? with|none=>x.2.2.2|some i=>x.2.2.2.set at_ (i.1,a))
def Zhw (s:St):List FnR->List Zdz->Except Nat (List FnR)
 | fs,[] => .ok fs
 | fs,w::r=>match Zmo s w with
   | none => .error w.line
   | some n=>Zhw s (Zpl fs w.fn w.pl n) r
abbrev PrP:=Int × Txt × List FnR
def Zaq (T:Tab) (chk:PrP->Int) (t:Txt):Except (Int × Nat) PrP :=
 if 65536<t.length then .error (2,0)
 else match Zcm T St0 1 (Zci t) with
  | .error e => .error e
  | .ok s=>match Zhw s s.funcs s.wants with
    | .error n => .error (142,n)
    | .ok fs=>let e:=chk (s.mem,s.data,fs);if e=0 then .ok (s.mem,s.data,fs) else .error (e,0)
theorem Zow:∀ (l:Txt),(∀ c∈l,c.toNat≠10)->Zci l=[l]
 | [],_=>rfl
 | c::r,h=>by
   have h1:=Zow r (fun d hd=>h d (List.mem_cons_of_mem _ hd))
   have h2:=h c (List.mem_cons_self ..)
   unfold Zci
   rw [if_neg h2,h1]
theorem Zsz:∀ (l r:Txt) (c:UInt8),(∀ c∈l,c.toNat≠10)->c.toNat=10->Zci (l++c::r)=l::Zci r
 | [],r,c,_,hc=>by
   show Zci (c::r)=_
   rw [Zci,if_pos hc]
 | d::l,r,c,h,hc=>by
   have h1:=Zsz l r c (fun d hd=>h d (List.mem_cons_of_mem _ hd)) hc
   have h2:=h d (List.mem_cons_self ..)
   show Zci (d::(l++c::r))=_
   rw [Zci,if_neg h2,h1]
theorem Yix:∀ (l:Txt),Zci l≠[]
 | []=>by simp [Zci]
 | c::r=>by
   unfold Zci
   split
   · simp
   · cases h:Zci r <;> simp
theorem Zxm (s:Txt) (j:Nat):Lib.occAt s [10] j=true ↔ s[j]? = some 10:=by
 unfold Lib.occAt
 cases h:s.drop j with
 | nil =>
   have:s[j]? = none:=by rw [List.drop_eq_nil_iff] at h;exact List.getElem?_eq_none h
   rw [this];simp
 | cons a t =>
   have:s[j]? = some a:=by
    have h1:(s.drop j)[0]? = some a:=by rw [h];rfl
    rw [List.getElem?_drop] at h1;simpa using h1
   rw [this]
   simp [List.isPrefixOf]
   exact eq_comm
theorem Yoz (c:UInt8):c.toNat=10 ↔ c=10:=by
 constructor
 · intro h;exact UInt8.toNat_inj.1 (by rw [h];rfl)
 · rintro rfl;rfl
theorem Zkn:∀ (n:Nat) (s:Txt),s.length<=n->Lib.splitK [10] 0 (Lib.count s [10]) s=Zci s/\(Zci s).length=Lib.count s [10]+1
 | n,s,hn=>by
   rcases Lib.index_spec s [10] with ⟨h,hno⟩|⟨i,h,hi,ho,hno⟩
   · have hc:∀ c∈s,c.toNat≠10:=by
      intro c hc h10
      obtain ⟨j,hj,rfl⟩:=List.getElem_of_mem hc
      have:=hno j (Nat.le_of_lt hj)
      have h2:Lib.occAt s [10] j=true:=(Zxm s j).2 (by rw [List.getElem?_eq_getElem hj,(Yoz _).1 h10])
      rw [h2] at this;cases this
     rw [Lib.count_miss h,Zow s hc];exact ⟨rfl,rfl⟩
   · have hi10:=(Zxm s i).1 ho
     have hlt:i<s.length:=by
      rcases Nat.lt_or_ge i s.length with h1|h1
      · exact h1
      · rw [List.getElem?_eq_none h1] at hi10;cases hi10
     have he:s=s.take i++10::s.drop (i+1):=by
      have h1:s[i]=10:=by rw [List.getElem?_eq_getElem hlt] at hi10;injection hi10
      rw [<- h1,<- List.drop_eq_getElem_cons hlt,List.take_append_drop]
     have hpre:∀ c∈s.take i,c.toNat≠10:=by
      intro c hc h10
      obtain ⟨j,hj,rfl⟩:=List.getElem_of_mem hc
      have hj2:j<i:=by simp at hj;omega
      have h2:Lib.occAt s [10] j=true:=(Zxm s j).2 (by rw [List.getElem?_eq_getElem (by omega),<- (Yoz _).1 h10,List.getElem_take])
      have h3:=hno j hj2
      rw [h2] at h3;cases h3
     have hr:(s.drop (i+1)).length<s.length:=by rw [List.length_drop];omega
     cases n with
     | zero=>omega
     | succ n =>
       have ih:=Zkn n (s.drop (i+1)) (by omega)
       have hm:¬ (Lib.index s [10] == -1)=true:=fun e=>by have:=beq_iff_eq.1 e;omega
       have ei:(Lib.index s [10]).toNat=i:=by omega
       have e2:Zci s=s.take i::Zci (s.drop (i+1)):=by
        have:=Zsz (s.take i) (s.drop (i+1)) 10 hpre rfl
        rw [<- he] at this;exact this
       rw [Lib.count_hit (by simp) h,Nat.add_comm 1,Lib.splitK,if_neg hm,ei,e2]
       refine ⟨?_,by rw [List.length_cons,ih.2];rfl⟩
       show List.take (i+0) s::Lib.splitK [10] 0 (Lib.count (s.drop (i+1)) [10]) (s.drop (i+1))=_
       rw [ih.1];rfl
theorem Ybv (s:ByteArray):(Lib.splitB ⟨#[10]⟩ 0 (Lib.countB s ⟨#[10]⟩) s).map (·.data.toList)=Zci s.data.toList:=by
 rw [Lib.splitB_data]
 exact (Zkn _ _ (Nat.le_refl _)).1
theorem Ytj (s:ByteArray):(Zci s.data.toList).length=Lib.countB s ⟨#[10]⟩+1:=(Zkn _ _ (Nat.le_refl _)).2
theorem Yaw (b:UInt8):Zpo b=true ↔ 48<=b.toNat/\b.toNat<=57:=by
 unfold Zpo Zeb
 simp only [Bool.and_eq_true,decide_eq_true_eq]
 omega
theorem Zmh:∀ (l:Txt) (a:Nat),l.all Zpo=true->∃ v,Lib.decFrom a l=some v
 | [],a,_=>⟨a,rfl⟩
 | c::r,a,h=>by
   simp only [List.all_cons,Bool.and_eq_true] at h
   unfold Lib.decFrom Lib.digitVal
   rw [if_pos ((Yaw c).1 h.1)]
   exact Zmh r _ h.2
theorem Zmg:∀ (l:Txt) (a:Nat),l.all Zpo=false->Lib.decFrom a l=none
 | [],_,h=>by simp at h
 | c::r,a,h=>by
   unfold Lib.decFrom Lib.digitVal
   by_cases hc:48<=c.toNat/\c.toNat<=57
   · rw [if_pos hc]
     have:Zpo c=true:=(Yaw c).2 hc
     simp only [List.all_cons,this,Bool.true_and] at h
     exact Zmg r _ h
   · rw [if_neg hc]
theorem Zrj:∀ (l:Txt) (a v:Nat),Lib.decFrom a l=some v->a<=v
 | [],a,v,h=>by simp only [Lib.decFrom,Option.some.injEq] at h;omega
 | c::r,a,v,h=>by
   unfold Lib.decFrom at h
   split at h
   · have:=Zrj r _ v h;omega
   · cases h
theorem Zqs:∀ (l:Txt) (a v:Nat),a<18446744073709551616->Lib.decFrom a l=some v->Lib.parseUint10 a l=(if v<18446744073709551616 then .ok v else .range)
 | [],a,v,ha,h=>by
   simp only [Lib.decFrom,Option.some.injEq] at h
   subst h
   rw [if_pos ha];rfl
 | c::r,a,v,ha,h=>by
   unfold Lib.decFrom Lib.digitVal at h
   by_cases hc:48<=c.toNat/\c.toNat<=57
   · rw [if_pos hc] at h
     have hle:=Zrj r _ v h
     unfold Lib.parseUint10
     rw [if_pos hc]
     by_cases h1:1844674407370955162<=a
     · rw [if_pos h1,if_neg (by omega)]
     · rw [if_neg h1]
       by_cases h2:18446744073709551616<=a*10+(c.toNat - 48)
       · rw [if_pos h2,if_neg (by omega)]
       · rw [if_neg h2]
         exact Zqs r _ v (by omega) h
   · rw [if_neg hc] at h;cases h
theorem Yjs (neg:Bool) (d:Txt) (v:Nat) (h:Lib.decNat d=some v) :
 Lib.atoiAll (if neg then 45::d else d)=(if neg then (if v<=9223372036854775808 then .ok (-(v:Int)) else .range) else (if v<9223372036854775808 then .ok (v:Int) else .range)):=by
 have hne:d≠[]:=by rintro rfl;simp [Lib.decNat] at h
 have hdec:Lib.decFrom 0 d=some v:=by
  unfold Lib.decNat at h
  rw [if_neg (by simpa using hne)] at h;exact h
 have hp:=Zqs d 0 v (by decide) hdec
 have hm:Lib.parseMag d=(if v<18446744073709551616 then .ok v else .range):=by unfold Lib.parseMag;rw [if_neg hne,hp]
 obtain ⟨c,r,rfl⟩:∃ c r,d=c::r:=by cases d with|nil=>exact absurd rfl hne|cons c r=>exact ⟨c,r,rfl⟩
 have hc:48<=c.toNat/\c.toNat<=57:=by
  unfold Lib.decFrom Lib.digitVal at hdec
  by_cases hc:48<=c.toNat/\c.toNat<=57
  · exact hc
  · rw [if_neg hc] at hdec;cases hdec
 cases neg with
 | true =>
   simp only [if_true]
   have h45:(45:UInt8).toNat=45:=rfl
   unfold Lib.atoiAll
   simp only []
   rw [if_pos (Or.inr h45),hm]
   by_cases h1:v<18446744073709551616
   · rw [if_pos h1]
     simp only [h45,not_true_eq_false,false_and,if_false,true_and,if_true]
     by_cases h2:v<=9223372036854775808
     · rw [if_neg (by omega),if_pos h2]
     · rw [if_pos (by omega),if_neg h2]
   · rw [if_neg h1,if_neg (by omega)]
 | false =>
   simp only [Bool.false_eq_true,if_false]
   unfold Lib.atoiAll
   simp only []
   rw [if_neg (by omega),hm]
   by_cases h1:v<18446744073709551616
   · rw [if_pos h1]
     have h45:¬ c.toNat=45:=by omega
     simp only [h45,not_false_eq_true,true_and,false_and,if_false]
     by_cases h2:v<9223372036854775808
     · rw [if_neg (by omega),if_pos h2]
     · rw [if_pos (by omega),if_neg h2]
   · rw [if_neg h1,if_neg (by omega)]
theorem Zbg {p:UInt8->Bool}:∀ (l:Txt),l.dropWhile p=[] ↔ l.all p=true
 | []=>by simp
 | c::r=>by
   rw [List.dropWhile_cons,List.all_cons]
   cases h:p c with
   | true=>simp only [if_true,Bool.true_and];exact Zbg r
   | false=>simp
theorem Zif {p:UInt8->Bool}:∀ (l:Txt) (c:UInt8) (r:Txt),l.dropWhile p=c::r->p c=false
 | [],c,r,h=>by simp at h
 | d::l,c,r,h=>by
   rw [List.dropWhile_cons] at h
   cases hd:p d with
   | true=>rw [hd] at h;exact Zif l c r (by simpa using h)
   | false=>rw [hd] at h;simp at h;rw [<- h.1];exact hd
theorem Zti (l cs:Txt):Lib.trimS l cs=[] ↔ l.all (cs.contains ·)=true:=by
 unfold Lib.trimS Lib.trimLeftS
 rw [Zbg]
 unfold Lib.trimRightS
 cases h:l.reverse.dropWhile (cs.contains ·) with
 | nil =>
   rw [Zbg,List.all_reverse] at h
   exact ⟨fun _=>h,fun _=>rfl⟩
 | cons c r =>
   have h1:=Zif _ _ _ h
   constructor
   · intro h2
     rw [List.all_reverse,List.all_cons,h1] at h2
     simp at h2
   · intro h2
     rw [<- List.all_reverse,<- Zbg,h] at h2
     cases h2
def hexSet:Txt:=[48,49,50,51,52,53,54,55,56,57,97,98,99,100,101,102]
def digSet:Txt:=[48,49,50,51,52,53,54,55,56,57]
theorem Yba (P:UInt8->Prop) (h:∀ n:Fin 256,P (UInt8.ofNat n.val)) (b:UInt8):P b:=by
 have:=h ⟨b.toNat,b.toNat_lt⟩
 simpa using this
theorem Ydj (b:UInt8):hexSet.contains b=(Zhu b).isSome:=Yba (fun b=>hexSet.contains b=(Zhu b).isSome) (by decide) b
theorem Ydn (b:UInt8):digSet.contains b=Zpo b:=Yba (fun b=>digSet.contains b=Zpo b) (by decide) b
def Zmc (l:Txt):Bool:=l.all fun b=>(Zhu b).isSome
theorem Zmr (l:Txt):Lib.trimS l hexSet=[] ↔ Zmc l=true:=by
 rw [Zti];unfold Zmc
 rw [show (fun b=>hexSet.contains b)=(fun b=>(Zhu b).isSome) from funext Ydj]
theorem Zyx (l:Txt):Lib.trimS l digSet=[] ↔ l.all Zpo=true:=by
 rw [Zti]
 rw [show (fun b=>digSet.contains b)=Zpo from funext Ydn]
theorem Zlj {b:UInt8} {n:Nat} (h:Zhu b=some n):n<16:=by
 unfold Zhu at h
 split at h
 · injection h;omega
 · split at h
   · injection h;omega
   · cases h
theorem Zdc:∀ (l:Txt) (a:Nat),Zmc l=true->∃ v,Yz a l=some v/\v<(a+1)*16 ^ l.length
 | [],a,_=>⟨a,rfl,by simp⟩
 | c::r,a,h=>by
   unfold Zmc at h
   simp only [List.all_cons,Bool.and_eq_true] at h
   obtain ⟨d,hd⟩:=Option.isSome_iff_exists.1 h.1
   obtain ⟨v,h1,h2⟩:=Zdc r (16*a+d) h.2
   refine ⟨v,?_,?_⟩
   · unfold Yz;rw [hd];exact h1
   · have:=Zlj hd
     rw [List.length_cons,Nat.pow_succ]
     refine Nat.lt_of_lt_of_le h2 ?_
     rw [Nat.mul_comm (16 ^ r.length),<- Nat.mul_assoc]
     exact Nat.mul_le_mul_right _ (by omega)
theorem Zbw:∀ (l:Txt) (a:Nat),Zmc l=false->Yz a l=none
 | [],_,h=>by simp [Zmc] at h
 | c::r,a,h=>by
   unfold Yz
   cases hc:Zhu c with
   | none=>rfl
   | some d =>
     have:Zmc r=false:=by unfold Zmc at h ⊢;simpa [hc] using h
     exact Zbw r _ this
theorem Zha {l:Txt} {k a:Nat} {b:UInt8} {d:Nat} (hk:l[k]? = some b) (hd:Zhu b=some d):Yz a (l.drop k)=Yz (16*a+d) (l.drop (k+1)):=by
 obtain ⟨h1,h2⟩:=List.getElem?_eq_some_iff.1 hk
 rw [List.drop_eq_getElem_cons h1,h2]
 rw [Yz,hd]
theorem Zyg {l:Txt} (h0:l≠[]) (h:l.all Zpo=true):∃ v,Lib.decNat l=some v:=by
 obtain ⟨v,hv⟩:=Zmh l 0 h
 exact ⟨v,by unfold Lib.decNat;rw [if_neg (by simpa using h0)];exact hv⟩
theorem Zri {l:Txt} (h:l=[]\/l.all Zpo=false):Lib.decNat l=none:=by
 unfold Lib.decNat
 rcases h with rfl|h
 · rfl
 · split
   · rfl
   · exact Zmg l 0 h
open Go.RowKit Go.Great CK
theorem Zum (c:Int) :
 (c=95/\Zob c=true)\/((c == 95)=false/\97<=c/\c<=122/\Zob c=true)\/((c == 95)=false/\97<=c/\122<c/\Zob c=false) \/
 ((c == 95)=false/\c<97/\65<=c/\c<=90/\Zob c=true)\/((c == 95)=false/\c<97/\65<=c/\90<c/\Zob c=false)\/((c == 95)=false/\c<65/\Zob c=false):=by
 unfold Zob
 by_cases h1:c=95
 · left;subst h1;exact ⟨rfl,by decide⟩
 · have e:(c == 95)=false:=beq_eq_false_iff_ne.2 h1
   right;rw [e]
   by_cases h2:97<=c
   · have h6:65<=c:=by omega
     have h7:¬ c<=90:=by omega
     by_cases h3:c<=122
     · left;simp [h2,h3]
     · right;left;refine ⟨rfl,h2,by omega,?_⟩;simp [h2,h3,h6,h7]
   · right;right
     by_cases h4:65<=c
     · by_cases h5:c<=90
       · left;refine ⟨rfl,by omega,h4,h5,?_⟩;simp [h2,h4,h5]
       · right;left;refine ⟨rfl,by omega,h4,by omega,?_⟩;simp [h2,h4,h5]
     · right;right;refine ⟨rfl,by omega,?_⟩;simp [h2,h4]
theorem Zay (c:Int) (w:World):Calls Tryz.prog 107 #[.int .i32 c] w fun e w'=>e = .returned (.bool (Zob c))/\w=w':=by
 rcases Zum c with ⟨rfl,h⟩|⟨h1,h2,h3,h⟩|⟨h1,h2,h3,h⟩|⟨h1,h2,h3,h4,h⟩|⟨h1,h2,h3,h4,h⟩|⟨h1,h2,h⟩
 all_goals
  rw [h];clear h
  go_enter Tryz.func107,Tryz.ntmps107
  go_wp2
  go_ret
  first
   | exact ⟨rfl,rfl⟩
   | exact ⟨by simp;omega,rfl⟩
theorem Zft (c:Int) (w:World):Calls Tryz.prog 110 #[.int .i32 c] w fun e w'=>e = .returned (.bool (Zeb c))/\w=w':=by
 by_cases h1:48<=c
 · have h:Zeb c=decide (c<=57):=by unfold Zeb;simp [h1]
   rw [h];clear h
   go_enter Tryz.func110,Tryz.ntmps110
   go_wp2
   go_ret
   exact ⟨rfl,rfl⟩
 · have h:Zeb c=false:=by unfold Zeb;simp [h1]
   rw [h];clear h
   go_enter Tryz.func110,Tryz.ntmps110
   go_wp2
   go_ret
   first|exact ⟨rfl,rfl⟩|exact ⟨by simp,rfl⟩|exact ⟨by simp;omega,rfl⟩
theorem Zco (c:Int) (w:World):Calls Tryz.prog 91 #[.int .u8 c] w fun e w'=>e = .returned (.bool (Zob c))/\w=w':=by
 rcases Zum c with ⟨rfl,h⟩|⟨h1,h2,h3,h⟩|⟨h1,h2,h3,h⟩|⟨h1,h2,h3,h4,h⟩|⟨h1,h2,h3,h4,h⟩|⟨h1,h2,h⟩
 all_goals
  rw [h];clear h
  go_enter Tryz.func91,Tryz.ntmps91
  go_wp2
  go_ret
  first
   | exact ⟨rfl,rfl⟩
   | (refine ⟨?_,rfl⟩;simp [h1];done)
   | (refine ⟨?_,rfl⟩;simp [h1];omega)
theorem Yl (c:Int) (w:World):Calls Tryz.prog 93 #[.int .u8 c] w fun e w'=>e = .returned (.bool (Zeb c))/\w=w':=by
 by_cases h1:48<=c
 · have h:Zeb c=decide (c<=57):=by unfold Zeb;simp [h1]
   rw [h];clear h
   go_enter Tryz.func93,Tryz.ntmps93
   go_wp2
   go_ret
   exact ⟨rfl,rfl⟩
 · have h:Zeb c=false:=by unfold Zeb;simp [h1]
   rw [h];clear h
   go_enter Tryz.func93,Tryz.ntmps93
   go_wp2
   go_ret
   first|exact ⟨rfl,rfl⟩|exact ⟨by simp,rfl⟩|exact ⟨by simp;omega,rfl⟩
theorem Zau (c:Int) (w:World):Calls Tryz.prog 92 #[.int .u8 c] w fun e w'=>e = .returned (.bool (tlI c))/\w=w':=by
 unfold tlI
 cases h:Zob c with
 | true =>
   go_enter Tryz.func92,Tryz.ntmps92
   go_wp2_with (go_at_call 91;refine (Zco _ _).mono ?_;rintro e w' ⟨rfl,rfl⟩)
   go_ret
   exact ⟨by simp,rfl⟩
 | false =>
   go_enter Tryz.func92,Tryz.ntmps92
   go_wp2_with (first
    | (go_at_call 91;refine (Zco _ _).mono ?_;rintro e w' ⟨rfl,rfl⟩)
    | (go_at_call 93;refine (Yl _ _).mono ?_;rintro e w' ⟨rfl,rfl⟩))
   go_ret
   exact ⟨by simp,rfl⟩
def Yui (c:Int):Bool:=c == 9 || c == 13 || c == 32
theorem Zbd (c:Int) (w:World):Calls Tryz.prog 89 #[.int .u8 c] w fun e w'=>e = .returned (.bool (Yui c))/\w=w':=by
 unfold Yui
 by_cases h1:(c == 9)=true
 · go_enter Tryz.func89,Tryz.ntmps89
   go_wp2
   go_ret
   exact ⟨by simp [h1],rfl⟩
 · replace h1:(c == 9)=false:=by simpa using h1
   by_cases h2:(c == 13)=true
   · go_enter Tryz.func89,Tryz.ntmps89
     go_wp2
     go_ret
     exact ⟨by simp [h1,h2],rfl⟩
   · replace h2:(c == 13)=false:=by simpa using h2
     go_enter Tryz.func89,Tryz.ntmps89
     go_wp2
     go_ret
     exact ⟨by simp [h1,h2],rfl⟩
def Yap (c:Int):Int:=if 48<=c/\c<=57 then c - 48 else if 97<=c/\c<=102 then c - 87 else -1
theorem Yig (b:UInt8):Yap (b.toNat:Int)=match Zhu b with|some n=>(n:Int)|none => -1:=by
 unfold Yap Zhu
 by_cases h1:48<=b.toNat/\b.toNat<=57
 · rw [if_pos (by omega),if_pos h1];simp only [];omega
 · rw [if_neg (by omega),if_neg h1]
   by_cases h2:97<=b.toNat/\b.toNat<=102
   · rw [if_pos (by omega),if_pos h2];simp only [];omega
   · rw [if_neg (by omega),if_neg h2]
theorem Ylh (c:Int) (h0:0<=c) (h9:c<256) (w:World):Calls Tryz.prog 128 #[.int .u8 c] w fun e w'=>e = .returned (.int .i64 (Yap c))/\w=w':=by
 rcases (by omega:c<48\/(48<=c/\c<=57)\/(57<c/\c<97)\/(97<=c/\c<=102)\/102<c) with h|⟨h1,h2⟩|⟨h1,h2⟩|⟨h1,h2⟩|h
 · have e:Yap c = -1:=by unfold Yap;rw [if_neg (by omega),if_neg (by omega)]
   have hd:Zeb c=false:=by unfold Zeb;simp;omega
   rw [e]
   go_enter Tryz.func128,Tryz.ntmps128
   go_wp2_with (go_at_call 93;refine (Yl _ _).mono ?_;rintro e w' ⟨rfl,rfl⟩;rw [hd])
   go_ret
   exact ⟨rfl,rfl⟩
 · have e:Yap c=c - 48:=by unfold Yap;rw [if_pos (by omega)]
   have hd:Zeb c=true:=by unfold Zeb;simp;omega
   rw [e]
   go_enter Tryz.func128,Tryz.ntmps128
   go_wp2_with (go_at_call 93;refine (Yl _ _).mono ?_;rintro e w' ⟨rfl,rfl⟩;rw [hd])
   go_ret
   exact ⟨Zgr (by first|rfl|omega),rfl⟩
 · have e:Yap c = -1:=by unfold Yap;rw [if_neg (by omega),if_neg (by omega)]
   have hd:Zeb c=false:=by unfold Zeb;simp;omega
   rw [e]
   go_enter Tryz.func128,Tryz.ntmps128
   go_wp2_with (go_at_call 93;refine (Yl _ _).mono ?_;rintro e w' ⟨rfl,rfl⟩;rw [hd])
   go_ret
   exact ⟨rfl,rfl⟩
 · have e:Yap c=c - 87:=by unfold Yap;rw [if_neg (by omega),if_pos (by omega)]
   have hd:Zeb c=false:=by unfold Zeb;simp;omega
   rw [e]
   go_enter Tryz.func128,Tryz.ntmps128
   go_wp2_with (go_at_call 93;refine (Yl _ _).mono ?_;rintro e w' ⟨rfl,rfl⟩;rw [hd])
   go_ret
   exact ⟨Zgr (by first|rfl|omega),rfl⟩
 · have e:Yap c = -1:=by unfold Yap;rw [if_neg (by omega),if_neg (by omega)]
   have hd:Zeb c=false:=by unfold Zeb;simp;omega
   rw [e]
   go_enter Tryz.func128,Tryz.ntmps128
   go_wp2_with (go_at_call 93;refine (Yl _ _).mono ?_;rintro e w' ⟨rfl,rfl⟩;rw [hd])
   go_ret
   exact ⟨rfl,rfl⟩
theorem Yei (s:ByteArray) (pos:Nat) (h:pos<s.size):1<=(Utf8.decode s pos).2:=by
 by_cases ha:(s[pos]'h).toNat<128
 · rw [decode_ascii s pos h ha]
   exact Nat.le_refl _
 · exact (decode_high s pos h (by omega)).2
theorem Ye (s:ByteArray):s.data.toList.length=s.size:=by simp
theorem Zev (s:ByteArray) (k:Nat) (h:k<s.size):s.data.toList[k]? = some (s[k]'h):=by
 rw [List.getElem?_eq_getElem (by simpa using h)];rfl
theorem Yfr (l:Txt) (k:Nat) (h1:∀ j,j<k->∃ b,l[j]? = some b/\tlB b=true) (h2:∀ b,l[k]? = some b->tlB b=false):Zcy l=k:=by
 induction k generalizing l with
 | zero =>
   unfold Zcy
   cases l with
   | nil=>rfl
   | cons c r =>
     have:=h2 c rfl
     simp [this]
 | succ k ih =>
   obtain ⟨b,hb,ht⟩:=h1 0 (Nat.succ_pos _)
   cases l with
   | nil=>simp at hb
   | cons c r =>
     have hc:c=b:=by simpa using hb
     subst hc
     have:=ih r (fun j hj=>by have:=h1 (j+1) (by omega);simpa using this) (fun b hb=>h2 b (by simpa using hb))
     unfold Zcy at this ⊢
     rw [List.takeWhile_cons,if_pos ht,List.length_cons,this]
theorem Zrr {c:Int} (h:128<=c):Zob c=false/\Zeb c=false:=by
 unfold Zob Zeb
 constructor
 · simp;omega
 · simp;omega
def Yyl (s:ByteArray) (w w':World):Prop:=∃ pos,w'=w.iter s pos/\pos<=s.size/\∀ j,j<pos->∃ b,s.data.toList[j]? = some b/\tlB b=true
theorem Zqy (w:World) (s:ByteArray) (pos:Nat):w.grownBy (w.iter s pos) none:=Ga _ _ _
theorem Yfq (s:ByteArray) (w:World):Calls Tryz.prog 108 #[.string s] w fun e w'=>e = .returned (.int .i64 (Zcy s.data.toList))/\w.grownBy w' none:=by
 have RE:=Hq (Yfr s.data.toList)
 generalize Zcy s.data.toList=v at *
 go_enter Tryz.func108,Tryz.ntmps108
 go_wp2
 go_loopw [3] (fun _ w'=>Yyl s w w') (fun _ w'=>s.size - w'.iterPos w.heap.size)
 case atStart=>exact ⟨0,rfl,Nat.zero_le _,fun j h=>absurd h (Nat.not_lt_zero _)⟩
 case round =>
  obtain ⟨pos,rfl,hk,hall⟩:=hrel
  have HL:=Hq hall
  clear hall
  by_cases hp:pos<s.size
  · have hnx:∀ ty,(Instr.next (.pointer (some ⟨w.heap.size,0,none⟩)) true ty).run Tryz.prog (w.iter s pos)=_:=fun ty=>run_next_any w s pos ty hp
    have hb:=Zev s pos hp
    have hwd:=Yei s pos hp
    have HD:(Utf8.decode s pos=((s[pos]'hp).toNat,1))\/(128<=(Utf8.decode s pos).1/\128<=(s[pos]'hp).toNat):=by
     by_cases ha:(s[pos]'hp).toNat<128
     · exact Or.inl (decode_ascii s pos hp ha)
     · exact Or.inr ⟨(decode_high s pos hp (by omega)).1,by omega⟩
    have HB:=Hq hb
    have HH:=Hq HD
    clear HD hb
    cases c1:Zob ((Utf8.decode s pos).1:Int) with
    | true =>
      have ht:Utf8.decode s pos=((s[pos]'hp).toNat,1)/\tlB (s[pos]'hp)=true:=by
       rcases HH.out with h|⟨h,_⟩
       · refine ⟨h,?_⟩
         rw [h] at c1
         unfold tlB tlI;rw [c1];rfl
       · rw [(Zrr (c:=((Utf8.decode s pos).1:Int)) (by omega)).1] at c1;cases c1
      have HT:=Hq ht
      clear ht hwd
      have C1:=Hq c1
      clear c1
      go_wp2_with (go_at_call 107;refine (Zay _ _).mono ?_;rintro e w' ⟨rfl,rfl⟩;rw [C1.out])
      go_roundw
      case rel=>exact ⟨pos+1,by rw [HT.out.1],by omega,fun j hj=>by
       rcases Nat.lt_or_eq_of_le (Nat.le_of_lt_succ hj) with h5|h5
       · exact HL.out j h5
       · subst h5;exact ⟨_,HB.out,HT.out.2⟩⟩
      case measure=>rw [HT.out.1];simp;omega
    | false =>
      cases c2:Zeb ((Utf8.decode s pos).1:Int) with
      | true =>
        have ht:Utf8.decode s pos=((s[pos]'hp).toNat,1)/\tlB (s[pos]'hp)=true:=by
         rcases HH.out with h|⟨h,_⟩
         · refine ⟨h,?_⟩
           rw [h] at c1 c2
           unfold tlB tlI;rw [c1,c2];rfl
         · rw [(Zrr (c:=((Utf8.decode s pos).1:Int)) (by omega)).2] at c2;cases c2
        have HT:=Hq ht
        clear ht hwd
        have C1:=Hq c1
        have C2:=Hq c2
        clear c1 c2
        go_wp2_with (first
         | (go_at_call 107;refine (Zay _ _).mono ?_;rintro e w' ⟨rfl,rfl⟩;rw [C1.out])
         | (go_at_call 110;refine (Zft _ _).mono ?_;rintro e w' ⟨rfl,rfl⟩;rw [C2.out]))
        go_roundw
        case rel=>exact ⟨pos+1,by rw [HT.out.1],by omega,fun j hj=>by
         rcases Nat.lt_or_eq_of_le (Nat.le_of_lt_succ hj) with h5|h5
         · exact HL.out j h5
         · subst h5;exact ⟨_,HB.out,HT.out.2⟩⟩
        case measure=>rw [HT.out.1];simp;omega
      | false =>
        have ht:v=pos:=by
         refine RE.out _ HL.out (fun b hb => ?_)
         rw [HB.out] at hb
         injection hb with hb
         subst hb
         unfold tlB tlI
         rcases HH.out with h|⟨_,h⟩
         · rw [h] at c1 c2
           rw [c1,c2];rfl
         · rw [(Zrr (by omega)).1,(Zrr (by omega)).2];rfl
        have HT:=Hq ht
        clear ht hwd
        have C1:=Hq c1
        have C2:=Hq c2
        clear c1 c2
        go_wp2_with (first
         | (go_at_call 107;refine (Zay _ _).mono ?_;rintro e w' ⟨rfl,rfl⟩;rw [C1.out])
         | (go_at_call 110;refine (Zft _ _).mono ?_;rintro e w' ⟨rfl,rfl⟩;rw [C2.out]))
        go_ret
        exact ⟨by rw [HT.out];rfl,Zqy _ _ _⟩
  · have hnx:∀ ty,(Instr.next (.pointer (some ⟨w.heap.size,0,none⟩)) true ty).run Tryz.prog (w.iter s pos)=_:=fun ty=>run_next_end w s pos ty hp
    have ht:v=s.size:=RE.out _ (fun j hj=>HL.out j (by omega)) (fun b hb=>by
     rw [List.getElem?_eq_none (by rw [Ye];exact Nat.le_refl _)] at hb;cases hb)
    have HT:=Hq ht
    clear ht
    go_wp2
    go_ret
    exact ⟨by rw [HT.out];rfl,Zqy _ _ _⟩
theorem Zet {w w':World} (h:Below w.heap.size w w'):w.grownBy w' none:=⟨h.os,h.tape,h.output,h.size,fun k hk _=>h.block k hk⟩
structure LibW (w:World):Prop where
 big:8<=w.heap.size
 max:∃ m,w.cell? ⟨0,0,none⟩=some (.int .i64 m)
 pow:Lib.TabIs Tryz.prog w "internal/strconv.uint64pow10" .u64 Lib.pow10Tab
 rng:∃ te pe,w.cell? ⟨7,0,none⟩=some (.iface te pe)
theorem Yar:Tryz.prog.globalNamed "internal/strconv.uint64pow10" = some 1:=by kernel_rfl
theorem Ym {w w':World} (h:LibW w) (g:w.grownBy w' none):LibW w':=by
 have hb:=h.big
 refine ⟨Nat.le_trans hb g.size,?_,?_,?_⟩
 · obtain ⟨m,hm⟩:=h.max
   exact ⟨m,(World.cell?_of_block (g.block _ (by simp;omega) (by simp))).trans hm⟩
 · have hp:=h.pow
   unfold Lib.TabIs World.var? at hp ⊢
   rw [Yar] at hp ⊢
   simp only [Option.bind] at hp ⊢
   rw [g.block _ (by omega) (by simp)]
   exact hp
 · obtain ⟨te,pe,hm⟩:=h.rng
   exact ⟨te,pe,(World.cell?_of_block (g.block _ (by simp;omega) (by simp))).trans hm⟩
theorem Ydl (w:World) (k:Nat) (os:Array Obj):w.grownBy (Sort.grow (w.drewN k) os) none:=by
 refine ⟨rfl,rfl,rfl,?_,fun i hi _ => ?_⟩
 · show w.heap.size<=(w.heap++os).size
   simp
 · show (w.heap++os)[i]? = w.heap[i]?
   rw [Array.getElem?_append_left hi]
theorem Zpd (s:ByteArray):bs s.data.toList=s:=rfl
theorem Xs (l:Txt):(bs l).data.toList=l:=by simp [bs]
theorem Zl (l:Txt):(bs l).size=l.length:=by simp [bs,ByteArray.size]
theorem Xw (s:ByteArray) (a b:Nat):s.extract a b=bs ((s.data.toList.drop a).take (b - a)):=by
 rw [<- Lib.extract_data];rfl
theorem Zce (n:Int) (h0 : -9223372036854775808<=n) (h1:n<=9223372036854775807) (w:World) (h:LibW w) :
 Calls Tryz.prog 39 #[.int .i64 n] w fun e w'=>e = .returned (.string (bs (Lib.itoa n)))/\w.grownBy w' none:=by
 refine (Tryz.strconv_Itoa n h0 h1 w h.pow).mono ?_
 rintro e w' ⟨rfl,k,os,rfl⟩
 exact ⟨rfl,Ydl _ _ _⟩
theorem Zbh (s p:ByteArray) (w:World) :
 Calls Tryz.prog 141 #[.string s,.string p] w fun e w'=>e = .returned (.tuple #[.string (bs (Lib.trimPrefix s.data.toList p.data.toList)),.bool (p.data.toList.isPrefixOf s.data.toList)])/\w'=w :=
 Tryz.strings_CutPrefix s p w
theorem Zeo (s p:ByteArray) (w:World) :
 Calls Tryz.prog 142 #[.string s,.string p] w fun e w'=>e = .returned (.string (bs (Lib.trimPrefix s.data.toList p.data.toList)))/\w'=w :=
 Tryz.strings_TrimPrefix s p w
theorem Zjf (s:ByteArray) (cs:Txt) (hs:s.size<=9223372036854775807) (hc:cs.length<4294967281) (ha:cs.all (fun b=>decide (b.toNat<128))=true) (w:World) :
 Calls Tryz.prog 139 #[.string s,.string (bs cs)] w fun e w'=>e = .returned (.string (bs (Lib.trimS s.data.toList cs)))/\w.grownBy w' none:=by
 have hb:=Xs cs
 refine (Any.strings_Trim_laid Tryz.lays160 (by kernel_rfl) s (bs cs) w hs (by rw [Zl];exact hc) (by rw [hb];exact ascii_of_all ha)).mono ?_
 rintro e w' ⟨rfl,hw⟩
 rw [hb]
 exact ⟨rfl,Zet hw⟩
def Zna (w:World) (r:Option Int) (e:Ending) (w':World):Prop :=
 (match r with
   | some v=>e = .returned (.tuple #[.int .i64 v,.nilIface])
   | none=>∃ v t p,e = .returned (.tuple #[.int .i64 v,.iface t p]))/\w.grownBy w' none
theorem Zdh (w:World) (t:TypeId) (s:ByteArray):w.grownBy (Lib.bytesWorld w t s) none:=Zet (Lib.bytesWorld_below w t s)
theorem Yok (neg:Bool) (d:Txt) (v:Nat) (h:Lib.decNat d=some v) (hl:d.length<=70000) (w:World) (hW:LibW w) :
 Calls Tryz.prog 143 #[.string (bs (if neg then 45::d else d))] w (Zna w (if neg then (if v<=9223372036854775808 then some (-(v:Int)) else none) else (if v<9223372036854775808 then some (v:Int) else none))):=by
 have ha:=Yjs neg d v h
 have hsz:(bs (if neg then 45::d else d)).size<=70001:=by rw [Zl];cases neg <;> simp <;> omega
 have hd:(bs (if neg then 45::d else d)).data.toList=(if neg then 45::d else d):=Xs _
 have hok:∀ x,Lib.atoiAll (if neg then 45::d else d) = .ok x->Calls Tryz.prog 143 #[.string (bs (if neg then 45::d else d))] w (Zna w (some x)):=by
  intro x hx
  refine (Tryz.strconv_Atoi_ok _ (by omega) x (by rw [hd];exact hx) w).mono ?_
  rintro e w' ⟨rfl,hw⟩
  refine ⟨rfl,?_⟩
  rcases hw with rfl|⟨t,rfl⟩
  · exact Zb _ _
  · exact Zdh _ _ _
 have hno:Lib.atoiAll (if neg then 45::d else d) = .range->Calls Tryz.prog 143 #[.string (bs (if neg then 45::d else d))] w (Zna w none):=by
  intro hx
  obtain ⟨te,pe,hr⟩:=hW.rng
  refine (Tryz.strconv_Atoi_range _ (by omega) (by rw [hd];exact hx) _ w hr (Or.inr ⟨_,_,rfl⟩)).mono ?_
  rintro e w' ⟨N,rfl,-,-,hw⟩
  exact ⟨⟨_,_,_,rfl⟩,Zet hw⟩
 cases neg with
 | true =>
   simp only [if_true] at ha hok hno ⊢
   split at ha
   · rename_i hv;rw [if_pos hv];exact hok _ ha
   · rename_i hv;rw [if_neg hv];exact hno ha
 | false =>
   simp only [Bool.false_eq_true,if_false] at ha hok hno ⊢
   split at ha
   · rename_i hv;rw [if_pos hv];exact hok _ ha
   · rename_i hv;rw [if_neg hv];exact hno ha
end Go.Proofs.YteciblfmgdlipaaGreatDoor.AS
