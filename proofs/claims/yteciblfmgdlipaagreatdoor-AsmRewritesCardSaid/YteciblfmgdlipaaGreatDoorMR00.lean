/-
  Part of a proof: contracts of functions and lemmas, each stated by its own theorem. Conditions: as each theorem states.
-/
import Derived.Test.YteciblfmgdlipaaGreatDoorProg
import Derived.WalkKit
import Derived.WalkLawsBesides
import Derived.RowKit3
import Derived.Deep.Draws
import Derived.Lib.Hide
import Derived.Great.BuildSlice
import Derived.Great.Walk
import Derived.Outline
import Derived.Maps.AppendAt
import Derived.Laws.OwnMore
import Derived.OwnWalk
import Derived.Laws.ResultCell
import Derived.ChangeSame
import Derived.ProofKit
import Derived.OpenShut
import Derived.Below
import Derived.Deep.Frames
import Derived.Carry
import Derived.Lib.AtoiAll
import Derived.Lib.Atoi
import Derived.Lib.SlTrimSet
import Derived.Lib.Split
import Derived.Laws.RangeString
import Derived.Laws.RangeAny
import Derived.LoopTactic
import Derived.Test.YteciblfmgdlipaaGreatDoorMRShelf
import Derived.Shelf.Strings.SlTrimAscii
import Derived.Test.YteciblfmgdlipaaGreatDoorRows
import Derived.LaidMore
import Derived.Lay
import Derived.LaidLaws
import Derived.Lib.LaidTab
import Derived.SizedLaws
import Derived.Shelf.Vars
import Derived.Stop.Joined
import Derived.Test.YteciblfmgdlipaaGreatDoorMRSq
set_option linter.unusedSimpArgs false
set_option linter.unusedVariables false
set_option maxRecDepth 100000
set_option maxHeartbeats 16000000
namespace Go.Proofs.YteciblfmgdlipaaGreatDoor.CK
open Go.RowKit Go.Great
theorem Zhy {k:IntKind} {a b:Int} (h:a=b):Ending.returned (.int k a) = .returned (.int k b):=by rw [h]
theorem Zd (w:World) (r:Option Nat):w.grownBy w r:=⟨rfl,rfl,rfl,Nat.le_refl _,fun _ _ _=>rfl⟩
theorem Za {a b c:World} {r:Option Nat} (h:a.grownBy b r) (g:b.grownBy c r):a.grownBy c r :=
 ⟨g.os.trans h.os,g.tape.trans h.tape,g.output.trans h.output,Nat.le_trans h.size g.size,fun k hk hr=>(g.block k (Nat.lt_of_lt_of_le hk h.size) hr).trans (h.block k hk hr)⟩
theorem Zo (w:World) (b o:Nat) (v:Value):w.grownBy (w.setCell ⟨b,o,none⟩ v) (some b):=⟨rfl,rfl,rfl,by simp,fun k hk hr=>heap_setCell_other w _ k v (by intro e;exact hr (by rw [e]))⟩
theorem Zg {w w':World} {row:Option Nat} (h:w.grownBy w' row):w.grownBy w'.drew row:=⟨h.os,h.tape,h.output,h.size,h.block⟩
theorem Zpe (w:World) (n:Nat) (row:Option Nat):w.grownBy (w.drewN n) row:=⟨rfl,rfl,rfl,by simp,fun k hk _=>by simp⟩
theorem Jd {w w':World} {row:Option Nat} (h:w.grownBy w' row) (n:Nat):w.grownBy (w'.drewN n) row:=Za h (Zpe w' n row)
theorem Zli {w w':World} {r:Option Nat} (h:w.grownBy w' none):w.grownBy w' r:=⟨h.os,h.tape,h.output,h.size,fun k hk _=>h.block k hk (by simp)⟩
theorem Znd {w:World} {base:Nat} {e:TypeId} {size n:Nat} {v:Value} {xs:List Value} {b:Nat} (h:w.ownsRow base e size v n xs) (hb:b<base):v.ownBlock=none\/v.ownBlock≠some b:=by
 cases hv:v.ownBlock with
 | none=>left;rfl
 | some k=>right;have:=(h.lt k hv).1;intro e;injection e with e;omega
theorem Zop {w:World} {base:Nat} {e:TypeId} {size n:Nat} {v:Value} {xs:List Value} {b:Nat} (h:w.ownsRow base e size v n xs) (hb:b<base):v.ownBlock≠some b:=by
 rcases Znd h hb with h1|h1
 · rw [h1];simp
 · exact h1
theorem Zf {w w':World} {b:Nat} {o:Obj} {row:Option Nat} (h:w.heap[b]? = some o) (g:w.grownBy w' row) (hr:row≠some b):w'.heap[b]? = some o:=by
 rw [g.block b (Gs h) (fun e=>hr e.symm)];exact h
theorem Zdp (w:World) (x:Value) (t:TypeId):∀ j u,[x][j]? = some u->(w.alloc (.cells #[x] t)).cell? ((⟨w.heap.size,0,none⟩:Addr).add j)=some u:=by
 intro j u hj
 match j,hj with
 | 0,hj=>simp at hj;subst hj;simp [Addr.add]
theorem Jq (k:IntKind) (x:Int):∀ u∈[Value.int k x],u.oneCell'=true:=by intro u hu;simp at hu;subst hu;rfl
theorem Yka (w:World) (x y:Value) (t:TypeId):∀ j u,[x,y][j]? = some u->(w.alloc (.cells #[x,y] t)).cell? ((⟨w.heap.size,0,none⟩:Addr).add j)=some u:=by
 intro j u hj
 match j,hj with
 | 0,hj=>simp at hj;subst hj;simp [Addr.add]
 | 1,hj=>simp at hj;subst hj;simp [Addr.add]
theorem Yfe (k:IntKind) (x y:Int):∀ u∈[Value.int k x,Value.int k y],u.oneCell'=true:=by
 intro u hu;simp at hu;rcases hu with rfl|rfl <;> rfl
structure Sp (P:Nat->Prop) (w w':World):Prop where
 os:w'.os=w.os
 tape:w'.tape=w.tape
 output:w'.output=w.output
 size:w.heap.size<=w'.heap.size
 block:∀ k,k<w.heap.size->¬ P k->w'.heap[k]? = w.heap[k]?
theorem Ykd (P:Nat->Prop) (w:World):Sp P w w:=⟨rfl,rfl,rfl,Nat.le_refl _,fun _ _ _=>rfl⟩
theorem Zuu {P Q:Nat->Prop} {w w1 w2:World} (h:Sp P w w1) (g:Sp Q w1 w2) (hq:∀ k,k<w.heap.size->Q k->P k):Sp P w w2 :=
 ⟨g.os.trans h.os,g.tape.trans h.tape,g.output.trans h.output,Nat.le_trans h.size g.size,fun k hk hp=>(g.block k (Nat.lt_of_lt_of_le hk h.size) (fun hQ=>hp (hq k hk hQ))).trans (h.block k hk hp)⟩
theorem Zgl {P:Nat->Prop} {w w1:World} {r:Option Nat} (h:w.grownBy w1 r) (hr:∀ k,k<w.heap.size->r=some k->P k):Sp P w w1 :=
 ⟨h.os,h.tape,h.output,h.size,fun k hk hp=>h.block k hk (fun e=>hp (hr k hk e.symm))⟩
theorem Ydf {w w':World} {k:Nat} (h:w'.heap[k]? = w.heap[k]?) (o:Nat):w'.cell? ⟨k,o,none⟩=w.cell? ⟨k,o,none⟩:=by
 unfold World.cell?;rw [h]
theorem Zkh {P:Nat->Prop} {w w':World} {b o:Nat} {v:Value} (h:w.cell? ⟨b,o,none⟩=some v) (g:Sp P w w') (hp:¬ P b):w'.cell? ⟨b,o,none⟩=some v:=by
 rw [Ydf (g.block b (World.block_lt_of_cell? _ _ h) hp)];exact h
theorem Ybu {P:Nat->Prop} {w w':World} {base:Nat} {e:TypeId} {size n:Nat} {v:Value} {xs:List Value} (h:w.ownsRow base e size v n xs) (g:Sp P w w') (hp:∀ k,v.ownBlock=some k->¬ P k):w'.ownsRow base e size v n xs:=by
 obtain ⟨h1,h2⟩:=h
 refine ⟨h1,?_⟩
 rcases h2 with h2|⟨g0,cap,cur,rfl,hb,hg,rest⟩
 · exact .inl h2
 · exact .inr ⟨g0,cap,cur,rfl,hb,by rw [g.block g0 (Gs hg) (hp g0 rfl)];exact hg,rest⟩
theorem Zcc {w:World} {base:Nat} {e:TypeId} {size n:Nat} {v:Value} {xs:List Value} (h:w.ownsRow base e size v (n+1) xs):∃ g cap,v = .slice (some ⟨g,0,none⟩) (n+1) cap:=by
 rcases h.2 with ⟨_,h0⟩|⟨g,cap,cur,hv,_⟩
 · omega
 · exact ⟨g,cap,hv⟩
theorem Yli {w:World} {base:Nat} {e:TypeId} {size n:Nat} {v:Value} {xs:List Value} {b o:Nat} {u:Value} (h:w.ownsRow base e size v n xs) (hb:b<base):(w.setCell ⟨b,o,none⟩ u).ownsRow base e size v n xs :=
 h.kept (Zo w b o u) (Znd h hb)
theorem Zx {w:World} {base:Nat} {e e':TypeId} {size size' n n':Nat} {v v':Value} {xs xs':List Value} (h:w.ownsRow base e size v n xs) (h':w.ownsRow base e' size' v' n' xs') (hne:e≠e'):v.ownBlock=none\/v.ownBlock≠v'.ownBlock:=by
 rcases h.2 with ⟨rfl,_⟩|⟨g,cap,cur,rfl,_,hg,_⟩
 · left;rfl
 · right
   rcases h'.2 with ⟨rfl,_⟩|⟨g',cap',cur',rfl,_,hg',_⟩
   · simp [Value.ownBlock]
   · simp only [Value.ownBlock]
     intro heq
     injection heq with heq
     rw [heq] at hg
     rw [hg] at hg'
     injection hg' with hx
     injection hx with _ hx2 _
     exact hne hx2
theorem Zbn {w:World} {base base':Nat} {e:TypeId} {size n:Nat} {v:Value} {xs:List Value} (h:w.ownsRow base e size v n xs) (hb:base'<=base):w.ownsRow base' e size v n xs:=by
 refine ⟨h.1,?_⟩
 rcases h.2 with h|⟨g,cap,cur,e1,e2,e3⟩
 · exact Or.inl h
 · exact Or.inr ⟨g,cap,cur,e1,Nat.le_trans hb e2,e3⟩
theorem Zk {w:World} {base:Nat} {e:TypeId} {size n:Nat} {v:Value} {xs:List Value} (h:w.ownsRow base e size v n xs):∃ (p:Option Addr) (cap:Nat),v = .slice p n cap:=by
 rcases h.2 with ⟨rfl,rfl⟩|⟨g,cap,cur,hv,_⟩
 · exact ⟨_,_,rfl⟩
 · exact ⟨_,_,hv⟩
theorem Xc {w:World} {base:Nat} {e:TypeId} {size n:Nat} {v:Value} {xs:List Value} (h:w.ownsRow base e size v n xs) (h0:0<n):∃ g cap,v = .slice (some ⟨g,0,none⟩) n cap/\g<w.heap.size/\∀ j x,xs[j]? = some x->j<n*size->w.cell? ⟨g,j,none⟩=some x:=by
 obtain ⟨m,rfl⟩:∃ m,n=m+1:=⟨n - 1,by omega⟩
 obtain ⟨g,cap,rfl⟩:=Zcc h
 exact ⟨g,cap,rfl,(h.lt g rfl).2,fun j x hx hj=>by rw [h.cellAt _ (by omega)];exact hx⟩
theorem Ye {w:World} {base:Nat} {e t:TypeId} {size n b:Nat} {v:Value} {xs:List Value} {cs:Array Value} (h:w.ownsRow base e size v n xs) (hb:w.heap[b]? = some (.cells cs t (0,0))) (hne:e≠t):v.ownBlock≠some b:=by
 rcases h.2 with ⟨rfl,_⟩|⟨g,cap,cur,rfl,_,hg,_⟩
 · simp [Value.ownBlock]
 · simp only [Value.ownBlock]
   intro e'
   injection e' with e'
   subst e'
   rw [hb] at hg
   injection hg with hg
   injection hg with _ h2 _
   exact hne h2.symm
theorem Zwd (w:World) (o o':Obj):((w.alloc o).alloc o').heap[w.heap.size+1]? = some o':=by
 have h:=heap_alloc_new (w.alloc o) o'
 rw [World.size_alloc] at h;exact h
theorem Zpf {w w1 w2:World} {r:Option Nat} {b:Nat} (h:w.grownBy w1 r) (g:w1.grownBy w2 (some b)) (hb:w.heap.size<=b):w.grownBy w2 r :=
 ⟨g.os.trans h.os,g.tape.trans h.tape,g.output.trans h.output,Nat.le_trans h.size g.size,fun k hk hr=>(g.block k (Nat.lt_of_lt_of_le hk h.size) (by intro e;injection e with e;omega)).trans (h.block k hk hr)⟩
theorem Yy {E:Nat} {w:World} (h:E<=w.heap.size) (o:Obj):E<=(w.alloc o).heap.size:=by simp;omega
def Zad:List (Int × Int)->List Value
 | []=>[]
 | x::r => .int .i64 x.1 :: .int .i64 x.2::Zad r
theorem Zrn (a b:List (Int × Int)):Zad (a++b)=Zad a++Zad b:=by
 induction a with
 | nil=>rfl
 | cons x r ih=>simp [Zad,ih]
theorem Zhi:∀ (l:List (Int × Int)) (i:Nat) (a b:Int),l[i]? = some (a,b)->(Zad l)[i*2]? = some (.int .i64 a)/\(Zad l)[i*2+1]? = some (.int .i64 b)
 | [],i,a,b,h=>by simp at h
 | x::r,0,a,b,h=>by simp at h;subst h;simp [Zad]
 | x::r,i+1,a,b,h=>by
   obtain ⟨h1,h2⟩:=Zhi r i a b (by simpa using h)
   have e:(i+1)*2=i*2+1+1:=by omega
   rw [e]
   simp only [Zad]
   exact ⟨by simpa using h1,by simpa using h2⟩
theorem Xt {w w':World} {row:Option Nat} {B b o:Nat} {v:Value} (g:w.grownBy w' row) (hr:∀ r,row=some r->B<=r) (hb:b<B) (h:w.cell? ⟨b,o,none⟩=some v):w'.cell? ⟨b,o,none⟩=some v :=
 g.cell h (by intro e;have:=hr b e.symm;omega)
theorem Zl {w:World} {b o:Nat} {cs:Array Value} {t:TypeId} {v:Value} (h:w.heap[b]? = some (.cells cs t (0,0))):(w.setCell ⟨b,o,none⟩ v).heap[b]? = some (.cells (cs.setIfInBounds o v) t (0,0)):=heap_setCell_same w b o cs t v h
theorem Zfc {w0 w w':World} {r:Option Nat} (h:w0.grownBy w none) (g:w.grownBy w' r) (hb:∀ k,r=some k->w0.heap.size<=k):w0.grownBy w' none :=
 ⟨g.os.trans h.os,g.tape.trans h.tape,g.output.trans h.output,Nat.le_trans h.size g.size,fun k hk _=>(g.block k (Nat.lt_of_lt_of_le hk h.size) (by intro e;have:=hb k e.symm;omega)).trans (h.block k hk (by simp))⟩
theorem Zag {fn:Func} {p:Tmp} {ty:TypeId} (h:fn.results = #[.cell p ty]) (tmps:Array Value) (P:Program) (w:World) :
 (results fn tmps).run P w=((asAddr (tmps.getD p undef)).run P w).andThen fun a w₁=>(loadVar ty a).run P w₁:=by
 simp only [results,h]
 simp [Sem.run_bind,Result.andThen]
theorem Zhz {fn:Func} {p u v:Tmp} {ty:TypeId} (h:fn.results = #[.cell p ty,.tmp u,.tmp v]) (tmps:Array Value) (P:Program) (w:World) :
 (results fn tmps).run P w =
   ((asAddr (tmps.getD p undef)).run P w).andThen fun a w₁=>((loadVar ty a).run P w₁).andThen fun x w₂ => .ok (.tuple #[x,tmps.getD u undef,tmps.getD v undef]) w₂:=by
 simp only [results,h]
 simp [Sem.run_bind,Result.andThen]
theorem Yd {w0 w:World} {b o:Nat} {v:Value} (h:w0.grownBy w none) (hb:w0.heap.size<=b):w0.grownBy (w.setCell ⟨b,o,none⟩ v) none :=
 Zfc h (Zo w b o v) fun k hk=>by injection hk with hk;omega
theorem Ycz:Tryz.prog.underlying 93=some (.slice 3):=by kernel_rfl
theorem Yho:(Tryz.prog.info? 3).map (fun i=>(i.zero,i.size,i.bytes))=some (some (.int .i64 0),1,8):=by kernel_rfl
theorem Xk:Tryz.prog.underlying 23=some (.slice 5):=by kernel_rfl
theorem Jn:(Tryz.prog.info? 5).map (fun i=>(i.zero,i.size,i.bytes))=some (some (.int .u8 0),1,1):=by kernel_rfl
end Go.Proofs.YteciblfmgdlipaaGreatDoor.CK
namespace Go.Proofs.YteciblfmgdlipaaGreatDoor.TG
open Go.RowKit Go.ChangeShapes Go.WideShapes
theorem Zpc {w w':World} (h:w.grownBy w' none) (may:MemPlace->Prop):w.keptBut w' may:=by
 refine ⟨h.os,h.output,fun i hi => ?_⟩
 rw [h.block i hi (by simp)]
 cases w.heap[i]? with
 | none=>rfl
 | some o =>
   cases o with
   | cells c t fr=>exact ⟨rfl,rfl,rfl,fun _ _=>rfl⟩
   | map es ck=>exact Or.inr ⟨rfl,rfl⟩
   | _=>rfl
theorem Zrg {w w':World} (h:w.grownBy w' none) (a:Addr) (ha:a.block<w.heap.size):w'.frozen? a=w.frozen? a:=by
 unfold World.frozen?
 rw [h.block a.block ha (by simp)]
theorem Zol {H:Type} {enc:TypeId × Value->H} {P:Program} {f:Func} {s:ChangeSpec} {apart fresh handsOn again:Bool} {W W':World} {args:Array Value} {v:Value} {ds gs:List (DataW H)} {before pa pv:List MemPlace}
 (hW:DataW.Whole enc P f.params.toList s.vars apart W args.toList ds gs before)
 (hres:∀ (b:Nat) (sp:Nat->Bool) (hd:Bool),DataW.TrodAll enc P W' b sp hd f.resultTypes.toList (v.resultList f.resultTypes.size) (s.fn H (ds++gs)).results [])
 (hargs:∀ sp:Nat->Bool,(∀ p∈before,sp p.block=true)->DataW.TrodAll enc P W' 0 sp true f.params.toList args.toList (s.fn H (ds++gs)).args pa)
 (hvars:∀ sp:Nat->Bool,(∀ p∈before,sp p.block=true)->DataW.TrodVars enc P W' sp s.vars (s.fn H (ds++gs)).vars pv)
 (hps:before=pa++pv) (hg:W.grownBy W' none)
 (hok:∀ (j:Nat) (t:TypeId) (r:Value),f.resultTypes[j]? = some t->(v.resultList f.resultTypes.size)[j]? = some r->Value.okWide P W' .any 0 t r) :
 s.post enc P f apart fresh handsOn again W args v W':=by
 subst hps
 have low:=hW.lt
 have hold:∀ p∈pa++pv,(fun b=>decide (b<W.heap.size)) p.block=true:=fun p hp=>decide_eq_true (low p hp)
 have hall:∀ p∈pa++pv,(fun _:Nat=>true) p.block=true:=fun _ _=>rfl
 have hW0:=hW
 obtain ⟨_,_,_,_,_,hz,hn⟩:=hW0
 refine ⟨ds,gs,pa++pv,[],pa,pv,hW,hres _ _ _,hargs _ hold,hvars _ hold,Zpc hg _,fun _=>⟨hok,_,_,pa++pv,⟨pa,pv,trodAll_append (p:=[]) (hargs _ hall) (hres _ _ _),hvars _ hall,rfl,?_,hn⟩,fun p hp _=>hp⟩⟩
 intro b off hp
 rw [Zrg hg _ (low _ hp)]
 exact hz b off hp
open Go.ChangeAt
section
variable {H:Type} {enc:TypeId × Value->H} {P:Program}
theorem Zxg {W W':World} (hg:W.grownBy W' none) {p:MemPlace} (hp:p.block<W.heap.size):W.sameAt W' p:=by
 have hb:=hg.block p.block hp (by simp)
 cases p with
 | cell b off=>exact World.cell?_of_block (w:=W) hb
 | map b=>exact hb
theorem Znz (hl:laidOutB P=true) {W W':World} {sp:Nat->Bool} (hg:W.grownBy W' none) :
 ∀ {ts:List TypeId} {vs:List Value} {ds:List (DataW H)} {ps:List MemPlace},(∀ t∈ts,P.readableRec t=true/\t<P.types.size) ->
 DataW.TrodAll enc P W 0 (fun _=>true) true ts vs ds ps->(∀ p∈ps,p.block<W.heap.size)->(∀ p∈ps,sp p.block=true)->DataW.TrodAll enc P W' 0 sp true ts vs ds ps
 | [],[],[],_,_,h,_,_=>h
 | t::ts,_::_,_::_,_,hr,⟨p,q,h1,h2,e⟩,hlt,hs =>
   ⟨p,q,WideElems.Trod_stays hl (hr t (List.mem_cons.2 (Or.inl rfl))).1 (hr t (List.mem_cons.2 (Or.inl rfl))).2 h1
      (fun x hx=>Zxg hg (hlt x (by rw [e];exact List.mem_append_left _ hx)))
      (fun x hx=>hs x (by rw [e];exact List.mem_append_left _ hx)),
    Znz hl hg (fun t ht=>hr t (List.mem_cons.2 (Or.inr ht))) h2
     (fun x hx=>hlt x (by rw [e];exact List.mem_append_right _ hx)) (fun x hx=>hs x (by rw [e];exact List.mem_append_right _ hx)),e⟩
theorem Zyl {f:Func} {s:ChangeSpec} {tb:TypeId} {apart fresh handsOn again:Bool} {W W':World} {args:Array Value} {ds gs:List (DataW H)} {before:List MemPlace}
 (hl:laidOutB P=true) (hr:∀ t∈f.params.toList,P.readableRec t=true/\t<P.types.size) (hv:s.vars=[])
 (hres:f.resultTypes = #[tb]) (hb:P.underlying tb=some .bool)
 (hW:DataW.Whole enc P f.params.toList s.vars apart W args.toList ds gs before)
 (hfn:gs=[]->s.fn H (ds++gs)={ results:=[.lit (.bool true)],args:=ds }) (hg:W.grownBy W' none) :
 s.post enc P f apart fresh handsOn again W args (.bool true) W':=by
 have hW':=hW
 obtain ⟨p,q,hA,hV,rfl,hfz,hnd⟩:=hW'
 have hgs:gs=[]/\q=[]:=by
  rw [hv] at hV
  cases gs with
  | nil=>exact ⟨rfl,hV⟩
  | cons g gs=>exact absurd hV (fun h=>h)
 obtain ⟨rfl,rfl⟩:=hgs
 have hf:=hfn rfl
 refine Zol (pa:=p) (pv:=[]) hW (fun b sp hd => ?_) (fun sp hsp => ?_) (fun sp hsp => ?_) (by simp) hg ?_
 · rw [hf,hres]
   exact trodAll_cons_mk (shut_bool hb _) trodAll_mk0
 · rw [hf]
   exact Znz hl hg hr hA (fun x hx=>hW.lt x (List.mem_append_left _ hx)) (fun x hx=>hsp x (List.mem_append_left _ hx))
 · rw [hf,hv];exact rfl
 · exact ok_one hres rfl (okWide_bool_mk hb _)
end
end Go.Proofs.YteciblfmgdlipaaGreatDoor.TG
namespace Go.Proofs.YteciblfmgdlipaaGreatDoor.AS
abbrev Txt:=List UInt8
def bs (l:Txt):ByteArray:=⟨l.toArray⟩
def Zjc (c:Int):Bool:=c == 95 || decide (97<=c) && decide (c<=122) || decide (65<=c) && decide (c<=90)
def Zmg (c:Int):Bool:=decide (48<=c) && decide (c<=57)
def tlI (c:Int):Bool:=Zjc c || Zmg c
def Zoz (b:UInt8):Bool:=Zjc (b.toNat:Int)
def Zea (b:UInt8):Bool:=Zmg (b.toNat:Int)
def tlB (b:UInt8):Bool:=tlI (b.toNat:Int)
def Zje (b:UInt8):Option Nat:=if 48<=b.toNat/\b.toNat<=57 then some (b.toNat - 48) else if 97<=b.toNat/\b.toNat<=102 then some (b.toNat - 87) else none
def Ys (acc:Nat):Txt->Option Nat
 | []=>some acc
 | c::r=>match Zje c with|none=>none|some d=>Ys (16*acc+d) r
def Zdj (l:Txt):Nat:=(l.takeWhile tlB).length
def unq:Txt->Option (Txt × Nat)
 | []=>none
 | c::r =>
   if c.toNat=34 then some ([],1)
   else if c.toNat<32\/126<c.toNat then none
   else if c.toNat≠92 then (unq r).map fun x=>(c::x.1,x.2+1)
   else match r with
    | []=>none
    | d::r2 =>
      if d.toNat=34\/d.toNat=92 then (unq r2).map fun x=>(d::x.1,x.2+2)
      else if d.toNat=120 then match r2 with
       | x::y::r3=>match Zje x,Zje y with
         | some a,some b=>(unq r3).map fun z=>(UInt8.ofNat (16*a+b)::z.1,z.2+4)
         | _,_=>none
       | _=>none
      else none
def Zzy (u:Nat):Int:=if u<9223372036854775808 then (u:Int) else (u:Int) - 18446744073709551616
def Zzw (l:Txt):Option (Int × Bool) :=
 if [48,120].isPrefixOf l then
  if 1<=(l.drop 2).length/\(l.drop 2).length<=16 then (Ys 0 (l.drop 2)).map fun u=>(Zzy u,false) else none
 else
  let neg:=l.head? == some 45
  (Lib.decNat (if neg then l.drop 1 else l)).map fun v =>
    if neg then (if v<=9223372036854775808 then (-(v:Int),false) else (0,true))
    else (if v<9223372036854775808 then ((v:Int),false) else (0,true))
inductive Pc
 | word (t:Txt)
 | num (n:Int) (big:Bool)
 | str (t:Txt)
 | colon
def Zso:Txt->Option (Pc × Nat)
 | []=>none
 | c::r =>
   if Zoz c then some (.word ((c::r).take (Zdj (c::r))),Zdj (c::r))
   else if c.toNat=34 then (unq r).map fun x=>(.str x.1,x.2+1)
   else if c.toNat=45\/Zea c then (Zzw ((c::r).take (1+Zdj r))).map fun x=>(.num x.1 x.2,1+Zdj r)
   else none
def Zmb:Nat->Bool->Txt->Option (List Pc)
 | 0,_,_=>none
 | _+1,_,[]=>some []
 | f+1,apart,c::r =>
   if c.toNat=59 then some []
   else if c.toNat=32\/c.toNat=9\/c.toNat=13 then Zmb f true r
   else if c.toNat=58 then (Zmb f true r).map (Pc.colon::·)
   else if apart=false then none
   else match Zso (c::r) with
    | none=>none
    | some (p,k)=>(Zmb f false ((c::r).drop k)).map (p::·)
def Zsn (l:Txt):Option (List Pc):=Zmb (l.length+1) true l
abbrev Yrm:=Int × Int × Option Txt
inductive Sd
 | nothing
 | mem (n:Int)
 | data (t:Txt)
 | fn (name:Txt) (a l r:Int)
 | code (labels:List Txt) (ins:Option Yrm)
def Yi:List Pc->List Txt × List Pc
 | .word t :: .colon::r=>(t::(Yi r).1,(Yi r).2)
 | l=>([],l)
structure Tab where
 named:Txt->Option Int
 kind:Int->Int
 sys:Txt->Option Int
def Zld (T:Tab) (lb:List Txt):List Pc->Option Sd
 | []=>some (.code lb none)
 | .word t::rest=>match T.named t with
   | none=>none
   | some n =>
     if T.kind n=0 then (match rest with|[]=>some (.code lb (some (n,0,none)))|_=>none)
     else match rest with
      | [.num v _]=>some (.code lb (some (n,v,none)))
      | [.word s] =>
        if T.kind n=5 then (T.sys s).map fun c => .code lb (some (n,c,none))
        else if T.kind n=3\/T.kind n=4 then some (.code lb (some (n,0,some s)))
        else none
      | _=>none
 | _=>none
def Xn:Txt:=[109,101,109,111,114,121]
def Zdm:Txt:=[100,97,116,97]
def Zdy:Txt:=[102,117,110,99]
def Zmc (T:Tab):List Pc->Option Sd
 | .word t::r =>
   if t=Xn then (match r with|[.num n _]=>some (.mem n)|_=>none)
   else if t=Zdm then (match r with|[.str b]=>some (.data b)|_=>none)
   else if t=Zdy then (match r with|[.word nm,.num a _,.num l _,.num k _]=>some (.fn nm a l k)|_=>none)
   else Zld T [] (.word t::r)
 | l=>Zld T [] l
def Zkk (T:Tab) (l:List Pc):Option Sd :=
 match l with
 | []=>some .nothing
 | _=>match Yi l with
   | ([],r)=>Zmc T r
   | (lb,r)=>Zld T lb r
def Zgc (l:List Pc):Bool:=l.any fun p=>match p with | .num _ b=>b|_=>false
abbrev FnR:=Int × Int × Int × List (Int × Int)
structure Zjo where
 fn:Nat
 pl:Nat
 line:Nat
 word:Txt
 jump:Bool
structure St where
 mem:Int
 memSet:Bool
 data:Txt
 funcs:List FnR
 names:List Txt
 labels:List (List (Txt × Nat))
 wants:List Zjo
def St0:St:=⟨0,false,[],[],[],[],[]⟩
def Zel (s:St):Sd->Bool
 | .mem _ => !s.memSet && s.funcs.isEmpty
 | .data _=>s.funcs.isEmpty
 | .code _ _ => !s.funcs.isEmpty
 | _=>true
def Zfw (at_:Nat):List (Txt × Nat)->List Txt->Option (List (Txt × Nat))
 | m,[]=>some m
 | m,t::r=>if m.any (fun x=>x.1 == t) then none else Zfw at_ (m++[(t,at_)]) r
def Zbq (s:St):FnR:=s.funcs.getLastD (0,0,0,[])
def Zca (s:St) (x:Int × Int):List FnR:=s.funcs.set (s.funcs.length - 1) ((Zbq s).1,(Zbq s).2.1,(Zbq s).2.2.1,(Zbq s).2.2.2++[x])
def Zbx (T:Tab) (s:St) (x:Sd) (big:Bool) (line:Nat):Except Int St :=
 if !Zel s x then .error 141
 else if big then .error 143
 else match x with
  | .nothing => .ok s
  | .mem n => .ok { s with mem:=n,memSet:=true }
  | .data t => .ok { s with data:=s.data++t }
  | .fn nm a l r =>
    if s.names.contains nm then .error 142
    else .ok { s with funcs:=s.funcs++[(a,l,r,[])],names:=s.names++[nm],labels:=s.labels++[[]] }
  | .code lb ins =>
    match Zfw (Zbq s).2.2.2.length (s.labels.getLastD []) lb with
    | none => .error 142
    | some m =>
      let s1:={ s with labels:=s.labels.set (s.labels.length - 1) m }
      match ins with
      | none => .ok s1
      | some (n,a,w) =>
        let ws:=match w with
         | none=>s.wants
         | some t=>s.wants++[⟨s.funcs.length - 1,(Zbq s).2.2.2.length,line,t,T.kind n == 3⟩]
        .ok { s1 with wants:=ws,funcs:=Zca s (n,a) }
def Zyj (T:Tab) (s:St) (l:Txt) (line:Nat):Except Int St :=
 match Zsn l with
 | none => .error 141
 | some ps=>match Zkk T ps with
   | none => .error 141
   | some x=>Zbx T s x (Zgc ps) line
def Zky (T:Tab):St->Nat->List Txt->Except (Int × Nat) St
 | s,_,[] => .ok s
 | s,n,l::r=>match Zyj T s l n with
   | .error e => .error (e,n)
   | .ok s1=>Zky T s1 (n+1) r
def Zcr:Txt->List Txt
 | []=>[[]]
 | c::r=>if c.toNat=10 then []::Zcr r else match Zcr r with|[]=>[[c]]|l::m=>(c::l)::m
def Zud (s:St) (w:Zjo):Option Nat :=
 if w.jump then ((s.labels.getD w.fn []).find? (fun x=>x.1 == w.word)).map (·.2)
 else s.names.findIdx? (· == w.word)
def Zsw (fs:List FnR) (f at_:Nat) (a:Int):List FnR :=
 match fs[f]? with
 | none=>fs
 | some x=>fs.set f (x.1,x.2.1,x.2.2.1,match x.2.2.2[at_]? with|none=>x.2.2.2|some i=>x.2.2.2.set at_ (i.1,a))
def Zrp (s:St):List FnR->List Zjo->Except Nat (List FnR)
 | fs,[] => .ok fs
 | fs,w::r=>match Zud s w with
   | none => .error w.line
   | some n=>Zrp s (Zsw fs w.fn w.pl n) r
abbrev PrP:=Int × Txt × List FnR
def Znc (T:Tab) (chk:PrP->Int) (t:Txt):Except (Int × Nat) PrP :=
 if 65536<t.length then .error (2,0)
 else match Zky T St0 1 (Zcr t) with
  | .error e => .error e
  | .ok s=>match Zrp s s.funcs s.wants with
    | .error n => .error (142,n)
    | .ok fs=>let e:=chk (s.mem,s.data,fs);if e=0 then .ok (s.mem,s.data,fs) else .error (e,0)
theorem Zru:∀ (l:Txt),(∀ c∈l,c.toNat≠10)->Zcr l=[l]
 | [],_=>rfl
 | c::r,h=>by
   have h1:=Zru r (fun d hd=>h d (List.mem_cons_of_mem _ hd))
   have h2:=h c (List.mem_cons_self ..)
   unfold Zcr
   rw [if_neg h2,h1]
theorem Zwk:∀ (l r:Txt) (c:UInt8),(∀ c∈l,c.toNat≠10)->c.toNat=10->Zcr (l++c::r)=l::Zcr r
 | [],r,c,_,hc=>by
   show Zcr (c::r)=_
   rw [Zcr,if_pos hc]
 | d::l,r,c,h,hc=>by
   have h1:=Zwk l r c (fun d hd=>h d (List.mem_cons_of_mem _ hd)) hc
   have h2:=h d (List.mem_cons_self ..)
   show Zcr (d::(l++c::r))=_
   rw [Zcr,if_neg h2,h1]
theorem Ymm:∀ (l:Txt),Zcr l≠[]
 | []=>by simp [Zcr]
 | c::r=>by
   unfold Zcr
   split
   · simp
   · cases h:Zcr r <;> simp
theorem Ztn (s:Txt) (j:Nat):Lib.occAt s [10] j=true ↔ s[j]? = some 10:=by
 unfold Lib.occAt
 cases h:s.drop j with
 | nil =>
   have:s[j]? = none:=by rw [List.drop_eq_nil_iff] at h;exact List.getElem?_eq_none h
   rw [this];simp
 | cons a t =>
   have:s[j]? = some a:=by
    have h1:(s.drop j)[0]? = some a:=by rw [h];rfl
    rw [List.getElem?_drop] at h1;simpa using h1
   rw [this]
   simp [List.isPrefixOf]
   exact eq_comm
theorem Yiz (c:UInt8):c.toNat=10 ↔ c=10:=by
 constructor
 · intro h;exact UInt8.toNat_inj.1 (by rw [h];rfl)
 · rintro rfl;rfl
theorem Zhu:∀ (n:Nat) (s:Txt),s.length<=n->Lib.splitK [10] 0 (Lib.count s [10]) s=Zcr s/\(Zcr s).length=Lib.count s [10]+1
 | n,s,hn=>by
   rcases Lib.index_spec s [10] with ⟨h,hno⟩|⟨i,h,hi,ho,hno⟩
   · have hc:∀ c∈s,c.toNat≠10:=by
      intro c hc h10
      obtain ⟨j,hj,rfl⟩:=List.getElem_of_mem hc
      have:=hno j (Nat.le_of_lt hj)
      have h2:Lib.occAt s [10] j=true:=(Ztn s j).2 (by rw [List.getElem?_eq_getElem hj,(Yiz _).1 h10])
      rw [h2] at this;cases this
     rw [Lib.count_miss h,Zru s hc];exact ⟨rfl,rfl⟩
   · have hi10:=(Ztn s i).1 ho
     have hlt:i<s.length:=by
      rcases Nat.lt_or_ge i s.length with h1|h1
      · exact h1
      · rw [List.getElem?_eq_none h1] at hi10;cases hi10
     have he:s=s.take i++10::s.drop (i+1):=by
      have h1:s[i]=10:=by rw [List.getElem?_eq_getElem hlt] at hi10;injection hi10
      rw [<- h1,<- List.drop_eq_getElem_cons hlt,List.take_append_drop]
     have hpre:∀ c∈s.take i,c.toNat≠10:=by
      intro c hc h10
      obtain ⟨j,hj,rfl⟩:=List.getElem_of_mem hc
      have hj2:j<i:=by simp at hj;omega
      have h2:Lib.occAt s [10] j=true:=(Ztn s j).2 (by rw [List.getElem?_eq_getElem (by omega),<- (Yiz _).1 h10,List.getElem_take])
      have h3:=hno j hj2
      rw [h2] at h3;cases h3
     have hr:(s.drop (i+1)).length<s.length:=by rw [List.length_drop];omega
     cases n with
     | zero=>omega
     | succ n =>
       have ih:=Zhu n (s.drop (i+1)) (by omega)
       have hm:¬ (Lib.index s [10] == -1)=true:=fun e=>by have:=beq_iff_eq.1 e;omega
       have ei:(Lib.index s [10]).toNat=i:=by omega
       have e2:Zcr s=s.take i::Zcr (s.drop (i+1)):=by
        have:=Zwk (s.take i) (s.drop (i+1)) 10 hpre rfl
        rw [<- he] at this;exact this
       rw [Lib.count_hit (by simp) h,Nat.add_comm 1,Lib.splitK,if_neg hm,ei,e2]
       refine ⟨?_,by rw [List.length_cons,ih.2];rfl⟩
       show List.take (i+0) s::Lib.splitK [10] 0 (Lib.count (s.drop (i+1)) [10]) (s.drop (i+1))=_
       rw [ih.1];rfl
theorem Zxf (s:ByteArray):(Lib.splitB ⟨#[10]⟩ 0 (Lib.countB s ⟨#[10]⟩) s).map (·.data.toList)=Zcr s.data.toList:=by
 rw [Lib.splitB_data]
 exact (Zhu _ _ (Nat.le_refl _)).1
theorem Yml (s:ByteArray):(Zcr s.data.toList).length=Lib.countB s ⟨#[10]⟩+1:=(Zhu _ _ (Nat.le_refl _)).2
theorem Zwj (b:UInt8):Zea b=true ↔ 48<=b.toNat/\b.toNat<=57:=by
 unfold Zea Zmg
 simp only [Bool.and_eq_true,decide_eq_true_eq]
 omega
theorem Zji:∀ (l:Txt) (a:Nat),l.all Zea=true->∃ v,Lib.decFrom a l=some v
 | [],a,_=>⟨a,rfl⟩
 | c::r,a,h=>by
   simp only [List.all_cons,Bool.and_eq_true] at h
   unfold Lib.decFrom Lib.digitVal
   rw [if_pos ((Zwj c).1 h.1)]
   exact Zji r _ h.2
theorem Zjh:∀ (l:Txt) (a:Nat),l.all Zea=false->Lib.decFrom a l=none
 | [],_,h=>by simp at h
 | c::r,a,h=>by
   unfold Lib.decFrom Lib.digitVal
   by_cases hc:48<=c.toNat/\c.toNat<=57
   · rw [if_pos hc]
     have:Zea c=true:=(Zwj c).2 hc
     simp only [List.all_cons,this,Bool.true_and] at h
     exact Zjh r _ h
   · rw [if_neg hc]
theorem Znu:∀ (l:Txt) (a v:Nat),Lib.decFrom a l=some v->a<=v
 | [],a,v,h=>by simp only [Lib.decFrom,Option.some.injEq] at h;omega
 | c::r,a,v,h=>by
   unfold Lib.decFrom at h
   split at h
   · have:=Znu r _ v h;omega
   · cases h
theorem Zna:∀ (l:Txt) (a v:Nat),a<18446744073709551616->Lib.decFrom a l=some v->Lib.parseUint10 a l=(if v<18446744073709551616 then .ok v else .range)
 | [],a,v,ha,h=>by
   simp only [Lib.decFrom,Option.some.injEq] at h
   subst h
   rw [if_pos ha];rfl
 | c::r,a,v,ha,h=>by
   unfold Lib.decFrom Lib.digitVal at h
   by_cases hc:48<=c.toNat/\c.toNat<=57
   · rw [if_pos hc] at h
     have hle:=Znu r _ v h
     unfold Lib.parseUint10
     rw [if_pos hc]
     by_cases h1:1844674407370955162<=a
     · rw [if_pos h1,if_neg (by omega)]
     · rw [if_neg h1]
       by_cases h2:18446744073709551616<=a*10+(c.toNat - 48)
       · rw [if_pos h2,if_neg (by omega)]
       · rw [if_neg h2]
         exact Zna r _ v (by omega) h
   · rw [if_neg hc] at h;cases h
theorem Yep (neg:Bool) (d:Txt) (v:Nat) (h:Lib.decNat d=some v) :
 Lib.atoiAll (if neg then 45::d else d)=(if neg then (if v<=9223372036854775808 then .ok (-(v:Int)) else .range) else (if v<9223372036854775808 then .ok (v:Int) else .range)):=by
 have hne:d≠[]:=by rintro rfl;simp [Lib.decNat] at h
 have hdec:Lib.decFrom 0 d=some v:=by
  unfold Lib.decNat at h
  rw [if_neg (by simpa using hne)] at h;exact h
 have hp:=Zna d 0 v (by decide) hdec
 have hm:Lib.parseMag d=(if v<18446744073709551616 then .ok v else .range):=by unfold Lib.parseMag;rw [if_neg hne,hp]
 obtain ⟨c,r,rfl⟩:∃ c r,d=c::r:=by cases d with|nil=>exact absurd rfl hne|cons c r=>exact ⟨c,r,rfl⟩
 have hc:48<=c.toNat/\c.toNat<=57:=by
  unfold Lib.decFrom Lib.digitVal at hdec
  by_cases hc:48<=c.toNat/\c.toNat<=57
  · exact hc
  · rw [if_neg hc] at hdec;cases hdec
 cases neg with
 | true =>
   simp only [if_true]
   have h45:(45:UInt8).toNat=45:=rfl
   unfold Lib.atoiAll
   simp only []
   rw [if_pos (Or.inr h45),hm]
   by_cases h1:v<18446744073709551616
   · rw [if_pos h1]
     simp only [h45,not_true_eq_false,false_and,if_false,true_and,if_true]
     by_cases h2:v<=9223372036854775808
     · rw [if_neg (by omega),if_pos h2]
     · rw [if_pos (by omega),if_neg h2]
   · rw [if_neg h1,if_neg (by omega)]
 | false =>
   simp only [Bool.false_eq_true,if_false]
   unfold Lib.atoiAll
   simp only []
   rw [if_neg (by omega),hm]
   by_cases h1:v<18446744073709551616
   · rw [if_pos h1]
     have h45:¬ c.toNat=45:=by omega
     simp only [h45,not_false_eq_true,true_and,false_and,if_false]
     by_cases h2:v<9223372036854775808
     · rw [if_neg (by omega),if_pos h2]
     · rw [if_pos (by omega),if_neg h2]
   · rw [if_neg h1,if_neg (by omega)]
theorem Jr {p:UInt8->Bool}:∀ (l:Txt),l.dropWhile p=[] ↔ l.all p=true
 | []=>by simp
 | c::r=>by
   rw [List.dropWhile_cons,List.all_cons]
   cases h:p c with
   | true=>simp only [if_true,Bool.true_and];exact Jr r
   | false=>simp
theorem Zft {p:UInt8->Bool}:∀ (l:Txt) (c:UInt8) (r:Txt),l.dropWhile p=c::r->p c=false
 | [],c,r,h=>by simp at h
 | d::l,c,r,h=>by
   rw [List.dropWhile_cons] at h
   cases hd:p d with
   | true=>rw [hd] at h;exact Zft l c r (by simpa using h)
   | false=>rw [hd] at h;simp at h;rw [<- h.1];exact hd
theorem Zpr (l cs:Txt):Lib.trimS l cs=[] ↔ l.all (cs.contains ·)=true:=by
 unfold Lib.trimS Lib.trimLeftS
 rw [Jr]
 unfold Lib.trimRightS
 cases h:l.reverse.dropWhile (cs.contains ·) with
 | nil =>
   rw [Jr,List.all_reverse] at h
   exact ⟨fun _=>h,fun _=>rfl⟩
 | cons c r =>
   have h1:=Zft _ _ _ h
   constructor
   · intro h2
     rw [List.all_reverse,List.all_cons,h1] at h2
     simp at h2
   · intro h2
     rw [<- List.all_reverse,<- Jr,h] at h2
     cases h2
def hexSet:Txt:=[48,49,50,51,52,53,54,55,56,57,97,98,99,100,101,102]
def digSet:Txt:=[48,49,50,51,52,53,54,55,56,57]
theorem Zwp (P:UInt8->Prop) (h:∀ n:Fin 256,P (UInt8.ofNat n.val)) (b:UInt8):P b:=by
 have:=h ⟨b.toNat,b.toNat_lt⟩
 simpa using this
theorem Zza (b:UInt8):hexSet.contains b=(Zje b).isSome:=Zwp (fun b=>hexSet.contains b=(Zje b).isSome) (by decide) b
theorem Zzh (b:UInt8):digSet.contains b=Zea b:=Zwp (fun b=>digSet.contains b=Zea b) (by decide) b
def Zjv (l:Txt):Bool:=l.all fun b=>(Zje b).isSome
theorem Zjq (l:Txt):Lib.trimS l hexSet=[] ↔ Zjv l=true:=by
 rw [Zpr];unfold Zjv
 rw [show (fun b=>hexSet.contains b)=(fun b=>(Zje b).isSome) from funext Zza]
theorem Zur (l:Txt):Lib.trimS l digSet=[] ↔ l.all Zea=true:=by
 rw [Zpr]
 rw [show (fun b=>digSet.contains b)=Zea from funext Zzh]
theorem Zlf {b:UInt8} {n:Nat} (h:Zje b=some n):n<16:=by
 unfold Zje at h
 split at h
 · injection h;omega
 · split at h
   · injection h;omega
   · cases h
theorem Zej:∀ (l:Txt) (a:Nat),Zjv l=true->∃ v,Ys a l=some v/\v<(a+1)*16 ^ l.length
 | [],a,_=>⟨a,rfl,by simp⟩
 | c::r,a,h=>by
   unfold Zjv at h
   simp only [List.all_cons,Bool.and_eq_true] at h
   obtain ⟨d,hd⟩:=Option.isSome_iff_exists.1 h.1
   obtain ⟨v,h1,h2⟩:=Zej r (16*a+d) h.2
   refine ⟨v,?_,?_⟩
   · unfold Ys;rw [hd];exact h1
   · have:=Zlf hd
     rw [List.length_cons,Nat.pow_succ]
     refine Nat.lt_of_lt_of_le h2 ?_
     rw [Nat.mul_comm (16 ^ r.length),<- Nat.mul_assoc]
     exact Nat.mul_le_mul_right _ (by omega)
theorem Zcf:∀ (l:Txt) (a:Nat),Zjv l=false->Ys a l=none
 | [],_,h=>by simp [Zjv] at h
 | c::r,a,h=>by
   unfold Ys
   cases hc:Zje c with
   | none=>rfl
   | some d =>
     have:Zjv r=false:=by unfold Zjv at h ⊢;simpa [hc] using h
     exact Zcf r _ this
theorem Zjf {l:Txt} {k a:Nat} {b:UInt8} {d:Nat} (hk:l[k]? = some b) (hd:Zje b=some d):Ys a (l.drop k)=Ys (16*a+d) (l.drop (k+1)):=by
 obtain ⟨h1,h2⟩:=List.getElem?_eq_some_iff.1 hk
 rw [List.drop_eq_getElem_cons h1,h2]
 rw [Ys,hd]
theorem Zue {l:Txt} (h0:l≠[]) (h:l.all Zea=true):∃ v,Lib.decNat l=some v:=by
 obtain ⟨v,hv⟩:=Zji l 0 h
 exact ⟨v,by unfold Lib.decNat;rw [if_neg (by simpa using h0)];exact hv⟩
theorem Znt {l:Txt} (h:l=[]\/l.all Zea=false):Lib.decNat l=none:=by
 unfold Lib.decNat
 rcases h with rfl|h
 · rfl
 · split
   · rfl
   · exact Zjh l 0 h
open Go.RowKit Go.Great CK
theorem Yck (c:Int) :
 (c=95/\Zjc c=true)\/((c == 95)=false/\97<=c/\c<=122/\Zjc c=true)\/((c == 95)=false/\97<=c/\122<c/\Zjc c=false) \/
 ((c == 95)=false/\c<97/\65<=c/\c<=90/\Zjc c=true)\/((c == 95)=false/\c<97/\65<=c/\90<c/\Zjc c=false)\/((c == 95)=false/\c<65/\Zjc c=false):=by
 unfold Zjc
 by_cases h1:c=95
 · left;subst h1;exact ⟨rfl,by decide⟩
 · have e:(c == 95)=false:=beq_eq_false_iff_ne.2 h1
   right;rw [e]
   by_cases h2:97<=c
   · have h6:65<=c:=by omega
     have h7:¬ c<=90:=by omega
     by_cases h3:c<=122
     · left;simp [h2,h3]
     · right;left;refine ⟨rfl,h2,by omega,?_⟩;simp [h2,h3,h6,h7]
   · right;right
     by_cases h4:65<=c
     · by_cases h5:c<=90
       · left;refine ⟨rfl,by omega,h4,h5,?_⟩;simp [h2,h4,h5]
       · right;left;refine ⟨rfl,by omega,h4,by omega,?_⟩;simp [h2,h4,h5]
     · right;right;refine ⟨rfl,by omega,?_⟩;simp [h2,h4]
theorem Jj (c:Int) (w:World):Calls Tryz.prog 107 #[.int .i32 c] w fun e w'=>e = .returned (.bool (Zjc c))/\w=w':=by
 rcases Yck c with ⟨rfl,h⟩|⟨h1,h2,h3,h⟩|⟨h1,h2,h3,h⟩|⟨h1,h2,h3,h4,h⟩|⟨h1,h2,h3,h4,h⟩|⟨h1,h2,h⟩
 all_goals
  rw [h];clear h
  go_enter Tryz.func107,Tryz.ntmps107
  go_wp2
  go_ret
  first
   | exact ⟨rfl,rfl⟩
   | exact ⟨by simp;omega,rfl⟩
theorem Zdr (c:Int) (w:World):Calls Tryz.prog 110 #[.int .i32 c] w fun e w'=>e = .returned (.bool (Zmg c))/\w=w':=by
 by_cases h1:48<=c
 · have h:Zmg c=decide (c<=57):=by unfold Zmg;simp [h1]
   rw [h];clear h
   go_enter Tryz.func110,Tryz.ntmps110
   go_wp2
   go_ret
   exact ⟨rfl,rfl⟩
 · have h:Zmg c=false:=by unfold Zmg;simp [h1]
   rw [h];clear h
   go_enter Tryz.func110,Tryz.ntmps110
   go_wp2
   go_ret
   first|exact ⟨rfl,rfl⟩|exact ⟨by simp,rfl⟩|exact ⟨by simp;omega,rfl⟩
theorem Yai (s:ByteArray) (pos:Nat) (h:pos<s.size):1<=(Utf8.decode s pos).2:=by
 by_cases ha:(s[pos]'h).toNat<128
 · rw [decode_ascii s pos h ha]
   exact Nat.le_refl _
 · exact (decode_high s pos h (by omega)).2
theorem Ju (s:ByteArray):s.data.toList.length=s.size:=by simp
theorem Ziq (s:ByteArray) (k:Nat) (h:k<s.size):s.data.toList[k]? = some (s[k]'h):=by
 rw [List.getElem?_eq_getElem (by simpa using h)];rfl
theorem Yaw (l:Txt) (k:Nat) (h1:∀ j,j<k->∃ b,l[j]? = some b/\tlB b=true) (h2:∀ b,l[k]? = some b->tlB b=false):Zdj l=k:=by
 induction k generalizing l with
 | zero =>
   unfold Zdj
   cases l with
   | nil=>rfl
   | cons c r =>
     have:=h2 c rfl
     simp [this]
 | succ k ih =>
   obtain ⟨b,hb,ht⟩:=h1 0 (Nat.succ_pos _)
   cases l with
   | nil=>simp at hb
   | cons c r =>
     have hc:c=b:=by simpa using hb
     subst hc
     have:=ih r (fun j hj=>by have:=h1 (j+1) (by omega);simpa using this) (fun b hb=>h2 b (by simpa using hb))
     unfold Zdj at this ⊢
     rw [List.takeWhile_cons,if_pos ht,List.length_cons,this]
theorem Zoa {c:Int} (h:128<=c):Zjc c=false/\Zmg c=false:=by
 unfold Zjc Zmg
 constructor
 · simp;omega
 · simp;omega
def Yrl (s:ByteArray) (w w':World):Prop:=∃ pos,w'=w.iter s pos/\pos<=s.size/\∀ j,j<pos->∃ b,s.data.toList[j]? = some b/\tlB b=true
theorem Znh (w:World) (s:ByteArray) (pos:Nat):w.grownBy (w.iter s pos) none:=Ga _ _ _
theorem Yav (s:ByteArray) (w:World):Calls Tryz.prog 108 #[.string s] w fun e w'=>e = .returned (.int .i64 (Zdj s.data.toList))/\w.grownBy w' none:=by
 have RE:=Hq (Yaw s.data.toList)
 generalize Zdj s.data.toList=v at *
 go_enter Tryz.func108,Tryz.ntmps108
 go_wp2
 go_loopw [3] (fun _ w'=>Yrl s w w') (fun _ w'=>s.size - w'.iterPos w.heap.size)
 case atStart=>exact ⟨0,rfl,Nat.zero_le _,fun j h=>absurd h (Nat.not_lt_zero _)⟩
 case round =>
  obtain ⟨pos,rfl,hk,hall⟩:=hrel
  have HL:=Hq hall
  clear hall
  by_cases hp:pos<s.size
  · have hnx:∀ ty,(Instr.next (.pointer (some ⟨w.heap.size,0,none⟩)) true ty).run Tryz.prog (w.iter s pos)=_:=fun ty=>run_next_any w s pos ty hp
    have hb:=Ziq s pos hp
    have hwd:=Yai s pos hp
    have HD:(Utf8.decode s pos=((s[pos]'hp).toNat,1))\/(128<=(Utf8.decode s pos).1/\128<=(s[pos]'hp).toNat):=by
     by_cases ha:(s[pos]'hp).toNat<128
     · exact Or.inl (decode_ascii s pos hp ha)
     · exact Or.inr ⟨(decode_high s pos hp (by omega)).1,by omega⟩
    have HB:=Hq hb
    have HH:=Hq HD
    clear HD hb
    cases c1:Zjc ((Utf8.decode s pos).1:Int) with
    | true =>
      have ht:Utf8.decode s pos=((s[pos]'hp).toNat,1)/\tlB (s[pos]'hp)=true:=by
       rcases HH.out with h|⟨h,_⟩
       · refine ⟨h,?_⟩
         rw [h] at c1
         unfold tlB tlI;rw [c1];rfl
       · rw [(Zoa (c:=((Utf8.decode s pos).1:Int)) (by omega)).1] at c1;cases c1
      have HT:=Hq ht
      clear ht hwd
      have C1:=Hq c1
      clear c1
      go_wp2_with (go_at_call 107;refine (Jj _ _).mono ?_;rintro e w' ⟨rfl,rfl⟩;rw [C1.out])
      go_roundw
      case rel=>exact ⟨pos+1,by rw [HT.out.1],by omega,fun j hj=>by
       rcases Nat.lt_or_eq_of_le (Nat.le_of_lt_succ hj) with h5|h5
       · exact HL.out j h5
       · subst h5;exact ⟨_,HB.out,HT.out.2⟩⟩
      case measure=>rw [HT.out.1];simp;omega
    | false =>
      cases c2:Zmg ((Utf8.decode s pos).1:Int) with
      | true =>
        have ht:Utf8.decode s pos=((s[pos]'hp).toNat,1)/\tlB (s[pos]'hp)=true:=by
         rcases HH.out with h|⟨h,_⟩
         · refine ⟨h,?_⟩
           rw [h] at c1 c2
           unfold tlB tlI;rw [c1,c2];rfl
         · rw [(Zoa (c:=((Utf8.decode s pos).1:Int)) (by omega)).2] at c2;cases c2
        have HT:=Hq ht
        clear ht hwd
        have C1:=Hq c1
        have C2:=Hq c2
        clear c1 c2
        go_wp2_with (first
         | (go_at_call 107;refine (Jj _ _).mono ?_;rintro e w' ⟨rfl,rfl⟩;rw [C1.out])
         | (go_at_call 110;refine (Zdr _ _).mono ?_;rintro e w' ⟨rfl,rfl⟩;rw [C2.out]))
        go_roundw
        case rel=>exact ⟨pos+1,by rw [HT.out.1],by omega,fun j hj=>by
         rcases Nat.lt_or_eq_of_le (Nat.le_of_lt_succ hj) with h5|h5
         · exact HL.out j h5
         · subst h5;exact ⟨_,HB.out,HT.out.2⟩⟩
        case measure=>rw [HT.out.1];simp;omega
      | false =>
        have ht:v=pos:=by
         refine RE.out _ HL.out (fun b hb => ?_)
         rw [HB.out] at hb
         injection hb with hb
         subst hb
         unfold tlB tlI
         rcases HH.out with h|⟨_,h⟩
         · rw [h] at c1 c2
           rw [c1,c2];rfl
         · rw [(Zoa (by omega)).1,(Zoa (by omega)).2];rfl
        have HT:=Hq ht
        clear ht hwd
        have C1:=Hq c1
        have C2:=Hq c2
        clear c1 c2
        go_wp2_with (first
         | (go_at_call 107;refine (Jj _ _).mono ?_;rintro e w' ⟨rfl,rfl⟩;rw [C1.out])
         | (go_at_call 110;refine (Zdr _ _).mono ?_;rintro e w' ⟨rfl,rfl⟩;rw [C2.out]))
        go_ret
        exact ⟨by rw [HT.out];rfl,Znh _ _ _⟩
  · have hnx:∀ ty,(Instr.next (.pointer (some ⟨w.heap.size,0,none⟩)) true ty).run Tryz.prog (w.iter s pos)=_:=fun ty=>run_next_end w s pos ty hp
    have ht:v=s.size:=RE.out _ (fun j hj=>HL.out j (by omega)) (fun b hb=>by
     rw [List.getElem?_eq_none (by rw [Ju];exact Nat.le_refl _)] at hb;cases hb)
    have HT:=Hq ht
    clear ht
    go_wp2
    go_ret
    exact ⟨by rw [HT.out];rfl,Znh _ _ _⟩
theorem Zco {w w':World} (h:Below w.heap.size w w'):w.grownBy w' none:=⟨h.os,h.tape,h.output,h.size,fun k hk _=>h.block k hk⟩
structure LibW (w:World):Prop where
 big:8<=w.heap.size
 max:∃ m,w.cell? ⟨0,0,none⟩=some (.int .i64 m)
 pow:Lib.TabIs Tryz.prog w "internal/strconv.uint64pow10" .u64 Lib.pow10Tab
 rng:∃ te pe,w.cell? ⟨7,0,none⟩=some (.iface te pe)
theorem Zwe:Tryz.prog.globalNamed "internal/strconv.uint64pow10" = some 1:=by kernel_rfl
theorem Zs {w w':World} (h:LibW w) (g:w.grownBy w' none):LibW w':=by
 have hb:=h.big
 refine ⟨Nat.le_trans hb g.size,?_,?_,?_⟩
 · obtain ⟨m,hm⟩:=h.max
   exact ⟨m,(World.cell?_of_block (g.block _ (by simp;omega) (by simp))).trans hm⟩
 · have hp:=h.pow
   unfold Lib.TabIs World.var? at hp ⊢
   rw [Zwe] at hp ⊢
   simp only [Option.bind] at hp ⊢
   rw [g.block _ (by omega) (by simp)]
   exact hp
 · obtain ⟨te,pe,hm⟩:=h.rng
   exact ⟨te,pe,(World.cell?_of_block (g.block _ (by simp;omega) (by simp))).trans hm⟩
theorem Zzb (w:World) (k:Nat) (os:Array Obj):w.grownBy (Sort.grow (w.drewN k) os) none:=by
 refine ⟨rfl,rfl,rfl,?_,fun i hi _ => ?_⟩
 · show w.heap.size<=(w.heap++os).size
   simp
 · show (w.heap++os)[i]? = w.heap[i]?
   rw [Array.getElem?_append_left hi]
theorem bs_data (s:ByteArray):bs s.data.toList=s:=rfl
theorem Xd (l:Txt):(bs l).data.toList=l:=by simp [bs]
theorem Zi (l:Txt):(bs l).size=l.length:=by simp [bs,ByteArray.size]
theorem Zbh (s:ByteArray) (a b:Nat):s.extract a b=bs ((s.data.toList.drop a).take (b - a)):=by
 rw [<- Lib.extract_data];rfl
theorem Zaj (n:Int) (h0 : -9223372036854775808<=n) (h1:n<=9223372036854775807) (w:World) (h:LibW w) :
 Calls Tryz.prog 39 #[.int .i64 n] w fun e w'=>e = .returned (.string (bs (Lib.itoa n)))/\w.grownBy w' none:=by
 refine (Tryz.strconv_Itoa n h0 h1 w h.pow).mono ?_
 rintro e w' ⟨rfl,k,os,rfl⟩
 exact ⟨rfl,Zzb _ _ _⟩
theorem Js (s p:ByteArray) (w:World) :
 Calls Tryz.prog 141 #[.string s,.string p] w fun e w'=>e = .returned (.tuple #[.string (bs (Lib.trimPrefix s.data.toList p.data.toList)),.bool (p.data.toList.isPrefixOf s.data.toList)])/\w'=w :=
 Tryz.strings_CutPrefix s p w
theorem Zci (s p:ByteArray) (w:World) :
 Calls Tryz.prog 142 #[.string s,.string p] w fun e w'=>e = .returned (.string (bs (Lib.trimPrefix s.data.toList p.data.toList)))/\w'=w :=
 Tryz.strings_TrimPrefix s p w
theorem Zgj (s:ByteArray) (cs:Txt) (hs:s.size<=9223372036854775807) (hc:cs.length<4294967281) (ha:cs.all (fun b=>decide (b.toNat<128))=true) (w:World) :
 Calls Tryz.prog 139 #[.string s,.string (bs cs)] w fun e w'=>e = .returned (.string (bs (Lib.trimS s.data.toList cs)))/\w.grownBy w' none:=by
 have hb:=Xd cs
 refine (Any.strings_Trim_laid Tryz.lays160 (by kernel_rfl) s (bs cs) w hs (by rw [Zi];exact hc) (by rw [hb];exact ascii_of_all ha)).mono ?_
 rintro e w' ⟨rfl,hw⟩
 rw [hb]
 exact ⟨rfl,Zco hw⟩
def Zke (w:World) (r:Option Int) (e:Ending) (w':World):Prop :=
 (match r with
   | some v=>e = .returned (.tuple #[.int .i64 v,.nilIface])
   | none=>∃ v t p,e = .returned (.tuple #[.int .i64 v,.iface t p]))/\w.grownBy w' none
theorem Zaz (w:World) (t:TypeId) (s:ByteArray):w.grownBy (Lib.bytesWorld w t s) none:=Zco (Lib.bytesWorld_below w t s)
theorem Yis (neg:Bool) (d:Txt) (v:Nat) (h:Lib.decNat d=some v) (hl:d.length<=70000) (w:World) (hW:LibW w) :
 Calls Tryz.prog 143 #[.string (bs (if neg then 45::d else d))] w (Zke w (if neg then (if v<=9223372036854775808 then some (-(v:Int)) else none) else (if v<9223372036854775808 then some (v:Int) else none))):=by
 have ha:=Yep neg d v h
 have hsz:(bs (if neg then 45::d else d)).size<=70001:=by rw [Zi];cases neg <;> simp <;> omega
 have hd:(bs (if neg then 45::d else d)).data.toList=(if neg then 45::d else d):=Xd _
 have hok:∀ x,Lib.atoiAll (if neg then 45::d else d) = .ok x->Calls Tryz.prog 143 #[.string (bs (if neg then 45::d else d))] w (Zke w (some x)):=by
  intro x hx
  refine (Tryz.strconv_Atoi_ok _ (by omega) x (by rw [hd];exact hx) w).mono ?_
  rintro e w' ⟨rfl,hw⟩
  refine ⟨rfl,?_⟩
  rcases hw with rfl|⟨t,rfl⟩
  · exact Zd _ _
  · exact Zaz _ _ _
 have hno:Lib.atoiAll (if neg then 45::d else d) = .range->Calls Tryz.prog 143 #[.string (bs (if neg then 45::d else d))] w (Zke w none):=by
  intro hx
  obtain ⟨te,pe,hr⟩:=hW.rng
  refine (Tryz.strconv_Atoi_range _ (by omega) (by rw [hd];exact hx) _ w hr (Or.inr ⟨_,_,rfl⟩)).mono ?_
  rintro e w' ⟨N,rfl,-,-,hw⟩
  exact ⟨⟨_,_,_,rfl⟩,Zco hw⟩
 cases neg with
 | true =>
   simp only [if_true] at ha hok hno ⊢
   split at ha
   · rename_i hv;rw [if_pos hv];exact hok _ ha
   · rename_i hv;rw [if_neg hv];exact hno ha
 | false =>
   simp only [Bool.false_eq_true,if_false] at ha hok hno ⊢
   split at ha
   · rename_i hv;rw [if_pos hv];exact hok _ ha
   · rename_i hv;rw [if_neg hv];exact hno ha
end Go.Proofs.YteciblfmgdlipaaGreatDoor.AS
namespace Go.Proofs.YteciblfmgdlipaaGreatDoor
open Go
theorem Zij {H:Type} {enc:TypeId × Value->H} {a:Assume} {C:Checked} {os:Os} {f:FuncId} {fn:Func} {s:ChangeSpec} {conds:List PathCond} {apart fresh handsOn again:Bool} {X:World->Array Value->Prop}
 (hX:∀ (w w':World) (args:Array Value),w.heap=w'.heap->X w args->X w' args)
 (own:ownKnob C.prog.godebug=none) (started:os.Started) (noInit:C.prog.inits.idxOf? f=none) (hfn:C.prog.funcs[f]? = some fn)
 (witness:∃ (w:World) (tape:Tape) (i:Input),w.os=os/\(w.forCall tape i).Shaped C.prog/\i.vars=[]/\Input.okWide C.prog (w.forCall tape i) .any w.heap.size f i /\
   ((s.pre enc C.prog fn conds apart (w.forCall tape i).memory i.args/\X (w.forCall tape i).memory i.args)/\sizedMet enc C.prog fn (OpenSpec.ofChange s) apart (w.forCall tape i).memory i.args)/\a.holds C.prog (lone (Frame.enter C.prog f i.args .normal) [] (w.forCall tape i)))
 (Zpj:∀ (W:World) (base:Nat) (args:Array Value) (ds gs:List (DataW H)) (before:List MemPlace),
   (∀ (j:Nat) t v,fn.params[j]? = some t->args[j]? = some v->Value.okWide C.prog W .any base t v) ->
   DataW.Whole enc C.prog fn.params.toList s.vars apart W args.toList ds gs before ->
   (DataW.weightsEach C.prog (fn.params.toList++s.plain.varTypes C.prog) (ds++gs)).all (·<=reachBytes)=true ->
   W.ShapedOpen C.prog->X W args ->
   Calls C.prog f args W fun e W'=>∃ v,e = .returned v/\s.post enc C.prog fn apart fresh handsOn again W args v W') :
 ReturnsInHanded a C os f .any (fun w args=>(s.pre enc C.prog fn conds apart w args/\X w args)/\sizedMet enc C.prog fn (OpenSpec.ofChange s) apart w args) (s.post enc C.prog fn apart fresh handsOn again):=by
 refine returnsInHanded_of_calls own started noInit witness ?_
 intro w tape i _ hsh _ hok hpre hholds
 obtain ⟨_,_,_,fn',hfn',_,_,_,_,hval⟩:=hok
 have e:fn'=fn:=Option.some.inj (hfn'.symm.trans hfn)
 subst e
 obtain ⟨⟨⟨ds,gs,before,hw,hc⟩,hx⟩,hz⟩:=hpre
 have hw':=DataW.Whole.of_heap (w':=w.forCall tape i) (by rfl) hw
 refine (Zpj (w.forCall tape i) w.heap.size i.args ds gs before hval hw' (hz.weights hw) hsh (hX _ _ _ (by rfl) hx)).mono fun e W' ⟨v,he,hp⟩ => ?_
 subst he
 exact ChangeSpec.post_blind hp
end Go.Proofs.YteciblfmgdlipaaGreatDoor
namespace Go.Proofs.YteciblfmgdlipaaGreatDoor.AS
open Go.ChangeShapes Go.WideShapes Go.ChangeAt Go.RowKit
abbrev laidL:List (String × DataW Unit):=Rows.asmLongerRow.laid
theorem own:ownKnob Tryz.prog.godebug=none:=by kernel_rfl
theorem Ylb:Tryz.prog.underlying 235=some (.array 20 149):=by kernel_rfl
theorem Yjz:Tryz.prog.underlying 149=some (.int .u64):=by kernel_rfl
theorem libW_of {W:World} (h:laidMetH Tryz.prog laidL W) (hs:W.ShapedOpen Tryz.prog):LibW W:=by
 rw [MakeChecks.laidMetH_plain _ _ _ (by kernel_rfl)] at h
 obtain ⟨ps,⟨g0,t0,cs0,f0,p0,q0,hg0,ht0,hv0,hd0,⟨g1,t1,cs1,f1,p1,q1,hg1,ht1,hv1,hd1,⟨g2,t2,cs2,f2,p2,q2,hg2,ht2,hv2,hd2,⟨g3,t3,cs3,f3,p3,q3,hg3,ht3,hv3,hd3,⟨g4,t4,cs4,f4,p4,q4,hg4,ht4,hv4,hd4,hrest,_⟩,_⟩,_⟩,_⟩,_⟩,_,_⟩:=h
 obtain rfl:=Option.some.inj ((show Tryz.prog.globalNamed "internal/strconv.uint64pow10" = some 1 by kernel_rfl).symm.trans hg2)
 obtain rfl:=Option.some.inj ((show (Tryz.prog.globals[1]?).map (·.type)=some 235 by kernel_rfl).symm.trans ht2)
 obtain rfl:=Option.some.inj ((show Tryz.prog.globalNamed "strconv.ErrRange" = some 7 by kernel_rfl).symm.trans hg4)
 obtain rfl:=Option.some.inj ((show (Tryz.prog.globals[7]?).map (·.type)=some 28 by kernel_rfl).symm.trans ht4)
 have hpow:cs2.toList=Lib.pow10Tab.map fun z=>Value.int .u64 z:=by
  have e:(Rows.laid_internal_strconv_uint64pow10:DataW Unit)=Lib.tabData .u64 Lib.pow10Tab:=by kernel_rfl
  rw [e] at hd2
  exact Lib.cells_of_tab (zs:=Lib.pow10Tab) (k := .u64) (n:=20) Ylb Yjz (by kernel_rfl) (by kernel_rfl) hd2
 obtain ⟨fu,u,v,hcs,-,-⟩:=iface_of_trod (P:=Tryz.prog) Tryz.underlying28 hd4
 refine ⟨?_,?_,?_,?_⟩
 · obtain ⟨cs,hh,-⟩:=hs.1 7 #[.nilIface] 28 (by decide) (by kernel_rfl)
   have:=(Gs hh)
   omega
 · exact Go.Proofs.cell_of_shapedOpen_int hs (g:=0) (t:=3) (zero := #[.int .i64 0]) (by decide) (by kernel_rfl) rfl (by kernel_rfl) (by kernel_rfl) Tryz.underlying3
 · unfold Lib.TabIs
   rw [hv2,<- hpow]
 · refine ⟨u,v,?_⟩
   rw [World.var?_cell hg4 hv4 0,<- Array.getElem?_toList,hcs]
   rfl
theorem str_small {H:Type} {ts:List TypeId} {ds:List (DataW H)} {j:Nat} {l:Txt} (h:(DataW.weightsEach Tryz.prog ts ds).all (·<=reachBytes)=true) (ht:ts[j]? = some 9) (hd:ds[j]? = some (.lit (.string l))):l.length<=140737488351232:=by
 have hm:=DataW.weights_mem_each (P:=Tryz.prog) ht hd l.length (by simp [DataW.weights])
 have:=List.all_eq_true.1 h _ hm
 have e:reachBytes=140737488351232:=rfl
 rw [e] at this
 simpa using this
theorem door_shaped (os:Os) (args:Array Value):((World.laidAll Tryz.prog os laidL).forCall (fun _ _=>0) ⟨#[],args,[]⟩).Shaped Tryz.prog:=World.shaped_of_ZipB (by kernel_rfl) (by kernel_rfl)
theorem door_met (os:Os) (args:Array Value):laidMetH Tryz.prog laidL ((World.laidAll Tryz.prog os laidL).forCall (fun _ _=>0) ⟨#[],args,[]⟩).memory:=by
 rw [MakeChecks.laidMetH_plain _ _ _ (by kernel_rfl)]
 exact laidMet_laidAll _ (by kernel_rfl) (by kernel_rfl)
end Go.Proofs.YteciblfmgdlipaaGreatDoor.AS
