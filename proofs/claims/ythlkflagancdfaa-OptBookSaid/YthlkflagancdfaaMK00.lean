/-
  Part of a proof: contracts of functions and lemmas, each stated by its own theorem. Conditions: as each theorem states.
-/
import Derived.Test.YthlkflagancdfaaProg
import Derived.WalkKit
import Derived.WalkLawsBesides
import Derived.RowKit3
import Derived.Deep.Draws
import Derived.Lib.Hide
import Derived.Great.BuildSlice
import Derived.Great.Walk
import Derived.Outline
import Derived.Maps.AppendAt
import Derived.Laws.OwnMore
import Derived.OwnWalk
import Derived.Laws.ResultCell
import Derived.ChangeSame
import Derived.ProofKit
import Derived.OpenShut
import Derived.Below
import Derived.Deep.Frames
import Derived.Carry
import Derived.Laws.EntriesVeiled
import Derived.StillTailTactics
import Derived.Test.YthlkflagancdfaaMKSq
set_option linter.unusedSimpArgs false
set_option linter.unusedVariables false
set_option maxRecDepth 100000
set_option maxHeartbeats 16000000
namespace Go.Proofs.Ythlkflagancdfaa.CK
open Go.RowKit Go.Great
theorem Zfa {k:IntKind} {a b:Int} (h:a=b):Ending.returned (.int k a) = .returned (.int k b):=by rw [h]
theorem Zc (w:World) (r:Option Nat):w.grownBy w r:=⟨rfl,rfl,rfl,Nat.le_refl _,fun _ _ _=>rfl⟩
theorem Za {a b c:World} {r:Option Nat} (h:a.grownBy b r) (g:b.grownBy c r):a.grownBy c r :=
 ⟨g.os.trans h.os,g.tape.trans h.tape,g.output.trans h.output,Nat.le_trans h.size g.size,fun k hk hr=>(g.block k (Nat.lt_of_lt_of_le hk h.size) hr).trans (h.block k hk hr)⟩
theorem Zh (w:World) (b o:Nat) (v:Value):w.grownBy (w.setCell ⟨b,o,none⟩ v) (some b):=⟨rfl,rfl,rfl,by simp,fun k hk hr=>heap_setCell_other w _ k v (by intro e;exact hr (by rw [e]))⟩
theorem Ze {w w':World} {row:Option Nat} (h:w.grownBy w' row):w.grownBy w'.drew row:=⟨h.os,h.tape,h.output,h.size,h.block⟩
theorem Zsg (w:World) (n:Nat) (row:Option Nat):w.grownBy (w.drewN n) row:=⟨rfl,rfl,rfl,by simp,fun k hk _=>by simp⟩
theorem Zf {w w':World} {row:Option Nat} (h:w.grownBy w' row) (n:Nat):w.grownBy (w'.drewN n) row:=Za h (Zsg w' n row)
theorem Zfu {w w':World} {r:Option Nat} (h:w.grownBy w' none):w.grownBy w' r:=⟨h.os,h.tape,h.output,h.size,fun k hk _=>h.block k hk (by simp)⟩
theorem Zpe {w:World} {base:Nat} {e:TypeId} {size n:Nat} {v:Value} {xs:List Value} {b:Nat} (h:w.ownsRow base e size v n xs) (hb:b<base):v.ownBlock=none\/v.ownBlock≠some b:=by
 cases hv:v.ownBlock with
 | none=>left;rfl
 | some k=>right;have:=(h.lt k hv).1;intro e;injection e with e;omega
theorem Zfb {w:World} {base:Nat} {e:TypeId} {size n:Nat} {v:Value} {xs:List Value} {b:Nat} (h:w.ownsRow base e size v n xs) (hb:b<base):v.ownBlock≠some b:=by
 rcases Zpe h hb with h1|h1
 · rw [h1];simp
 · exact h1
theorem Zb {w w':World} {b:Nat} {o:Obj} {row:Option Nat} (h:w.heap[b]? = some o) (g:w.grownBy w' row) (hr:row≠some b):w'.heap[b]? = some o:=by
 rw [g.block b (Gs h) (fun e=>hr e.symm)];exact h
theorem Zpx (d:List Int):∀ u∈d.map (Value.int .u8),u.oneCell'=true:=by
 intro u hu
 obtain ⟨x,_,rfl⟩:=List.mem_map.1 hu
 rfl
theorem Zgl (w:World) (x:Value) (t:TypeId):∀ j u,[x][j]? = some u->(w.alloc (.cells #[x] t)).cell? ((⟨w.heap.size,0,none⟩:Addr).add j)=some u:=by
 intro j u hj
 match j,hj with
 | 0,hj=>simp at hj;subst hj;simp [Addr.add]
theorem Zcq (k:IntKind) (x:Int):∀ u∈[Value.int k x],u.oneCell'=true:=by intro u hu;simp at hu;subst hu;rfl
theorem Zwv (w:World) (x y:Value) (t:TypeId):∀ j u,[x,y][j]? = some u->(w.alloc (.cells #[x,y] t)).cell? ((⟨w.heap.size,0,none⟩:Addr).add j)=some u:=by
 intro j u hj
 match j,hj with
 | 0,hj=>simp at hj;subst hj;simp [Addr.add]
 | 1,hj=>simp at hj;subst hj;simp [Addr.add]
theorem Zqf (k:IntKind) (x y:Int):∀ u∈[Value.int k x,Value.int k y],u.oneCell'=true:=by
 intro u hu;simp at hu;rcases hu with rfl|rfl <;> rfl
structure Sp (P:Nat->Prop) (w w':World):Prop where
 os:w'.os=w.os
 tape:w'.tape=w.tape
 output:w'.output=w.output
 size:w.heap.size<=w'.heap.size
 block:∀ k,k<w.heap.size->¬ P k->w'.heap[k]? = w.heap[k]?
theorem Zez (P:Nat->Prop) (w:World):Sp P w w:=⟨rfl,rfl,rfl,Nat.le_refl _,fun _ _ _=>rfl⟩
theorem Yo {P Q:Nat->Prop} {w w1 w2:World} (h:Sp P w w1) (g:Sp Q w1 w2) (hq:∀ k,k<w.heap.size->Q k->P k):Sp P w w2 :=
 ⟨g.os.trans h.os,g.tape.trans h.tape,g.output.trans h.output,Nat.le_trans h.size g.size,fun k hk hp=>(g.block k (Nat.lt_of_lt_of_le hk h.size) (fun hQ=>hp (hq k hk hQ))).trans (h.block k hk hp)⟩
theorem Yga {P Q:Nat->Prop} {w w1:World} (h:Sp P w w1) (hq:∀ k,k<w.heap.size->P k->Q k):Sp Q w w1 :=
 ⟨h.os,h.tape,h.output,h.size,fun k hk hp=>h.block k hk (fun hQ=>hp (hq k hk hQ))⟩
theorem Yf {P:Nat->Prop} {w w1:World} {r:Option Nat} (h:w.grownBy w1 r) (hr:∀ k,k<w.heap.size->r=some k->P k):Sp P w w1 :=
 ⟨h.os,h.tape,h.output,h.size,fun k hk hp=>h.block k hk (fun e=>hp (hr k hk e.symm))⟩
theorem Zmi {P:Nat->Prop} {w w1:World} (h:Sp P w w1) (hp:∀ k,k<w.heap.size->¬ P k):w.grownBy w1 none :=
 ⟨h.os,h.tape,h.output,h.size,fun k hk _=>h.block k hk (hp k hk)⟩
theorem Zbi {w w':World} {k:Nat} (h:w'.heap[k]? = w.heap[k]?) (o:Nat):w'.cell? ⟨k,o,none⟩=w.cell? ⟨k,o,none⟩:=by
 unfold World.cell?;rw [h]
theorem Zgg {P:Nat->Prop} {w w':World} {b o:Nat} {v:Value} (h:w.cell? ⟨b,o,none⟩=some v) (g:Sp P w w') (hp:¬ P b):w'.cell? ⟨b,o,none⟩=some v:=by
 rw [Zbi (g.block b (World.block_lt_of_cell? _ _ h) hp)];exact h
theorem Zdo {P:Nat->Prop} {w w':World} {base:Nat} {e:TypeId} {size n:Nat} {v:Value} {xs:List Value} (h:w.ownsRow base e size v n xs) (g:Sp P w w') (hp:∀ k,v.ownBlock=some k->¬ P k):w'.ownsRow base e size v n xs:=by
 obtain ⟨h1,h2⟩:=h
 refine ⟨h1,?_⟩
 rcases h2 with h2|⟨g0,cap,cur,rfl,hb,hg,rest⟩
 · exact .inl h2
 · exact .inr ⟨g0,cap,cur,rfl,hb,by rw [g.block g0 (Gs hg) (hp g0 rfl)];exact hg,rest⟩
theorem Zan {w:World} {base:Nat} {e:TypeId} {size n:Nat} {v:Value} {xs:List Value} (h:w.ownsRow base e size v (n+1) xs):∃ g cap,v = .slice (some ⟨g,0,none⟩) (n+1) cap:=by
 rcases h.2 with ⟨_,h0⟩|⟨g,cap,cur,hv,_⟩
 · omega
 · exact ⟨g,cap,hv⟩
theorem Zdx {w:World} {base:Nat} {e:TypeId} {size n:Nat} {v:Value} {xs:List Value} {b o:Nat} {u:Value} (h:w.ownsRow base e size v n xs) (hb:b<base):(w.setCell ⟨b,o,none⟩ u).ownsRow base e size v n xs :=
 h.kept (Zh w b o u) (Zpe h hb)
theorem Xq {w:World} {base:Nat} {e e':TypeId} {size size' n n':Nat} {v v':Value} {xs xs':List Value} (h:w.ownsRow base e size v n xs) (h':w.ownsRow base e' size' v' n' xs') (hne:e≠e'):v.ownBlock=none\/v.ownBlock≠v'.ownBlock:=by
 rcases h.2 with ⟨rfl,_⟩|⟨g,cap,cur,rfl,_,hg,_⟩
 · left;rfl
 · right
   rcases h'.2 with ⟨rfl,_⟩|⟨g',cap',cur',rfl,_,hg',_⟩
   · simp [Value.ownBlock]
   · simp only [Value.ownBlock]
     intro heq
     injection heq with heq
     rw [heq] at hg
     rw [hg] at hg'
     injection hg' with hx
     injection hx with _ hx2 _
     exact hne hx2
theorem Yz {w:World} {base:Nat} {e e':TypeId} {size size' n n':Nat} {v v':Value} {xs xs':List Value} (h:w.ownsRow base e size v n xs) (h':w.ownsRow base e' size' v' n' xs') (hne:e≠e') {k:Nat} (hk:v.ownBlock=some k):v'.ownBlock≠some k:=by
 rcases Xq h h' hne with h1|h1
 · rw [h1] at hk;cases hk
 · rw [hk] at h1;exact fun e=>h1 e.symm
theorem Zz {w:World} {base base':Nat} {e:TypeId} {size n:Nat} {v:Value} {xs:List Value} (h:w.ownsRow base e size v n xs) (hb:base'<=base):w.ownsRow base' e size v n xs:=by
 refine ⟨h.1,?_⟩
 rcases h.2 with h|⟨g,cap,cur,e1,e2,e3⟩
 · exact Or.inl h
 · exact Or.inr ⟨g,cap,cur,e1,Nat.le_trans hb e2,e3⟩
theorem Zp {w:World} {base:Nat} {e:TypeId} {size n:Nat} {v:Value} {xs:List Value} (h:w.ownsRow base e size v n xs):∃ (p:Option Addr) (cap:Nat),v = .slice p n cap:=by
 rcases h.2 with ⟨rfl,rfl⟩|⟨g,cap,cur,hv,_⟩
 · exact ⟨_,_,rfl⟩
 · exact ⟨_,_,hv⟩
theorem Zx {w:World} {base:Nat} {e:TypeId} {size n:Nat} {v:Value} {xs:List Value} (h:w.ownsRow base e size v n xs) (h0:0<n):∃ g cap,v = .slice (some ⟨g,0,none⟩) n cap/\g<w.heap.size/\∀ j x,xs[j]? = some x->j<n*size->w.cell? ⟨g,j,none⟩=some x:=by
 obtain ⟨m,rfl⟩:∃ m,n=m+1:=⟨n - 1,by omega⟩
 obtain ⟨g,cap,rfl⟩:=Zan h
 exact ⟨g,cap,rfl,(h.lt g rfl).2,fun j x hx hj=>by rw [h.cellAt _ (by omega)];exact hx⟩
theorem Zms {w:World} {base:Nat} {e:TypeId} {size n g cap:Nat} {xs:List Value} (h:w.ownsRow base e size (.slice (some ⟨g,0,none⟩) n cap) n xs):n<=cap/\cap<=9223372036854775807:=by
 rcases h.2 with ⟨h1,_⟩|⟨g',cap',cur,hv,_,_,hn,hm,_⟩
 · cases h1
 · injection hv with _ _ e3;subst e3;unfold maxLen at hm;exact ⟨hn,hm⟩
theorem Yp {w:World} {base:Nat} {e t:TypeId} {size n b:Nat} {v:Value} {xs:List Value} {cs:Array Value} (h:w.ownsRow base e size v n xs) (hb:w.heap[b]? = some (.cells cs t (0,0))) (hne:e≠t):v.ownBlock≠some b:=by
 rcases h.2 with ⟨rfl,_⟩|⟨g,cap,cur,rfl,_,hg,_⟩
 · simp [Value.ownBlock]
 · simp only [Value.ownBlock]
   intro e'
   injection e' with e'
   subst e'
   rw [hb] at hg
   injection hg with hg
   injection hg with _ h2 _
   exact hne h2.symm
theorem Zmr {w:World} {base:Nat} {e:TypeId} {size n k g cap:Nat} {xs:List Value} (h:w.ownsRow base e size (.slice (some ⟨g,0,none⟩) n cap) n xs) (hk:k<=n):w.ownsRow base e size (.slice (some ⟨g,0,none⟩) k cap) k (xs.take (k*size)):=by
 obtain ⟨h1,h2⟩:=h
 rcases h2 with ⟨h2,_⟩|⟨g0,cap0,cur,e0,hb,hg,hn,hm,hs,ht⟩
 · cases h2
 · injection e0 with e1 e2 e3
   subst e3
   injection e1 with e1;injection e1 with e1 _ _;subst e1
   have hkn:k*size<=n*size:=Nat.mul_le_mul_right _ hk
   refine ⟨by rw [List.length_take,h1];omega,.inr ⟨g,cap,cur,rfl,hb,hg,by omega,hm,hs,?_⟩⟩
   rw [<- ht,List.take_take]
   congr 1;omega
theorem Yr (w:World) (o o':Obj):((w.alloc o).alloc o').heap[w.heap.size+1]? = some o':=by
 have h:=heap_alloc_new (w.alloc o) o'
 rw [World.size_alloc] at h;exact h
theorem Zds {w w1 w2:World} {r:Option Nat} {b:Nat} (h:w.grownBy w1 r) (g:w1.grownBy w2 (some b)) (hb:w.heap.size<=b):w.grownBy w2 r :=
 ⟨g.os.trans h.os,g.tape.trans h.tape,g.output.trans h.output,Nat.le_trans h.size g.size,fun k hk hr=>(g.block k (Nat.lt_of_lt_of_le hk h.size) (by intro e;injection e with e;omega)).trans (h.block k hk hr)⟩
theorem Xc (w:World) (o o':Obj):((w.alloc o).alloc o').heap[w.heap.size]? = some o:=Zb (heap_alloc_new w o) (Ga _ o' none) (by simp)
theorem Xl (w:World) (o1 o2 o3:Obj):(((w.alloc o1).alloc o2).alloc o3).heap[w.heap.size]? = some o1/\(((w.alloc o1).alloc o2).alloc o3).heap[w.heap.size+1]? = some o2/\(((w.alloc o1).alloc o2).alloc o3).heap[w.heap.size+1+1]? = some o3:=by
 refine ⟨Zb (Xc w o1 o2) (Ga _ o3 none) (by simp),Zb (Yr w o1 o2) (Ga _ o3 none) (by simp),?_⟩
 have h:=Yr (w.alloc o1) o2 o3
 rw [World.size_alloc] at h;exact h
theorem Xm (w:World) (o1 o2 o3:Obj):w.grownBy (((w.alloc o1).alloc o2).alloc o3) none:=Za (Ga _ _ _) (Za (Ga _ _ _) (Ga _ _ _))
theorem Zqo {E:Nat} {w:World} (h:E<=w.heap.size) (o:Obj):E<=(w.alloc o).heap.size:=by simp;omega
theorem Zun (p:Option Addr) (n k:Nat):∀ u∈[Value.slice p n k],u.oneCell'=true:=by intro u hu;simp at hu;subst hu;rfl
def Yc:List (Int × Int)->List Value
 | []=>[]
 | x::r => .int .i64 x.1 :: .int .i64 x.2::Yc r
theorem Jv (a b:List (Int × Int)):Yc (a++b)=Yc a++Yc b:=by
 induction a with
 | nil=>rfl
 | cons x r ih=>simp [Yc,ih]
theorem Xi (a:List (Int × Int)):(Yc a).length=a.length*2:=by
 induction a with
 | nil=>rfl
 | cons x r ih=>simp [Yc,ih];omega
theorem Xy:∀ (l:List (Int × Int)) (i:Nat) (a b:Int),l[i]? = some (a,b)->(Yc l)[i*2]? = some (.int .i64 a)/\(Yc l)[i*2+1]? = some (.int .i64 b)
 | [],i,a,b,h=>by simp at h
 | x::r,0,a,b,h=>by simp at h;subst h;simp [Yc]
 | x::r,i+1,a,b,h=>by
   obtain ⟨h1,h2⟩:=Xy r i a b (by simpa using h)
   have e:(i+1)*2=i*2+1+1:=by omega
   rw [e]
   simp only [Yc]
   exact ⟨by simpa using h1,by simpa using h2⟩
theorem Xt {w w':World} {row:Option Nat} {B b o:Nat} {v:Value} (g:w.grownBy w' row) (hr:∀ r,row=some r->B<=r) (hb:b<B) (h:w.cell? ⟨b,o,none⟩=some v):w'.cell? ⟨b,o,none⟩=some v :=
 g.cell h (by intro e;have:=hr b e.symm;omega)
theorem Zg {w:World} {b o:Nat} {cs:Array Value} {t:TypeId} {v:Value} (h:w.heap[b]? = some (.cells cs t (0,0))):(w.setCell ⟨b,o,none⟩ v).heap[b]? = some (.cells (cs.setIfInBounds o v) t (0,0)):=heap_setCell_same w b o cs t v h
theorem Ye {w:World} {b:Nat} {t:TypeId} {size g n c m:Nat} {xs:List Value} (h:w.ownsRow b t size (.slice (some ⟨g,0,none⟩) n c) m xs):∀ j,w.frozen? ⟨g,j,none⟩=false:=fun j=>by
 rcases h.2 with ⟨e2,_⟩|⟨g2,cap2,cur2,e2,_,hgg,_⟩
 · cases e2
 · injection e2 with d1 d2 d3
   injection d1 with d1;injection d1 with d1
   subst d1
   exact frozen_of_row w _ _ _ _ hgg
theorem Yw {w0 w w':World} {r:Option Nat} (h:w0.grownBy w none) (g:w.grownBy w' r) (hb:∀ k,r=some k->w0.heap.size<=k):w0.grownBy w' none :=
 ⟨g.os.trans h.os,g.tape.trans h.tape,g.output.trans h.output,Nat.le_trans h.size g.size,fun k hk _=>(g.block k (Nat.lt_of_lt_of_le hk h.size) (by intro e;have:=hb k e.symm;omega)).trans (h.block k hk (by simp))⟩
theorem Yq {fn:Func} {p:Tmp} {ty:TypeId} (h:fn.results = #[.cell p ty]) (tmps:Array Value) (P:Program) (w:World) :
 (results fn tmps).run P w=((asAddr (tmps.getD p undef)).run P w).andThen fun a w₁=>(loadVar ty a).run P w₁:=by
 simp only [results,h]
 simp [Sem.run_bind,Result.andThen]
theorem Zbu {fn:Func} {p u v:Tmp} {ty:TypeId} (h:fn.results = #[.cell p ty,.tmp u,.tmp v]) (tmps:Array Value) (P:Program) (w:World) :
 (results fn tmps).run P w =
   ((asAddr (tmps.getD p undef)).run P w).andThen fun a w₁=>((loadVar ty a).run P w₁).andThen fun x w₂ => .ok (.tuple #[x,tmps.getD u undef,tmps.getD v undef]) w₂:=by
 simp only [results,h]
 simp [Sem.run_bind,Result.andThen]
theorem Zd {w0 w:World} {b o:Nat} {v:Value} (h:w0.grownBy w none) (hb:w0.heap.size<=b):w0.grownBy (w.setCell ⟨b,o,none⟩ v) none :=
 Yw h (Zh w b o v) fun k hk=>by injection hk with hk;omega
theorem Zbv:Try.prog.underlying 32=some (.slice 3):=by kernel_rfl
theorem Zao:(Try.prog.info? 3).map (fun i=>(i.zero,i.size,i.bytes))=some (some (.int .i64 0),1,8):=by kernel_rfl
theorem Zfl:Try.prog.underlying 22=some (.slice 5):=by kernel_rfl
theorem Zjl:(Try.prog.info? 5).map (fun i=>(i.zero,i.size,i.bytes))=some (some (.int .u8 0),1,1):=by kernel_rfl
end Go.Proofs.Ythlkflagancdfaa.CK
namespace Go.Proofs.Ythlkflagancdfaa.TG
open Go.RowKit Go.ChangeShapes Go.WideShapes
theorem Zsb {w w':World} (h:w.grownBy w' none) (may:MemPlace->Prop):w.keptBut w' may:=by
 refine ⟨h.os,h.output,fun i hi => ?_⟩
 rw [h.block i hi (by simp)]
 cases w.heap[i]? with
 | none=>rfl
 | some o =>
   cases o with
   | cells c t fr=>exact ⟨rfl,rfl,rfl,fun _ _=>rfl⟩
   | map es ck=>exact Or.inr ⟨rfl,rfl⟩
   | _=>rfl
theorem Zvd {w w':World} (h:w.grownBy w' none) (a:Addr) (ha:a.block<w.heap.size):w'.frozen? a=w.frozen? a:=by
 unfold World.frozen?
 rw [h.block a.block ha (by simp)]
theorem Zrd {H:Type} {enc:TypeId × Value->H} {P:Program} {f:Func} {s:ChangeSpec} {apart fresh handsOn again:Bool} {W W':World} {args:Array Value} {v:Value} {ds gs:List (DataW H)} {before pa pv:List MemPlace}
 (hW:DataW.Whole enc P f.params.toList s.vars apart W args.toList ds gs before)
 (hres:∀ (b:Nat) (sp:Nat->Bool) (hd:Bool),DataW.TrodAll enc P W' b sp hd f.resultTypes.toList (v.resultList f.resultTypes.size) (s.fn H (ds++gs)).results [])
 (hargs:∀ sp:Nat->Bool,(∀ p∈before,sp p.block=true)->DataW.TrodAll enc P W' 0 sp true f.params.toList args.toList (s.fn H (ds++gs)).args pa)
 (hvars:∀ sp:Nat->Bool,(∀ p∈before,sp p.block=true)->DataW.TrodVars enc P W' sp s.vars (s.fn H (ds++gs)).vars pv)
 (hps:before=pa++pv) (hg:W.grownBy W' none)
 (hok:∀ (j:Nat) (t:TypeId) (r:Value),f.resultTypes[j]? = some t->(v.resultList f.resultTypes.size)[j]? = some r->Value.okWide P W' .any 0 t r) :
 s.post enc P f apart fresh handsOn again W args v W':=by
 subst hps
 have low:=hW.lt
 have hold:∀ p∈pa++pv,(fun b=>decide (b<W.heap.size)) p.block=true:=fun p hp=>decide_eq_true (low p hp)
 have hall:∀ p∈pa++pv,(fun _:Nat=>true) p.block=true:=fun _ _=>rfl
 have hW0:=hW
 obtain ⟨_,_,_,_,_,hz,hn⟩:=hW0
 refine ⟨ds,gs,pa++pv,[],pa,pv,hW,hres _ _ _,hargs _ hold,hvars _ hold,Zsb hg _,fun _=>⟨hok,_,_,pa++pv,⟨pa,pv,trodAll_append (p:=[]) (hargs _ hall) (hres _ _ _),hvars _ hall,rfl,?_,hn⟩,fun p hp _=>hp⟩⟩
 intro b off hp
 rw [Zvd hg _ (low _ hp)]
 exact hz b off hp
open Go.ChangeAt
section
variable {H:Type} {enc:TypeId × Value->H} {P:Program}
theorem Ycj {W W':World} (hg:W.grownBy W' none) {p:MemPlace} (hp:p.block<W.heap.size):W.sameAt W' p:=by
 have hb:=hg.block p.block hp (by simp)
 cases p with
 | cell b off=>exact World.cell?_of_block (w:=W) hb
 | map b=>exact hb
theorem Zpz (hl:laidOutB P=true) {W W':World} {sp:Nat->Bool} (hg:W.grownBy W' none) :
 ∀ {ts:List TypeId} {vs:List Value} {ds:List (DataW H)} {ps:List MemPlace},(∀ t∈ts,P.readableRec t=true/\t<P.types.size) ->
 DataW.TrodAll enc P W 0 (fun _=>true) true ts vs ds ps->(∀ p∈ps,p.block<W.heap.size)->(∀ p∈ps,sp p.block=true)->DataW.TrodAll enc P W' 0 sp true ts vs ds ps
 | [],[],[],_,_,h,_,_=>h
 | t::ts,_::_,_::_,_,hr,⟨p,q,h1,h2,e⟩,hlt,hs =>
   ⟨p,q,WideElems.Trod_stays hl (hr t (List.mem_cons.2 (Or.inl rfl))).1 (hr t (List.mem_cons.2 (Or.inl rfl))).2 h1
      (fun x hx=>Ycj hg (hlt x (by rw [e];exact List.mem_append_left _ hx)))
      (fun x hx=>hs x (by rw [e];exact List.mem_append_left _ hx)),
    Zpz hl hg (fun t ht=>hr t (List.mem_cons.2 (Or.inr ht))) h2
     (fun x hx=>hlt x (by rw [e];exact List.mem_append_right _ hx)) (fun x hx=>hs x (by rw [e];exact List.mem_append_right _ hx)),e⟩
theorem Ycz {f:Func} {s:ChangeSpec} {tb:TypeId} {apart fresh handsOn again:Bool} {W W':World} {args:Array Value} {ds gs:List (DataW H)} {before:List MemPlace}
 (hl:laidOutB P=true) (hr:∀ t∈f.params.toList,P.readableRec t=true/\t<P.types.size) (hv:s.vars=[])
 (hres:f.resultTypes = #[tb]) (hb:P.underlying tb=some .bool)
 (hW:DataW.Whole enc P f.params.toList s.vars apart W args.toList ds gs before)
 (hfn:gs=[]->s.fn H (ds++gs)={ results:=[.lit (.bool true)],args:=ds }) (hg:W.grownBy W' none) :
 s.post enc P f apart fresh handsOn again W args (.bool true) W':=by
 have hW':=hW
 obtain ⟨p,q,hA,hV,rfl,hfz,hnd⟩:=hW'
 have hgs:gs=[]/\q=[]:=by
  rw [hv] at hV
  cases gs with
  | nil=>exact ⟨rfl,hV⟩
  | cons g gs=>exact absurd hV (fun h=>h)
 obtain ⟨rfl,rfl⟩:=hgs
 have hf:=hfn rfl
 refine Zrd (pa:=p) (pv:=[]) hW (fun b sp hd => ?_) (fun sp hsp => ?_) (fun sp hsp => ?_) (by simp) hg ?_
 · rw [hf,hres]
   exact trodAll_cons_mk (shut_bool hb _) trodAll_mk0
 · rw [hf]
   exact Zpz hl hg hr hA (fun x hx=>hW.lt x (List.mem_append_left _ hx)) (fun x hx=>hsp x (List.mem_append_left _ hx))
 · rw [hf,hv];exact rfl
 · exact ok_one hres rfl (okWide_bool_mk hb _)
end
end Go.Proofs.Ythlkflagancdfaa.TG
namespace Go.Proofs.Ythlkflagancdfaa.OT
abbrev Ins:=Int × Int
def Zn (c:List Ins) (i:Nat):Ins:=c.getD i (0,0)
def jmp (op:Int):Bool:=op == 14 || op == 15 || op == 16
def Zap (c:List Ins) (a:Nat):Option Nat:=if (Zn c a).1=0 then some (a+1) else if (Zn c a).1=14 then some (Zn c a).2.toNat else none
def Zjf (c:List Ins):Nat->List Nat->Nat->Nat
 | 0,_,a=>a
 | g+1,seen,a=>if a∈seen then a else match Zap c a with
   | none=>a
   | some b=>Zjf c g (a::seen) b
def Zhk (c:List Ins) (a:Nat):Nat:=Zjf c (c.length+1) [] a
def reJ (g:Int->Int) (c:List Ins):List Ins:=c.map fun x=>if jmp x.1=true then (x.1,g x.2) else x
def Yh (c:List Ins):List Ins:=reJ (fun a=>(Zhk c a.toNat:Nat)) c
def Zew (c:List Ins):Prop:=∀ a,a<c.length->∀ b,Zap c a=some b->b<c.length
def itE (c:List Ins):Nat->Nat->Option Nat
 | 0,a=>some a
 | m+1,a=>(Zap c a).bind (itE c m)
theorem Zxy (c:List Ins):∀ (m:Nat) (a:Nat),itE c (m+1) a=(itE c m a).bind (Zap c)
 | 0,a=>by
   simp only [itE]
   cases h:Zap c a <;> simp [h]
 | m+1,a=>by
   rw [itE]
   cases h:Zap c a with
   | none=>simp [itE,h]
   | some b =>
     rw [Option.bind_some,Zxy c m b,itE,h,Option.bind_some]
theorem Yrx (c:List Ins) (k:Nat):∀ (m:Nat) (a:Nat),itE c (m+k) a=(itE c m a).bind (itE c k)
 | 0,a=>by rw [Nat.zero_add];rfl
 | m+1,a=>by
   rw [show m+1+k=(m+k)+1 by omega,itE,itE]
   cases h:Zap c a with
   | none=>rfl
   | some b=>rw [Option.bind_some,Option.bind_some,Yrx c k m b]
def Per (c:List Ins) (a:Nat):Prop:=∃ m,itE c (m+1) a=some a
theorem Zre {c:List Ins} {a b:Nat} (h:Per c a) (hs:Zap c a=some b):Per c b:=by
 obtain ⟨m,h⟩:=h
 refine ⟨m,?_⟩
 rw [itE,hs,Option.bind_some] at h
 rw [Zxy,h,Option.bind_some,hs]
theorem Zrf {c:List Ins} {a:Nat} (h:Per c a):∃ b,Zap c a=some b:=by
 obtain ⟨m,h⟩:=h
 cases hs:Zap c a with
 | none=>rw [itE,hs] at h;cases h
 | some b=>exact ⟨b,rfl⟩
theorem Zsc {c:List Ins} {M a:Nat} (h:itE c M a=some a):∀ k,itE c (k*M) a=some a
 | 0=>by rw [Nat.zero_mul];rfl
 | k+1=>by rw [Nat.succ_mul,Yrx,Zsc h k,Option.bind_some,h]
theorem Yuh {c:List Ins} {p q b:Nat} (hp:Per c p) (hq:Per c q) (h1:Zap c p=some b) (h2:Zap c q=some b):p=q:=by
 obtain ⟨m,hm⟩:=hp
 obtain ⟨k,hk⟩:=hq
 have a1:=Zsc hm (k+1)
 have a2:=Zsc hk (m+1)
 have e:(m+1)*(k+1)=(k+1)*(m+1):=Nat.mul_comm _ _
 obtain ⟨t,ht⟩:∃ t,(k+1)*(m+1)=t+1:=⟨(k+1)*(m+1) - 1,by have:0<(k+1)*(m+1):=Nat.mul_pos (by omega) (by omega);omega⟩
 rw [ht,itE,h1,Option.bind_some] at a1
 rw [e,ht,itE,h2,Option.bind_some,a1] at a2
 injection a2
theorem Zdq:∀ (n:Nat) (l:List Nat),l.Nodup->(∀ x∈l,x<n)->l.length<=n
 | 0,[],_,_=>Nat.le_refl _
 | 0,x::r,_,h=>absurd (h x (List.mem_cons_self ..)) (Nat.not_lt_zero _)
 | n+1,l,hd,h=>by
   by_cases hm:n∈l
   · have h1:=Zdq n (l.erase n) (hd.erase n) (fun x hx=>by
      have h2:=h x (List.mem_of_mem_erase hx)
      have h3:x≠n:=fun e=>by subst e;exact hd.not_mem_erase hx
      omega)
     have:=List.length_erase_of_mem hm
     have:=List.length_pos_of_mem hm
     omega
   · have:=Zdq n l hd (fun x hx=>by
      have h2:=h x hx
      have h3:x≠n:=fun e=>by subst e;exact hm hx
      omega)
     omega
theorem Ybb {c:List Ins} (hV:Zew c):∀ (g:Nat) (seen:List Nat) (a:Nat),seen.Nodup->(∀ s∈seen,s<c.length)->(∀ s∈seen,∃ m,itE c (m+1) s=some a)->a<c.length->c.length+1<=seen.length+g ->
 (Zjf c g seen a)<c.length/\(Zap c (Zjf c g seen a)=none\/Per c (Zjf c g seen a))
 | 0,seen,a,hd,hl,_,_,hg=>by
   have:=Zdq _ _ hd hl
   omega
 | g+1,seen,a,hd,hl,hs,ha,hg=>by
   unfold Zjf
   by_cases hm:a∈seen
   · rw [if_pos hm]
     exact ⟨ha,Or.inr (hs a hm)⟩
   · rw [if_neg hm]
     cases hst:Zap c a with
     | none=>exact ⟨ha,Or.inl hst⟩
     | some b =>
       simp only []
       refine Ybb hV g (a::seen) b (List.nodup_cons.2 ⟨hm,hd⟩) (fun s h => ?_) (fun s h => ?_) (hV a ha b hst) (by simp;omega)
       · rcases List.mem_cons.1 h with rfl|h
         · exact ha
         · exact hl s h
       · rcases List.mem_cons.1 h with rfl|h
         · exact ⟨0,by rw [itE,hst];rfl⟩
         · obtain ⟨m,hm2⟩:=hs s h
           exact ⟨m+1,by rw [Zxy,hm2,Option.bind_some,hst]⟩
theorem Zyh {c:List Ins} (hV:Zew c) {a:Nat} (ha:a<c.length):Zhk c a<c.length/\(Zap c (Zhk c a)=none\/Per c (Zhk c a)) :=
 Ybb hV _ [] a List.nodup_nil (fun s h=>by cases h) (fun s h=>by cases h) ha (by simp)
theorem Yba {c:List Ins} {y:Nat} (hV:Zew c):∀ (g:Nat) (seen:List Nat) (a:Nat),seen.Nodup->(∀ s∈seen,s<c.length/\Per c s)->(∀ s∈seen,s≠y->∃ p∈seen.tail,Zap c p=some s)->(∀ h t,seen=h::t->Zap c h=some a)->(seen=[]->a=y)->Per c a->a<c.length->c.length+1<=seen.length+g ->
 Zjf c g seen a=y
 | 0,seen,a,hd,hl,_,_,_,_,_,hg=>by
   have:=Zdq _ _ hd (fun s h=>(hl s h).1)
   omega
 | g+1,seen,a,hd,hl,hc,hh,h0,hp,ha,hg=>by
   unfold Zjf
   by_cases hm:a∈seen
   · rw [if_pos hm]
     refine Classical.byContradiction fun hne => ?_
     cases seen with
     | nil=>cases hm
     | cons h t =>
       obtain ⟨p,hp1,hp2⟩:=hc a hm hne
       have e:=Yuh (hl p (List.mem_cons_of_mem _ hp1)).2 (hl h (List.mem_cons_self ..)).2 hp2 (hh h t rfl)
       exact (List.nodup_cons.1 hd).1 (e ▸ hp1)
   · rw [if_neg hm]
     obtain ⟨b,hst⟩:=Zrf hp
     rw [hst]
     simp only []
     refine Yba hV g (a::seen) b (List.nodup_cons.2 ⟨hm,hd⟩) (fun s h => ?_) (fun s h hne => ?_) (fun h t e => ?_) (fun e=>by cases e) (Zre hp hst) (hV a ha b hst) (by simp;omega)
     · rcases List.mem_cons.1 h with rfl|h
       · exact ⟨ha,hp⟩
       · exact hl s h
     · rw [List.tail_cons]
       rcases List.mem_cons.1 h with rfl|h
       · cases seen with
         | nil=>exact absurd (h0 rfl) hne
         | cons q t=>exact ⟨q,List.mem_cons_self ..,hh q t rfl⟩
       · obtain ⟨p,hp1,hp2⟩:=hc s h hne
         exact ⟨p,List.mem_of_mem_tail hp1,hp2⟩
     · injection e with e1 e2
       subst e1
       exact hst
theorem Ykg {c:List Ins} (hV:Zew c) {y:Nat} (hp:Per c y) (hy:y<c.length):Zhk c y=y :=
 Yba hV _ [] y List.nodup_nil (fun s h=>by cases h) (fun s h=>by cases h) (fun h t e=>by cases e) (fun _=>rfl) hp hy (by simp)
theorem Ypx {c:List Ins} {y:Nat} (h:Zap c y=none):Zhk c y=y:=by
 unfold Zhk
 rw [Zjf,if_neg (by simp),h]
theorem Zef (c:List Ins):(Yh c).length=c.length:=by simp [Yh,reJ]
theorem Ztk (c:List Ins) {a:Nat} (ha:a<c.length):Zn (Yh c) a=if jmp (Zn c a).1=true then ((Zn c a).1,((Zhk c (Zn c a).2.toNat:Nat):Int)) else Zn c a:=by
 unfold Zn Yh reJ
 rw [List.getD_eq_getElem?_getD,List.getElem?_map,List.getElem?_eq_getElem ha,List.getD_eq_getElem?_getD,List.getElem?_eq_getElem ha]
 rfl
theorem Yfg (c:List Ins) {a:Nat} (ha:a<c.length):(Zn (Yh c) a).1=(Zn c a).1:=by
 rw [Ztk c ha];split <;> rfl
theorem Zhn (c:List Ins) {a:Nat} (ha:a<c.length):Zap (Yh c) a=if (Zn c a).1=0 then some (a+1) else if (Zn c a).1=14 then some (Zhk c (Zn c a).2.toNat) else none:=by
 unfold Zap
 rw [Yfg c ha]
 by_cases h0:(Zn c a).1=0
 · rw [if_pos h0,if_pos h0]
 · rw [if_neg h0,if_neg h0]
   by_cases h1:(Zn c a).1=14
   · rw [if_pos h1,if_pos h1,Ztk c ha,if_pos (by rw [h1];rfl)];simp
   · rw [if_neg h1,if_neg h1]
theorem Yfh {c:List Ins} (hV:Zew c):Zew (Yh c):=by
 intro a ha b hb
 rw [Zef] at ha ⊢
 rw [Zhn c ha] at hb
 have hv:=hV a ha
 unfold Zap at hv
 by_cases h0:(Zn c a).1=0
 · rw [if_pos h0] at hb hv
   injection hb with hb
   subst hb
   exact hv _ rfl
 · rw [if_neg h0] at hb hv
   by_cases h1:(Zn c a).1=14
   · rw [if_pos h1] at hb hv
     injection hb with hb
     subst hb
     exact (Zyh hV (hv _ rfl)).1
   · rw [if_neg h1] at hb;cases hb
theorem Ybw {c:List Ins} (hV:Zew c) {a:Nat} (ha:a<c.length) (hp:Per c a):Zap (Yh c) a=Zap c a:=by
 rw [Zhn c ha]
 obtain ⟨b,hb⟩:=Zrf hp
 have hq:=Zre hp hb
 have hbl:=hV a ha b hb
 rw [hb]
 unfold Zap at hb
 by_cases h0:(Zn c a).1=0
 · rw [if_pos h0] at hb ⊢;exact hb
 · rw [if_neg h0] at hb ⊢
   by_cases h1:(Zn c a).1=14
   · rw [if_pos h1] at hb ⊢
     injection hb with hb
     rw [hb,Ykg hV hq hbl]
   · rw [if_neg h1] at hb;cases hb
theorem Ztj {c:List Ins} (hV:Zew c):∀ (m:Nat) (a:Nat),a<c.length->Per c a->itE (Yh c) m a=itE c m a
 | 0,a,_,_=>rfl
 | m+1,a,ha,hp=>by
   rw [itE,itE,Ybw hV ha hp]
   obtain ⟨b,hb⟩:=Zrf hp
   rw [hb,Option.bind_some,Option.bind_some,Ztj hV m b (hV a ha b hb) (Zre hp hb)]
theorem Yby {c:List Ins} (hV:Zew c) {a:Nat} (ha:a<c.length):Zhk (Yh c) (Zhk c a)=Zhk c a:=by
 obtain ⟨hl,h|h⟩:=Zyh hV ha
 · refine Ypx ?_
   rw [Zhn c hl]
   unfold Zap at h
   by_cases h0:(Zn c (Zhk c a)).1=0
   · rw [if_pos h0] at h;cases h
   · rw [if_neg h0] at h ⊢
     by_cases h1:(Zn c (Zhk c a)).1=14
     · rw [if_pos h1] at h;cases h
     · rw [if_neg h1]
 · refine Ykg (Yfh hV) ?_ (by rw [Zef];exact hl)
   obtain ⟨m,hm⟩:=h
   exact ⟨m,by rw [Ztj hV _ _ hl ⟨m,hm⟩,hm]⟩
end Go.Proofs.Ythlkflagancdfaa.OT
namespace Go.Proofs.Ythlkflagancdfaa.CK
open Go.RowKit Go.Great
def shapeT:List (ByteArray × Int × Int × Int):=[
 (⟨#[110,111,112]⟩,0,0,0),
 (⟨#[104,97,108,116]⟩,0,1,0),
 (⟨#[97,98,111,114,116]⟩,0,1,0),
 (⟨#[110,117,109]⟩,1,0,1),
 (⟨#[112,111,112]⟩,0,1,0),
 (⟨#[99,111,112,121]⟩,6,0,1),
 (⟨#[115,119,97,112]⟩,0,2,2),
 (⟨#[103,101,116]⟩,2,0,1),
 (⟨#[115,101,116]⟩,2,1,0),
 (⟨#[108,111,97,100]⟩,0,1,1),
 (⟨#[115,116,111,114,101]⟩,0,2,0),
 (⟨#[108,111,97,100,56]⟩,0,1,1),
 (⟨#[115,116,111,114,101,56]⟩,0,2,0),
 (⟨#[115,105,122,101]⟩,0,0,1),
 (⟨#[106,117,109,112]⟩,3,0,0),
 (⟨#[122,101,114,111]⟩,3,1,0),
 (⟨#[110,111,116,122,101,114,111]⟩,3,1,0),
 (⟨#[99,97,108,108]⟩,4,(-1),(-1)),
 (⟨#[114,101,116]⟩,0,(-1),0),
 (⟨#[115,121,115]⟩,5,(-1),1),
 (⟨#[97,100,100]⟩,0,2,1),
 (⟨#[115,117,98]⟩,0,2,1),
 (⟨#[109,117,108]⟩,0,2,1),
 (⟨#[100,105,118]⟩,0,2,1),
 (⟨#[114,101,109]⟩,0,2,1),
 (⟨#[97,110,100]⟩,0,2,1),
 (⟨#[111,114]⟩,0,2,1),
 (⟨#[120,111,114]⟩,0,2,1),
 (⟨#[115,104,108]⟩,0,2,1),
 (⟨#[115,104,114]⟩,0,2,1),
 (⟨#[117,115,104,114]⟩,0,2,1),
 (⟨#[101,113]⟩,0,2,1),
 (⟨#[108,116]⟩,0,2,1),
 (⟨#[117,108,116]⟩,0,2,1),
 (⟨#[110,101,103]⟩,0,1,1),
 (⟨#[110,111,116]⟩,0,1,1),
 (⟨#[102,97,100,100]⟩,0,2,1),
 (⟨#[102,115,117,98]⟩,0,2,1),
 (⟨#[102,109,117,108]⟩,0,2,1),
 (⟨#[102,100,105,118]⟩,0,2,1),
 (⟨#[102,101,113]⟩,0,2,1),
 (⟨#[102,108,116]⟩,0,2,1),
 (⟨#[102,110,101,103]⟩,0,1,1),
 (⟨#[102,114,111,111,116]⟩,0,1,1),
 (⟨#[116,111,102]⟩,0,1,1),
 (⟨#[116,111,105]⟩,0,1,1)]
def Zjw:Array Value := #[
 .string ⟨#[110,111,112]⟩,.int .i64 0,.int .i64 0,.int .i64 0,
 .string ⟨#[104,97,108,116]⟩,.int .i64 0,.int .i64 1,.int .i64 0,
 .string ⟨#[97,98,111,114,116]⟩,.int .i64 0,.int .i64 1,.int .i64 0,
 .string ⟨#[110,117,109]⟩,.int .i64 1,.int .i64 0,.int .i64 1,
 .string ⟨#[112,111,112]⟩,.int .i64 0,.int .i64 1,.int .i64 0,
 .string ⟨#[99,111,112,121]⟩,.int .i64 6,.int .i64 0,.int .i64 1,
 .string ⟨#[115,119,97,112]⟩,.int .i64 0,.int .i64 2,.int .i64 2,
 .string ⟨#[103,101,116]⟩,.int .i64 2,.int .i64 0,.int .i64 1,
 .string ⟨#[115,101,116]⟩,.int .i64 2,.int .i64 1,.int .i64 0,
 .string ⟨#[108,111,97,100]⟩,.int .i64 0,.int .i64 1,.int .i64 1,
 .string ⟨#[115,116,111,114,101]⟩,.int .i64 0,.int .i64 2,.int .i64 0,
 .string ⟨#[108,111,97,100,56]⟩,.int .i64 0,.int .i64 1,.int .i64 1,
 .string ⟨#[115,116,111,114,101,56]⟩,.int .i64 0,.int .i64 2,.int .i64 0,
 .string ⟨#[115,105,122,101]⟩,.int .i64 0,.int .i64 0,.int .i64 1,
 .string ⟨#[106,117,109,112]⟩,.int .i64 3,.int .i64 0,.int .i64 0,
 .string ⟨#[122,101,114,111]⟩,.int .i64 3,.int .i64 1,.int .i64 0,
 .string ⟨#[110,111,116,122,101,114,111]⟩,.int .i64 3,.int .i64 1,.int .i64 0,
 .string ⟨#[99,97,108,108]⟩,.int .i64 4,.int .i64 (-1),.int .i64 (-1),
 .string ⟨#[114,101,116]⟩,.int .i64 0,.int .i64 (-1),.int .i64 0,
 .string ⟨#[115,121,115]⟩,.int .i64 5,.int .i64 (-1),.int .i64 1,
 .string ⟨#[97,100,100]⟩,.int .i64 0,.int .i64 2,.int .i64 1,
 .string ⟨#[115,117,98]⟩,.int .i64 0,.int .i64 2,.int .i64 1,
 .string ⟨#[109,117,108]⟩,.int .i64 0,.int .i64 2,.int .i64 1,
 .string ⟨#[100,105,118]⟩,.int .i64 0,.int .i64 2,.int .i64 1,
 .string ⟨#[114,101,109]⟩,.int .i64 0,.int .i64 2,.int .i64 1,
 .string ⟨#[97,110,100]⟩,.int .i64 0,.int .i64 2,.int .i64 1,
 .string ⟨#[111,114]⟩,.int .i64 0,.int .i64 2,.int .i64 1,
 .string ⟨#[120,111,114]⟩,.int .i64 0,.int .i64 2,.int .i64 1,
 .string ⟨#[115,104,108]⟩,.int .i64 0,.int .i64 2,.int .i64 1,
 .string ⟨#[115,104,114]⟩,.int .i64 0,.int .i64 2,.int .i64 1,
 .string ⟨#[117,115,104,114]⟩,.int .i64 0,.int .i64 2,.int .i64 1,
 .string ⟨#[101,113]⟩,.int .i64 0,.int .i64 2,.int .i64 1,
 .string ⟨#[108,116]⟩,.int .i64 0,.int .i64 2,.int .i64 1,
 .string ⟨#[117,108,116]⟩,.int .i64 0,.int .i64 2,.int .i64 1,
 .string ⟨#[110,101,103]⟩,.int .i64 0,.int .i64 1,.int .i64 1,
 .string ⟨#[110,111,116]⟩,.int .i64 0,.int .i64 1,.int .i64 1,
 .string ⟨#[102,97,100,100]⟩,.int .i64 0,.int .i64 2,.int .i64 1,
 .string ⟨#[102,115,117,98]⟩,.int .i64 0,.int .i64 2,.int .i64 1,
 .string ⟨#[102,109,117,108]⟩,.int .i64 0,.int .i64 2,.int .i64 1,
 .string ⟨#[102,100,105,118]⟩,.int .i64 0,.int .i64 2,.int .i64 1,
 .string ⟨#[102,101,113]⟩,.int .i64 0,.int .i64 2,.int .i64 1,
 .string ⟨#[102,108,116]⟩,.int .i64 0,.int .i64 2,.int .i64 1,
 .string ⟨#[102,110,101,103]⟩,.int .i64 0,.int .i64 1,.int .i64 1,
 .string ⟨#[102,114,111,111,116]⟩,.int .i64 0,.int .i64 1,.int .i64 1,
 .string ⟨#[116,111,102]⟩,.int .i64 0,.int .i64 1,.int .i64 1,
 .string ⟨#[116,111,105]⟩,.int .i64 0,.int .i64 1,.int .i64 1]
def Zsl:List (ByteArray × Int × Int × Int)->List Value
 | []=>[]
 | x::r => .string x.1 :: .int .i64 x.2.1 :: .int .i64 x.2.2.1 :: .int .i64 x.2.2.2::Zsl r
theorem Zve:∀ (l:List (ByteArray × Int × Int × Int)) (i:Nat) (nm:ByteArray) (o t g:Int),l[i]? = some (nm,o,t,g)->(Zsl l)[i*4]? = some (.string nm)/\(Zsl l)[i*4+1]? = some (.int .i64 o)/\(Zsl l)[i*4+2]? = some (.int .i64 t)/\(Zsl l)[i*4+3]? = some (.int .i64 g)
 | [],i,_,_,_,_,h=>by simp at h
 | x::r,0,_,_,_,_,h=>by simp at h;subst h;simp [Zsl]
 | x::r,i+1,a,b,c,d,h=>by
   obtain ⟨h1,h2,h3,h4⟩:=Zve r i a b c d (by simpa using h)
   have e:(i+1)*4=i*4+1+1+1+1:=by omega
   rw [e]
   simp only [Zsl]
   exact ⟨by simpa using h1,by simpa using h2,by simpa using h3,by simpa using h4⟩
theorem Yce:Zjw=(Zsl shapeT).toArray:=by rfl
theorem Ygc:shapeT.length=46:=by rfl
theorem Zqg (nm:ByteArray) (w:World):Calls Try.prog 77 #[.string nm] w fun e w'=>e = .returned (.agg #[.string nm,.int .i64 0,.int .i64 2,.int .i64 1])/\w.grownBy w' none:=by
 go_enter Try.func77,Try.ntmps77
 go_wp2
 (try simp only [Exit.inBlock,Exit.then])
 refine bodyPost_ret (v := .agg #[.string nm,.int .i64 0,.int .i64 2,.int .i64 1]) ?_ rfl ⟨rfl,?_⟩
 · rw [Yq rfl]
   go_simp
 · exact Ga _ _ _
theorem Zrj (nm:ByteArray) (w:World):Calls Try.prog 78 #[.string nm] w fun e w'=>e = .returned (.agg #[.string nm,.int .i64 0,.int .i64 1,.int .i64 1])/\w.grownBy w' none:=by
 go_enter Try.func78,Try.ntmps78
 go_wp2
 (try simp only [Exit.inBlock,Exit.then])
 refine bodyPost_ret (v := .agg #[.string nm,.int .i64 0,.int .i64 1,.int .i64 1]) ?_ rfl ⟨rfl,?_⟩
 · rw [Yq rfl]
   go_simp
 · exact Ga _ _ _
def Zjo (w:World) (S:Nat):Prop:=S<w.heap.size/\∀ (i:Nat) (v:Value),Zjw[i]? = some v->w.cell? ⟨S,i,none⟩=some v
theorem Zij {w w':World} {S:Nat} {r:Option Nat} (h:Zjo w S) (g:w.grownBy w' r) (hr:some S≠r):Zjo w' S:=⟨Nat.lt_of_lt_of_le h.1 g.size,fun i v hi=>g.cell (h.2 i v hi) hr⟩
theorem Zox (w:World):Calls Try.prog 59 #[] w fun e w'=>∃ S,e = .returned (.slice (some ⟨S,0,none⟩) 46 46)/\w.grownBy w' none/\w.heap.size<=S/\Zjo w' S:=by
 have G:=Hq (Zc w none)
 have TW:=Hq Zqg
 have ON:=Hq Zrj
 go_enter Try.func59,Try.ntmps59
 go_wp2_with (first
  | (go_at_call 77;refine (TW.out _ _).mono ?_;rintro e w1 ⟨rfl,hg⟩;replace G:=Hq (Za G.out hg);clear hg)
  | (go_at_call 78;refine (ON.out _ _).mono ?_;rintro e w1 ⟨rfl,hg⟩;replace G:=Hq (Za G.out hg);clear hg)
  | (refine wpList_buildSliceTo rfl 112 115 46 _ rfl w1.heap.size rfl (some 47) rfl Try.underlying112 Zjw (by kernel_rfl) ?_))
 go_ret
 exact ⟨_,rfl,Za G.out (Ga _ _ none),G.out.size,by simp,fun i v h=>by rw [World.cell?_alloc_at (hn:=rfl)];exact h⟩
theorem Yri (L n:Nat) (hn:n<L) (hL:L<1000) (b:Nat) (x:ByteArray) (y t u:Int) (w:World) (hb:b<w.heap.size) (h0:w.cell? ⟨b,n*4,none⟩=some (.string x)) (h1:w.cell? ⟨b,n*4+1,none⟩=some (.int .i64 y)) (h2:w.cell? ⟨b,n*4+2,none⟩=some (.int .i64 t)) (h3:w.cell? ⟨b,n*4+3,none⟩=some (.int .i64 u)) :
 Calls Try.prog 60 #[.slice (some ⟨b,0,none⟩) L L,.int .i64 n] w fun e w'=>e = .returned (.tuple #[.agg #[.string x,.int .i64 y,.int .i64 t,.int .i64 u],.bool true])/\w.grownBy w' none:=by
 have hni:(n:Int)<(L:Int):=by omega
 go_enter Try.func60,Try.ntmps60
 go_wp2
 (try simp only [Exit.inBlock,Exit.then])
 refine bodyPost_ret (v := .tuple #[.agg #[.string x,.int .i64 y,.int .i64 t,.int .i64 u],.bool true]) ?_ rfl ⟨rfl,Ga _ _ _⟩
 rw [results_cell_tmp rfl]
 go_simp
theorem Ytr (L:Nat) (n:Int) (hn:n<0\/(L:Int)<=n) (hL:L<1000) (b:Nat) (w:World) :
 Calls Try.prog 60 #[.slice (some ⟨b,0,none⟩) L L,.int .i64 n] w fun e w'=>e = .returned (.tuple #[.agg #[.string ⟨#[]⟩,.int .i64 0,.int .i64 0,.int .i64 0],.bool false])/\w.grownBy w' none:=by
 rcases (by omega:n<0\/(0<=n/\(L:Int)<=n)) with hn|⟨hn0,hn⟩
 all_goals
  go_enter Try.func60,Try.ntmps60
  go_wp2
  (try simp only [Exit.inBlock,Exit.then])
  refine bodyPost_ret (v := .tuple #[.agg #[.string ⟨#[]⟩,.int .i64 0,.int .i64 0,.int .i64 0],.bool false]) ?_ rfl ⟨rfl,Ga _ _ _⟩
  rw [results_cell_tmp rfl]
  go_simp
def Ja (op:Int):Option (ByteArray × Int × Int × Int):=if 0<=op/\op<46 then shapeT[op.toNat]? else none
theorem Zgh {op:Int} (h:0<=op/\op<46):∃ (n:Nat) (x:ByteArray × Int × Int × Int),op=n/\n<46/\shapeT[n]? = some x/\Ja op=some x:=by
 obtain ⟨n,rfl⟩:=Int.eq_ofNat_of_zero_le h.1
 have hn:n<shapeT.length:=by rw [Ygc];omega
 refine ⟨n,shapeT[n],rfl,by omega,List.getElem?_eq_getElem hn,?_⟩
 unfold Ja
 rw [if_pos h,Int.toNat_natCast]
 exact List.getElem?_eq_getElem hn
theorem Zgi {op:Int} (h:¬ (0<=op/\op<46)):Ja op=none:=by unfold Ja;rw [if_neg h]
def Zoy:Option (ByteArray × Int × Int × Int)->Value
 | some x => .tuple #[.agg #[.string x.1,.int .i64 x.2.1,.int .i64 x.2.2.1,.int .i64 x.2.2.2],.bool true]
 | none => .tuple #[.agg #[.string ⟨#[]⟩,.int .i64 0,.int .i64 0,.int .i64 0],.bool false]
theorem Ztp (op:Int) (S:Nat) (w:World) (h:Zjo w S) :
 Calls Try.prog 60 #[.slice (some ⟨S,0,none⟩) 46 46,.int .i64 op] w fun e w'=>e = .returned (Zoy (Ja op))/\w.grownBy w' none:=by
 by_cases hop:0<=op/\op<46
 · obtain ⟨n,⟨nm,o,t,g⟩,rfl,hn,hx,hs⟩:=Zgh hop
   rw [hs]
   obtain ⟨h1,h2,h3,h4⟩:=Zve shapeT n nm o t g hx
   have hc:∀ i v,(Zsl shapeT)[i]? = some v->w.cell? ⟨S,i,none⟩=some v:=fun i v hi=>h.2 i v (by rw [Yce,List.getElem?_toArray];exact hi)
   exact Yri 46 n hn (by decide) S nm o t g w h.1 (hc _ _ h1) (hc _ _ h2) (hc _ _ h3) (hc _ _ h4)
 · rw [Zgi hop]
   exact Ytr 46 op (by omega) (by decide) S w
theorem Yzq (op:Int) (w:World):Calls Try.prog 82 #[.int .i64 op] w fun e w'=>e = .returned (Zoy (Ja op))/\w.grownBy w' none:=by
 have C:=Hq Zox
 have R:=Hq (Ztp op)
 obtain ⟨nm,o,t,g,b,hv⟩:∃ nm o t g b,Zoy (Ja op) = .tuple #[.agg #[.string nm,.int .i64 o,.int .i64 t,.int .i64 g],.bool b]:=by
  cases Ja op with
  | none=>exact ⟨_,_,_,_,_,rfl⟩
  | some x=>exact ⟨_,_,_,_,_,rfl⟩
 rw [hv] at R ⊢
 clear hv
 go_enter Try.func82,Try.ntmps82
 go_wp2_with (first
  | (go_at_call 59;refine (C.out _).mono ?_;rintro e w1 ⟨S,rfl,hg,hS,hsh⟩;have G1:=Hq hg;have SH:=Hq hsh;clear hg hsh)
  | (go_at_call 60;refine (R.out _ _ SH.out).mono ?_;rintro e w2 ⟨rfl,hg2⟩;have G2:=Hq hg2;have hb:=Zb (Zb (heap_alloc_new w (.cells #[.string ⟨#[]⟩,.int .i64 0,.int .i64 0,.int .i64 0] 115)) G1.out (by simp)) hg2 (by simp);have c0:=Cq w2 _ 0 _ _ _ hb;have c1:=Cq w2 _ 1 _ _ _ hb;have c2:=Cq w2 _ 2 _ _ _ hb;have c3:=Cq w2 _ 3 _ _ _ hb;have z0:=frozen_of_row w2 _ 0 _ _ hb;have z1:=frozen_of_row w2 _ 1 _ _ hb;have z2:=frozen_of_row w2 _ 2 _ _ hb;have z3:=frozen_of_row w2 _ 3 _ _ hb;have HB:=Hq hb;clear hg2 hb))
 (try simp only [Exit.inBlock,Exit.then])
 have hq:((((w2.setCell ⟨w.heap.size,0,none⟩ (.string nm)).setCell ⟨w.heap.size,1,none⟩ (.int .i64 o)).setCell ⟨w.heap.size,2,none⟩ (.int .i64 t)).setCell ⟨w.heap.size,3,none⟩ (.int .i64 g)).heap[w.heap.size]? = some (.cells #[.string nm,.int .i64 o,.int .i64 t,.int .i64 g] 115 (0,0)):=by
  rw [Zg (Zg (Zg (Zg HB.out)))];rfl
 refine bodyPost_ret (v := .tuple #[.agg #[.string nm,.int .i64 o,.int .i64 t,.int .i64 g],.bool b]) ?_ rfl ⟨rfl,Zd (Zd (Zd (Zd (Za (Za (Ga _ _ _) G1.out) G2.out) (Nat.le_refl _)) (Nat.le_refl _)) (Nat.le_refl _)) (Nat.le_refl _)⟩
 clear c0 c1 c2 c3 z0 z1 z2 z3
 have d0:=Cq _ _ 0 _ _ _ hq
 have d1:=Cq _ _ 1 _ _ _ hq
 have d2:=Cq _ _ 2 _ _ _ hq
 have d3:=Cq _ _ 3 _ _ _ hq
 clear hq
 generalize (((w2.setCell ⟨w.heap.size,0,none⟩ (.string nm)).setCell ⟨w.heap.size,1,none⟩ (.int .i64 o)).setCell ⟨w.heap.size,2,none⟩ (.int .i64 t)).setCell ⟨w.heap.size,3,none⟩ (.int .i64 g)=w9 at *
 rw [results_cell_tmp rfl]
 go_simp
section
variable {P:Program} {ops:Array Oper} {Q:Exit->Act->World->Prop}
theorem Yeb (hdag:∀ (j:Nat) (o:Oper),ops[j]? = some o->∀ e∈o.after,e.on<j) {l:Array Bool} (h:Region.ready .any ops l=[]) (hsz:l.size=ops.size):∀ j,j<ops.size->l.getD j false=true:=by
 intro j
 induction j using Nat.strongRecOn with
 | _ j ih =>
   intro hj
   by_cases hl:l.getD j false=true
   · exact hl
   · exfalso
     have hlt:j<l.size:=by omega
     have h1:l.getD j true=false:=by
      simp only [Array.getD,hlt,dif_pos] at hl ⊢
      simpa using hl
     have:j∈Region.ready .any ops l:=mem_ready.2 ⟨h1,ops[j],by simp [hj],fun e he _=>ih e.on (hdag j ops[j] (by simp [hj]) e he) (Nat.lt_trans (hdag j ops[j] (by simp [hj]) e he) hj)⟩
     rw [h] at this
     cases this
theorem Zlv (J:Array Bool->Act->World->Prop)
 (step:∀ l a w i,J l a w->i∈Region.ready .any ops l->wpOp P ops Q i (fun a' w'=>J (l.setIfInBounds i true) a' w') a w)
 (fin:∀ l a w,J l a w->(Region.ready .any ops l=[])->Q .normal a w) :
 ∀ fuel l a w,J l a w->l.toList.count false<=fuel->wpAny P .any ops Q fuel l a w
 | 0,l,a,w,hJ,hc=>by
   have hnil:Region.ready .any ops l=[]:=by
    cases hr:Region.ready .any ops l with
    | nil=>rfl
    | cons i r =>
      exfalso
      have hi:i∈Region.ready .any ops l:=by rw [hr];exact List.mem_cons_self ..
      have h1:=(mem_ready.1 hi).1
      have hlt:i<l.size:=by
       rcases Nat.lt_or_ge i l.size with h'|h'
       · exact h'
       · simp [Array.getElem?_eq_none h'] at h1
      have hm:false∈l.toList:=by
       have:l[i]=false:=by simpa [hlt] using h1
       rw [<- this];exact Array.mem_toList_iff.2 (Array.getElem_mem hlt)
      have:=List.count_pos_iff.2 hm
      omega
   exact ⟨hnil,fin l a w hJ hnil⟩
 | fuel+1,l,a,w,hJ,hc=>by
   refine ⟨fun h=>fin l a w hJ h,fun i hi=>wpOp_mono (fun a' w' hJ'=>Zlv J step fin fuel _ a' w' hJ' ?_) (step l a w i hJ hi)⟩
   have h1:=(mem_ready.1 hi).1
   have hlt:i<l.size:=by
    rcases Nat.lt_or_ge i l.size with h'|h'
    · exact h'
    · simp [Array.getElem?_eq_none h'] at h1
   have hf:l[i]=false:=by simpa [hlt] using h1
   have hm:false∈l.toList:=by rw [<- hf];exact Array.mem_toList_iff.2 (Array.getElem_mem hlt)
   have hpos:=List.count_pos_iff.2 hm
   rw [Array.toList_setIfInBounds,List.count_set (by simpa using hlt)]
   have e1:(l.toList[i]'(by simpa using hlt) == false)=true:=by rw [Array.getElem_toList,hf];rfl
   rw [if_pos e1,if_neg (by decide)]
   omega
end
theorem Zl {ops:Array Oper} {l:Array Bool} {i:Nat} (hi:i∈Region.ready .any ops l) (n:Nat) (h:((ops[i]?).any fun o=>o.after.any fun e=>e.on == n && Region.binds .any e)=true):l.getD n false=true:=by
 obtain ⟨_,o,ho,haf⟩:=mem_ready.1 hi
 rw [ho] at h
 obtain ⟨e,he,hb⟩:=Array.any_eq_true'.1 (show o.after.any (fun e=>e.on == n && Region.binds .any e)=true from h)
 simp only [Bool.and_eq_true,beq_iff_eq] at hb
 rw [<- hb.1]
 exact haf e he hb.2
theorem Xaz {ops:Array Oper} (h:((List.range ops.size).all fun j=>(ops[j]?).all fun o=>o.after.all fun e=>decide (e.on<j))=true):∀ (j:Nat) (o:Oper),ops[j]? = some o->∀ e∈o.after,e.on<j:=by
 intro j o ho e he
 have hj:j<ops.size:=(Gs ho)
 have h1:=List.all_eq_true.1 h j (List.mem_range.2 hj)
 rw [ho] at h1
 have h2:=Array.all_eq_true'.1 (show o.after.all (fun e=>decide (e.on<j))=true from h1) e he
 exact of_decide_eq_true h2
theorem Yd (l:Array Bool) (i j:Nat) (hi:i<l.size):(l.setIfInBounds i true).getD j false=if j=i then true else l.getD j false:=by
 by_cases h:j=i
 · subst h;simp [hi]
 · rw [if_neg h];simp [Array.getD_eq_getD_getElem?,Array.getElem?_setIfInBounds_ne (Ne.symm h)]
def tm (a:Act) (d:Nat):Value:=a.tmps.getD d undef
theorem Yxw {a:Act} {d n:Nat} {v:Value} (hs:a.tmps.size=n) (hd:d<n) (e:Nat):tm (a.put (some d) v) e=if e=d then v else tm a e:=by
 unfold tm Act.put
 by_cases h:e=d
 · subst h;simp [hs,hd]
 · rw [if_neg h];simp [Array.getD_eq_getD_getElem?,Array.getElem?_setIfInBounds_ne (Ne.symm h)]
theorem Yms {a:Act} {d:Option Tmp} {n:Nat} {v:Value} (hs:a.tmps.size=n):(a.put d v).tmps.size=n:=by cases d <;> simp [Act.put,hs]
section
variable {ops:Array Oper} {Q:Exit->Act->World->Prop} {i:Nat} {a:Act} {w:World}
theorem Zec {K:Act->World->Prop} {o:Oper} {v:Value} {w':World} (ho:ops[i]? = some o) (hg:o.guard=none) (hrun:(execOp a.eval o).run Try.prog w = .ok (.value v) w') (h:K (a.put o.dst v) w'):wpOp Try.prog ops Q i K a w:=by
 unfold wpOp
 simp only [ho,Region.wanted,hg]
 refine Or.inl ?_
 unfold Oper.wp
 rw [hrun,Oper.upon_value]
 exact h
theorem Zgd {K:Act->World->Prop} {o:Oper} {w':World} (ho:ops[i]? = some o) (hg:o.guard=none) (hd:o.dst=none) (hrun:(execOp a.eval o).run Try.prog w = .ok .skip w') (h:K a w'):wpOp Try.prog ops Q i K a w:=by
 unfold wpOp
 simp only [ho,Region.wanted,hg]
 refine Or.inl ?_
 unfold Oper.wp
 rw [hrun]
 simp only [Oper.upon,hd]
 exact h
theorem Ybq {K:Act->World->Prop} {o:Oper} {f:FuncId} {args:Array Value} (ho:ops[i]? = some o) (hg:o.guard=none) (hrun:(execOp a.eval o).run Try.prog w = .ok (.enter f args) w)
 (h:Calls Try.prog f args w fun e w'=>∃ v,e = .returned v/\K (a.put o.dst v) w'):wpOp Try.prog ops Q i K a w:=by
 unfold wpOp
 simp only [ho,Region.wanted,hg]
 refine Or.inl ?_
 unfold Oper.wp
 rw [hrun]
 simp only [Oper.upon]
 refine h.mono fun e w' he => ?_
 obtain ⟨v,rfl,hK⟩:=he
 exact hK
end
def fnV (f:FuncId) (caps:Array Value):Value := .func (.func f) #[] caps
def Yeg (b:Nat):Value := .pointer (some ⟨b,0,none⟩)
def Zbp (lo:Nat) (n:Int) (v:Value) (w:World):Prop:=∃ b,v = .agg #[fnV 89 #[Yeg b],fnV 61 #[],fnV 90 #[]]/\lo<=b/\w.cell? ⟨b,0,none⟩=some (.int .i64 n)
def Yoo:Value := .agg #[fnV 70 #[],fnV 71 #[],fnV 72 #[]]
def Xbx:Value := .agg #[fnV 73 #[],fnV 74 #[],fnV 75 #[]]
theorem Ylg (n:Int) (w:World):Calls Try.prog 76 #[.int .i64 n] w fun e w'=>∃ v,e = .returned v/\w.grownBy w' none/\Zbp w.heap.size n v w':=by
 go_enter Try.func76,Try.ntmps76
 go_wp2
 (try simp only [Exit.inBlock,Exit.then])
 refine bodyPost_ret (v := .agg #[fnV 89 #[Yeg w.heap.size],fnV 61 #[],fnV 90 #[]]) ?_ rfl ⟨_,rfl,Za (Ga _ _ _) (Ga _ _ _),_,rfl,Nat.le_refl _,by simp⟩
 rw [Yq rfl]
 go_simp
 exact ⟨rfl,rfl,rfl⟩
def KV (lo:Nat) (k:Nat) (v:Value) (w:World):Prop :=
 match k with
 | 0=>v=Yoo
 | 1=>v=Xbx
 | 2=>Zbp lo 64 v w
 | 3=>Zbp lo 4096 v w
 | 4=>Zbp lo 64 v w
 | 5=>Zbp lo 5 v w
 | _=>Zbp lo 256 v w
theorem Zdj {lo:Nat} {n:Int} {v:Value} {w w':World} (h:Zbp lo n v w) (g:w.grownBy w' none):Zbp lo n v w':=by
 obtain ⟨b,e,hl,hc⟩:=h;exact ⟨b,e,hl,g.cell hc (by simp)⟩
theorem Yix {lo k:Nat} {v:Value} {w w':World} (h:KV lo k v w) (g:w.grownBy w' none):KV lo k v w':=by
 match k,h with
 | 0,h=>exact h
 | 1,h=>exact h
 | 2,h=>exact Zdj h g
 | 3,h=>exact Zdj h g
 | 4,h=>exact Zdj h g
 | 5,h=>exact Zdj h g
 | _+6,h=>exact Zdj h g
def Zgx (w:World) (lo S:Nat):Prop:=S<w.heap.size/\lo<=S/\∀ k,k<7->∃ a b c,KV lo k (.agg #[a,b,c]) w/\w.cell? ⟨S,k*3,none⟩=some a/\w.cell? ⟨S,k*3+1,none⟩=some b/\w.cell? ⟨S,k*3+2,none⟩=some c
theorem Zko {w w':World} {lo S:Nat} (h:Zgx w lo S) (g:w.grownBy w' none):Zgx w' lo S :=
 ⟨Nat.lt_of_lt_of_le h.1 g.size,h.2.1,fun k hk=>by obtain ⟨a,b,c,h1,h2,h3,h4⟩:=h.2.2 k hk;exact ⟨a,b,c,Yix h1 g,g.cell h2 (by simp),g.cell h3 (by simp),g.cell h4 (by simp)⟩⟩
theorem Zev {lo lo':Nat} {n:Int} {v:Value} {w:World} (h:Zbp lo n v w) (hl:lo'<=lo):Zbp lo' n v w:=by
 obtain ⟨b,e,h1,hc⟩:=h;exact ⟨b,e,Nat.le_trans hl h1,hc⟩
theorem Xet {lo lo' k:Nat} {v:Value} {w:World} (h:KV lo k v w) (hl:lo'<=lo):KV lo' k v w:=by
 match k,h with
 | 0,h=>exact h
 | 1,h=>exact h
 | 2,h=>exact Zev h hl
 | 3,h=>exact Zev h hl
 | 4,h=>exact Zev h hl
 | 5,h=>exact Zev h hl
 | _+6,h=>exact Zev h hl
theorem Yde {w:World} {lo lo' S:Nat} (h:Zgx w lo S) (hl:lo'<=lo):Zgx w lo' S :=
 ⟨h.1,Nat.le_trans hl h.2.1,fun k hk=>by obtain ⟨a,b,c,h1,h2⟩:=h.2.2 k hk;exact ⟨a,b,c,Xet h1 hl,h2⟩⟩
def SlO (lo j:Nat) (v:Value) (w:World):Prop :=
 if j<7 then KV lo j v w else ∃ S,v = .slice (some ⟨S,0,none⟩) 7 7/\Zgx w lo S
theorem Ymr {lo j:Nat} {v:Value} {w w':World} (h:SlO lo j v w) (g:w.grownBy w' none):SlO lo j v w':=by
 unfold SlO at *
 split
 · rename_i hj;rw [if_pos hj] at h;exact Yix h g
 · rename_i hj;rw [if_neg hj] at h;obtain ⟨S,e,hk⟩:=h;exact ⟨S,e,Zko hk g⟩
def dO:Nat->Nat
 | 0=>5|1=>6|2=>7|3=>8|4=>9|5=>10|6=>11|7=>12|_=>0
structure OJ (w1:World) (b1 b2:Nat) (l:Array Bool) (a:Act) (w:World):Prop where
 sz:l.size=9
 ts:a.tmps.size=13
 df:a.defers=[]
 g:w1.grownBy w none
 t1:tm a 1=Yeg b1
 t2:tm a 2=Yeg b2
 sl:∀ j,j<9->l.getD j false=true->SlO w1.heap.size j (tm a (dO j)) w
theorem Yqb:∀ i,i<9->dO i≠1/\dO i≠2/\dO i<13:=by decide
theorem Yqc:∀ i,i<9->∀ j,j<9->i≠j->dO i≠dO j:=by decide
theorem Zzw {w1:World} {b1 b2 i:Nat} {l:Array Bool} {a:Act} {w w':World} {v:Value} (h:OJ w1 b1 b2 l a w) (hi:i<9) (g:w.grownBy w' none) (hv:SlO w1.heap.size i v w'):OJ w1 b1 b2 (l.setIfInBounds i true) (a.put (some (dO i)) v) w':=by
 obtain ⟨f1,f2,fd⟩:=Yqb i hi
 have T:∀ e,tm (a.put (some (dO i)) v) e=if e=dO i then v else tm a e:=fun e=>Yxw h.ts fd e
 have hgs:∀ j,(l.setIfInBounds i true).getD j false=if j=i then true else l.getD j false:=fun j=>Yd l i j (by rw [h.sz];exact hi)
 refine ⟨by simp [h.sz],Yms h.ts,h.df,Za h.g g,by rw [T,if_neg (Ne.symm f1)];exact h.t1,by rw [T,if_neg (Ne.symm f2)];exact h.t2,?_⟩
 intro j hj hl
 rw [hgs] at hl
 by_cases hji:j=i
 · subst hji
   rw [T,if_pos rfl]
   exact hv
 · rw [if_neg hji] at hl
   rw [T,if_neg (fun e=>Yqc i hi j hj (Ne.symm hji) e.symm)]
   exact Ymr (h.sl j hj hl) g
section
variable {ops:Array Oper} {Q:Exit->Act->World->Prop} {w1:World} {b1 b2 i:Nat} {l:Array Bool} {a:Act} {w:World}
theorem Zii {o:Oper} {n:Int} {ts:Array TypeId} (hJ:OJ w1 b1 b2 l a w) (ho:ops[i]? = some o) (hg:o.guard=none) (hop:o.op = .call { callee := .value (.func 76),args := #[.const (.int .i64 n)],argTypes:=ts }) (hdst:o.dst=some (dO i)) (hi:i<9)
 (hv:∀ v w,Zbp w1.heap.size n v w->SlO w1.heap.size i v w):wpOp Try.prog ops Q i (fun a' w'=>OJ w1 b1 b2 (l.setIfInBounds i true) a' w') a w:=by
 refine Ybq ho hg (f:=76) (args := #[.int .i64 n]) (by simp [execOp,hop,Act.eval,go_sem]) ?_
 refine (Ylg n w).mono fun e w' h => ?_
 obtain ⟨v,rfl,g,hb⟩:=h
 refine ⟨v,rfl,?_⟩
 rw [hdst]
 exact Zzw hJ hi g (hv v w' (Zev hb hJ.g.size))
theorem Ygb {o:Oper} {s:Tmp} {b:Nat} {x y z:Value} (hJ:OJ w1 b1 b2 l a w) (ho:ops[i]? = some o) (hg:o.guard=none) (hop:o.op = .load 121 (.tmp s)) (hdst:o.dst=some (dO i)) (hi:i<9) (hs:tm a s=Yeg b)
 (h0:w1.cell? ⟨b,0,none⟩=some x) (h1:w1.cell? ⟨b,1,none⟩=some y) (h2:w1.cell? ⟨b,2,none⟩=some z) (hv:∀ w,SlO w1.heap.size i (.agg #[x,y,z]) w):wpOp Try.prog ops Q i (fun a' w'=>OJ w1 b1 b2 (l.setIfInBounds i true) a' w') a w:=by
 have c0:w.cell? ⟨b,0,none⟩=some x:=hJ.g.cell h0 (by simp)
 have c1:w.cell? ⟨b,1,none⟩=some y:=hJ.g.cell h1 (by simp)
 have c2:w.cell? ⟨b,2,none⟩=some z:=hJ.g.cell h2 (by simp)
 unfold tm at hs
 refine Zec ho hg (v := .agg #[x,y,z]) (w':=w) (by simp [execOp,hop,Act.eval,hs,Yeg,c0,c1,c2,go_sem]) ?_
 rw [hdst]
 exact Zzw hJ hi (Zc _ _) (hv w)
theorem Ydb:(Try.prog.info? 121).map (fun i=>(i.zero,i.size,i.bytes))=some (some (.agg #[.nilFunc,.nilFunc,.nilFunc]),3,24):=by kernel_rfl
theorem Yiw:Try.prog.underlying 110=some (.slice 121):=by kernel_rfl
def Zfw (b:Nat):Value := .agg #[fnV 89 #[Yeg b],fnV 61 #[],fnV 90 #[]]
def Zdh (b2 b3 b4 b5 b6:Nat):Array Value := #[fnV 70 #[],fnV 71 #[],fnV 72 #[],fnV 73 #[],fnV 74 #[],fnV 75 #[],
 fnV 89 #[Yeg b2],fnV 61 #[],fnV 90 #[],fnV 89 #[Yeg b3],fnV 61 #[],fnV 90 #[],
 fnV 89 #[Yeg b4],fnV 61 #[],fnV 90 #[],fnV 89 #[Yeg b5],fnV 61 #[],fnV 90 #[],
 fnV 89 #[Yeg b6],fnV 61 #[],fnV 90 #[]]
theorem Ydc (b2 b3 b4 b5 b6:Nat):Instr.fill (fun i=>some (i*3,3)) ((Array.range (7*3)).map ((Value.agg #[.nilFunc,.nilFunc,.nilFunc]).cells[· % (Value.agg #[.nilFunc,.nilFunc,.nilFunc]).cells.size]!))
 [(0,Yoo),(1,Xbx),(2,Zfw b2),(3,Zfw b3),(4,Zfw b4),(5,Zfw b5),(6,Zfw b6)]=some (Zdh b2 b3 b4 b5 b6):=by kernel_rfl
theorem Ymq {o:Oper} (hJ:OJ w1 b1 b2 l a w) (ho:ops[7]? = some o) (hg:o.guard=none)
 (hop:o.op = .buildSlice 110 7 #[(0,.tmp 5),(1,.tmp 6),(2,.tmp 7),(3,.tmp 8),(4,.tmp 9),(5,.tmp 10),(6,.tmp 11)]) (hdst:o.dst=some 12) (hl:∀ j,j<7->l.getD j false=true) :
 wpOp Try.prog ops Q 7 (fun a' w'=>OJ w1 b1 b2 (l.setIfInBounds 7 true) a' w') a w:=by
 have e0:tm a 5=Yoo:=hJ.sl 0 (by decide) (hl 0 (by decide))
 have e1:tm a 6=Xbx:=hJ.sl 1 (by decide) (hl 1 (by decide))
 obtain ⟨c2,e2,l2,h2⟩:Zbp w1.heap.size 64 (tm a 7) w:=hJ.sl 2 (by decide) (hl 2 (by decide))
 obtain ⟨c3,e3,l3,h3⟩:Zbp w1.heap.size 4096 (tm a 8) w:=hJ.sl 3 (by decide) (hl 3 (by decide))
 obtain ⟨c4,e4,l4,h4⟩:Zbp w1.heap.size 64 (tm a 9) w:=hJ.sl 4 (by decide) (hl 4 (by decide))
 obtain ⟨c5,e5,l5,h5⟩:Zbp w1.heap.size 5 (tm a 10) w:=hJ.sl 5 (by decide) (hl 5 (by decide))
 obtain ⟨c6,e6,l6,h6⟩:Zbp w1.heap.size 256 (tm a 11) w:=hJ.sl 6 (by decide) (hl 6 (by decide))
 obtain ⟨ie,i0,i1,i2,i3⟩:=info_parts Ydb
 have g:w.grownBy (w.alloc (.cells (Zdh c2 c3 c4 c5 c6) 121)) none:=Ga _ _ _
 refine Zec ho hg (v := .slice (some ⟨w.heap.size,0,none⟩) 7 7) (w':=w.alloc (.cells (Zdh c2 c3 c4 c5 c6) 121)) ?_ ?_
 · have hp:((#[(0,.tmp 5),(1,.tmp 6),(2,.tmp 7),(3,.tmp 8),(4,.tmp 9),(5,.tmp 10),(6,.tmp 11)]:Array (Nat × Operand)).map fun (i,x)=>(i,a.eval x)).toList=[(0,Yoo),(1,Xbx),(2,Zfw c2),(3,Zfw c3),(4,Zfw c4),(5,Zfw c5),(6,Zfw c6)]:=by
    unfold tm at e0 e1 e2 e3 e4 e5 e6
    simp only [Array.getD_eq_getD_getElem?] at e0 e1 e2 e3 e4 e5 e6
    simp [Act.eval,e0,e1,e2,e3,e4,e5,e6,Zfw]
   have hr:=run_buildSlice (P:=Try.prog) w 110 121 7 ((#[(0,.tmp 5),(1,.tmp 6),(2,.tmp 7),(3,.tmp 8),(4,.tmp 9),(5,.tmp 10),(6,.tmp 11)]:Array (Nat × Operand)).map fun (i,x)=>(i,a.eval x)) (Zdh c2 c3 c4 c5 c6) ie (.agg #[.nilFunc,.nilFunc,.nilFunc]) Yiw i0 i1 (by rw [i2];decide) (by rw [i2];decide) (by rw [i2,hp];exact Ydc c2 c3 c4 c5 c6)
   unfold execOp
   simp only [hop,Sem.run_bind,hr,Result.andThen_ok]
   rfl
 · rw [hdst]
   refine Zzw (i:=7) hJ (by decide) g ⟨_,rfl,by simp,hJ.g.size,fun k hk => ?_⟩
   have hc:∀ j v,(Zdh c2 c3 c4 c5 c6)[j]? = some v->(w.alloc (.cells (Zdh c2 c3 c4 c5 c6) 121)).cell? ⟨w.heap.size,j,none⟩=some v:=fun j v hj=>by rw [World.cell?_alloc_at (hn:=rfl)];exact hj
   have hb:∀ n c,w1.heap.size<=c->w.cell? ⟨c,0,none⟩=some (.int .i64 n)->Zbp w1.heap.size n (Zfw c) (w.alloc (.cells (Zdh c2 c3 c4 c5 c6) 121)):=fun n c h1 h=>⟨c,rfl,h1,g.cell h (by simp)⟩
   rcases (by omega:k=0\/k=1\/k=2\/k=3\/k=4\/k=5\/k=6) with rfl|rfl|rfl|rfl|rfl|rfl|rfl
   · exact ⟨_,_,_,rfl,hc _ _ rfl,hc _ _ rfl,hc _ _ rfl⟩
   · exact ⟨_,_,_,rfl,hc _ _ rfl,hc _ _ rfl,hc _ _ rfl⟩
   · exact ⟨_,_,_,hb _ _ l2 h2,hc _ _ rfl,hc _ _ rfl,hc _ _ rfl⟩
   · exact ⟨_,_,_,hb _ _ l3 h3,hc _ _ rfl,hc _ _ rfl,hc _ _ rfl⟩
   · exact ⟨_,_,_,hb _ _ l4 h4,hc _ _ rfl,hc _ _ rfl,hc _ _ rfl⟩
   · exact ⟨_,_,_,hb _ _ l5 h5,hc _ _ rfl,hc _ _ rfl,hc _ _ rfl⟩
   · exact ⟨_,_,_,hb _ _ l6 h6,hc _ _ rfl,hc _ _ rfl,hc _ _ rfl⟩
theorem Ytk {o:Oper} (hJ:OJ w1 b1 b2 l a w) (ho:ops[8]? = some o) (hg:o.guard=none) (hop:o.op = .assign (.tmp 12)) (hdst:o.dst=some 0) (hl:l.getD 7 false=true):wpOp Try.prog ops Q 8 (fun a' w'=>OJ w1 b1 b2 (l.setIfInBounds 8 true) a' w') a w:=by
 refine Zec ho hg (v:=tm a 12) (w':=w) (by simp [execOp,hop,Act.eval,tm]) ?_
 rw [hdst]
 exact Zzw (i:=8) hJ (by decide) (Zc _ _) (hJ.sl 7 (by decide) hl)
end
def Zwo (w:World) (e:Ending) (w':World):Prop:=∃ S,e = .returned (.slice (some ⟨S,0,none⟩) 7 7)/\w.grownBy w' none/\Zgx w' w.heap.size S
theorem Zdp (w:World):Calls Try.prog 58 #[] w (Zwo w):=by
 go_enter Try.func58,Try.ntmps58
 go_wp2
 rename_i K hK
 have g1:w.grownBy ((w.alloc (.cells #[.func (.func 70) #[] #[],.func (.func 71) #[] #[],.func (.func 72) #[] #[]] 121)).alloc (.cells #[.func (.func 73) #[] #[],.func (.func 74) #[] #[],.func (.func 75) #[] #[]] 121)) none:=Za (Ga _ _ _) (Ga _ _ _)
 have hb1:=heap_alloc_new w (.cells #[.func (.func 70) #[] #[],.func (.func 71) #[] #[],.func (.func 72) #[] #[]] 121)
 have hb1':=Zb hb1 (Ga _ (.cells #[.func (.func 73) #[] #[],.func (.func 74) #[] #[],.func (.func 75) #[] #[]] 121) none) (by simp)
 have hb2:=Yr w (.cells #[.func (.func 70) #[] #[],.func (.func 71) #[] #[],.func (.func 72) #[] #[]] 121) (.cells #[.func (.func 73) #[] #[],.func (.func 74) #[] #[],.func (.func 75) #[] #[]] 121)
 clear hb1
 generalize (w.alloc (.cells #[.func (.func 70) #[] #[],.func (.func 71) #[] #[],.func (.func 72) #[] #[]] 121)).alloc (.cells #[.func (.func 73) #[] #[],.func (.func 74) #[] #[],.func (.func 75) #[] #[]] 121)=w1 at *
 refine wp_region_any (by kernel_rfl) ?_
 refine Zlv (OJ w1 w.heap.size (w.heap.size+1)) ?step ?fin _ _ _ _ ?start (by simp)
 case start =>
  refine ⟨by simp,by simp,rfl,⟨rfl,rfl,rfl,Nat.le_refl _,fun _ _ _=>rfl⟩,rfl,rfl,?_⟩
  intro j hj h;exfalso;revert h;simp only [List.size_toArray];rw [getD_replicate_false];simp
 case fin =>
  intro l a w' hJ hr
  have hl:=Yeb (Xaz (by kernel_rfl)) hr hJ.sz
  obtain ⟨S,hS,hk⟩:∃ S,tm a 0 = .slice (some ⟨S,0,none⟩) 7 7/\Zgx w' w1.heap.size S:=hJ.sl 8 (by decide) (hl 8 (by decide))
  refine hK _ _ ?_
  go_wp2
  refine bodyPost_ret (v := .slice (some ⟨S,0,none⟩) 7 7) ?_ hJ.df ⟨S,rfl,Za g1 hJ.g,Yde hk g1.size⟩
  rw [results_tmp rfl]
  unfold tm at hS
  rw [hS]
 case step =>
  intro l a w' i hJ hi
  have hi9:i<9:=by
   obtain ⟨_,o,ho,_⟩:=mem_ready.1 hi
   exact (Gs ho)
  rcases (by omega:i=0\/i=1\/i=2\/i=3\/i=4\/i=5\/i=6\/i=7\/i=8) with rfl|rfl|rfl|rfl|rfl|rfl|rfl|rfl|rfl
  · exact Ygb hJ rfl rfl rfl rfl (by decide) hJ.t1 (Cq _ _ _ _ _ _ hb1') (Cq _ _ _ _ _ _ hb1') (Cq _ _ _ _ _ _ hb1') (fun w=>rfl)
  · exact Ygb hJ rfl rfl rfl rfl (by decide) hJ.t2 (Cq _ _ _ _ _ _ hb2) (Cq _ _ _ _ _ _ hb2) (Cq _ _ _ _ _ _ hb2) (fun w=>rfl)
  · exact Zii hJ rfl rfl rfl rfl (by decide) (fun _ _ h=>h)
  · exact Zii hJ rfl rfl rfl rfl (by decide) (fun _ _ h=>h)
  · exact Zii hJ rfl rfl rfl rfl (by decide) (fun _ _ h=>h)
  · exact Zii hJ rfl rfl rfl rfl (by decide) (fun _ _ h=>h)
  · exact Zii hJ rfl rfl rfl rfl (by decide) (fun _ _ h=>h)
  · refine Ymq hJ rfl rfl rfl rfl fun j hj => ?_
    rcases (by omega:j=0\/j=1\/j=2\/j=3\/j=4\/j=5\/j=6) with rfl|rfl|rfl|rfl|rfl|rfl|rfl
    · exact Zl hi 0 (by kernel_rfl)
    · exact Zl hi 1 (by kernel_rfl)
    · exact Zl hi 2 (by kernel_rfl)
    · exact Zl hi 3 (by kernel_rfl)
    · exact Zl hi 4 (by kernel_rfl)
    · exact Zl hi 5 (by kernel_rfl)
    · exact Zl hi 6 (by kernel_rfl)
  · exact Ytk hJ rfl rfl rfl rfl (Zl hi 7 (by kernel_rfl))
end Go.Proofs.Ythlkflagancdfaa.CK
