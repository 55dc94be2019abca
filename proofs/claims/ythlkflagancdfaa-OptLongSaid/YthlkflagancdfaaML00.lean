/-
  Part of a proof: contracts of functions and lemmas, each stated by its own theorem. Conditions: as each theorem states.
-/
import Derived.Test.YthlkflagancdfaaProg
import Derived.WalkKit
import Derived.WalkLawsBesides
import Derived.RowKit3
import Derived.Deep.Draws
import Derived.Lib.Hide
import Derived.Great.BuildSlice
import Derived.Great.Walk
import Derived.Outline
import Derived.Maps.AppendAt
import Derived.Laws.OwnMore
import Derived.OwnWalk
import Derived.Laws.ResultCell
import Derived.ChangeSame
import Derived.Laws.EntriesVeiled
import Derived.StillTailTactics
import Derived.Test.YthlkflagancdfaaMLSq
set_option linter.unusedSimpArgs false
set_option linter.unusedVariables false
set_option maxRecDepth 100000
set_option maxHeartbeats 16000000
namespace Go.Proofs.Ythlkflagancdfaa.CK
open Go.RowKit Go.Great
theorem Zes {k:IntKind} {a b:Int} (h:a=b):Ending.returned (.int k a) = .returned (.int k b):=by rw [h]
theorem Zc (w:World) (r:Option Nat):w.grownBy w r:=⟨rfl,rfl,rfl,Nat.le_refl _,fun _ _ _=>rfl⟩
theorem Za {a b c:World} {r:Option Nat} (h:a.grownBy b r) (g:b.grownBy c r):a.grownBy c r :=
 ⟨g.os.trans h.os,g.tape.trans h.tape,g.output.trans h.output,Nat.le_trans h.size g.size,fun k hk hr=>(g.block k (Nat.lt_of_lt_of_le hk h.size) hr).trans (h.block k hk hr)⟩
theorem Zg (w:World) (b o:Nat) (v:Value):w.grownBy (w.setCell ⟨b,o,none⟩ v) (some b):=⟨rfl,rfl,rfl,by simp,fun k hk hr=>heap_setCell_other w _ k v (by intro e;exact hr (by rw [e]))⟩
theorem Zd {w w':World} {row:Option Nat} (h:w.grownBy w' row):w.grownBy w'.drew row:=⟨h.os,h.tape,h.output,h.size,h.block⟩
theorem Zri (w:World) (n:Nat) (row:Option Nat):w.grownBy (w.drewN n) row:=⟨rfl,rfl,rfl,by simp,fun k hk _=>by simp⟩
theorem Zh {w w':World} {row:Option Nat} (h:w.grownBy w' row) (n:Nat):w.grownBy (w'.drewN n) row:=Za h (Zri w' n row)
theorem Zfi {w w':World} {r:Option Nat} (h:w.grownBy w' none):w.grownBy w' r:=⟨h.os,h.tape,h.output,h.size,fun k hk _=>h.block k hk (by simp)⟩
theorem Zom {w:World} {base:Nat} {e:TypeId} {size n:Nat} {v:Value} {xs:List Value} {b:Nat} (h:w.ownsRow base e size v n xs) (hb:b<base):v.ownBlock=none\/v.ownBlock≠some b:=by
 cases hv:v.ownBlock with
 | none=>left;rfl
 | some k=>right;have:=(h.lt k hv).1;intro e;injection e with e;omega
theorem Zet {w:World} {base:Nat} {e:TypeId} {size n:Nat} {v:Value} {xs:List Value} {b:Nat} (h:w.ownsRow base e size v n xs) (hb:b<base):v.ownBlock≠some b:=by
 rcases Zom h hb with h1|h1
 · rw [h1];simp
 · exact h1
theorem Zb {w w':World} {b:Nat} {o:Obj} {row:Option Nat} (h:w.heap[b]? = some o) (g:w.grownBy w' row) (hr:row≠some b):w'.heap[b]? = some o:=by
 rw [g.block b (Gs h) (fun e=>hr e.symm)];exact h
theorem Zpk (d:List Int):∀ u∈d.map (Value.int .u8),u.oneCell'=true:=by
 intro u hu
 obtain ⟨x,_,rfl⟩:=List.mem_map.1 hu
 rfl
theorem Zfz (w:World) (x:Value) (t:TypeId):∀ j u,[x][j]? = some u->(w.alloc (.cells #[x] t)).cell? ((⟨w.heap.size,0,none⟩:Addr).add j)=some u:=by
 intro j u hj
 match j,hj with
 | 0,hj=>simp at hj;subst hj;simp [Addr.add]
theorem Zcb (k:IntKind) (x:Int):∀ u∈[Value.int k x],u.oneCell'=true:=by intro u hu;simp at hu;subst hu;rfl
theorem Ydd (w:World) (x y:Value) (t:TypeId):∀ j u,[x,y][j]? = some u->(w.alloc (.cells #[x,y] t)).cell? ((⟨w.heap.size,0,none⟩:Addr).add j)=some u:=by
 intro j u hj
 match j,hj with
 | 0,hj=>simp at hj;subst hj;simp [Addr.add]
 | 1,hj=>simp at hj;subst hj;simp [Addr.add]
theorem Zpo (k:IntKind) (x y:Int):∀ u∈[Value.int k x,Value.int k y],u.oneCell'=true:=by
 intro u hu;simp at hu;rcases hu with rfl|rfl <;> rfl
structure Sp (P:Nat->Prop) (w w':World):Prop where
 os:w'.os=w.os
 tape:w'.tape=w.tape
 output:w'.output=w.output
 size:w.heap.size<=w'.heap.size
 block:∀ k,k<w.heap.size->¬ P k->w'.heap[k]? = w.heap[k]?
theorem Zpx (P:Nat->Prop) (w:World):Sp P w w:=⟨rfl,rfl,rfl,Nat.le_refl _,fun _ _ _=>rfl⟩
theorem Xc {P Q:Nat->Prop} {w w1 w2:World} (h:Sp P w w1) (g:Sp Q w1 w2) (hq:∀ k,k<w.heap.size->Q k->P k):Sp P w w2 :=
 ⟨g.os.trans h.os,g.tape.trans h.tape,g.output.trans h.output,Nat.le_trans h.size g.size,fun k hk hp=>(g.block k (Nat.lt_of_lt_of_le hk h.size) (fun hQ=>hp (hq k hk hQ))).trans (h.block k hk hp)⟩
theorem Yea {P Q:Nat->Prop} {w w1:World} (h:Sp P w w1) (hq:∀ k,k<w.heap.size->P k->Q k):Sp Q w w1 :=
 ⟨h.os,h.tape,h.output,h.size,fun k hk hp=>h.block k hk (fun hQ=>hp (hq k hk hQ))⟩
theorem Yl {P:Nat->Prop} {w w1:World} {r:Option Nat} (h:w.grownBy w1 r) (hr:∀ k,k<w.heap.size->r=some k->P k):Sp P w w1 :=
 ⟨h.os,h.tape,h.output,h.size,fun k hk hp=>h.block k hk (fun e=>hp (hr k hk e.symm))⟩
theorem Zlu {P:Nat->Prop} {w w1:World} (h:Sp P w w1) (hp:∀ k,k<w.heap.size->¬ P k):w.grownBy w1 none :=
 ⟨h.os,h.tape,h.output,h.size,fun k hk _=>h.block k hk (hp k hk)⟩
theorem Zbk {w w':World} {k:Nat} (h:w'.heap[k]? = w.heap[k]?) (o:Nat):w'.cell? ⟨k,o,none⟩=w.cell? ⟨k,o,none⟩:=by
 unfold World.cell?;rw [h]
theorem Zfs {P:Nat->Prop} {w w':World} {b o:Nat} {v:Value} (h:w.cell? ⟨b,o,none⟩=some v) (g:Sp P w w') (hp:¬ P b):w'.cell? ⟨b,o,none⟩=some v:=by
 rw [Zbk (g.block b (World.block_lt_of_cell? _ _ h) hp)];exact h
theorem Zfy {P:Nat->Prop} {w w':World} {base:Nat} {e:TypeId} {size n:Nat} {v:Value} {xs:List Value} (h:w.ownsRow base e size v n xs) (g:Sp P w w') (hp:∀ k,v.ownBlock=some k->¬ P k):w'.ownsRow base e size v n xs:=by
 obtain ⟨h1,h2⟩:=h
 refine ⟨h1,?_⟩
 rcases h2 with h2|⟨g0,cap,cur,rfl,hb,hg,rest⟩
 · exact .inl h2
 · exact .inr ⟨g0,cap,cur,rfl,hb,by rw [g.block g0 (Gs hg) (hp g0 rfl)];exact hg,rest⟩
theorem Xv {w:World} {base:Nat} {e:TypeId} {size n:Nat} {v:Value} {xs:List Value} (h:w.ownsRow base e size v (n+1) xs):∃ g cap,v = .slice (some ⟨g,0,none⟩) (n+1) cap:=by
 rcases h.2 with ⟨_,h0⟩|⟨g,cap,cur,hv,_⟩
 · omega
 · exact ⟨g,cap,hv⟩
theorem Zdy {w:World} {base:Nat} {e:TypeId} {size n:Nat} {v:Value} {xs:List Value} {b o:Nat} {u:Value} (h:w.ownsRow base e size v n xs) (hb:b<base):(w.setCell ⟨b,o,none⟩ u).ownsRow base e size v n xs :=
 h.kept (Zg w b o u) (Zom h hb)
theorem Xr {w:World} {base:Nat} {e e':TypeId} {size size' n n':Nat} {v v':Value} {xs xs':List Value} (h:w.ownsRow base e size v n xs) (h':w.ownsRow base e' size' v' n' xs') (hne:e≠e'):v.ownBlock=none\/v.ownBlock≠v'.ownBlock:=by
 rcases h.2 with ⟨rfl,_⟩|⟨g,cap,cur,rfl,_,hg,_⟩
 · left;rfl
 · right
   rcases h'.2 with ⟨rfl,_⟩|⟨g',cap',cur',rfl,_,hg',_⟩
   · simp [Value.ownBlock]
   · simp only [Value.ownBlock]
     intro heq
     injection heq with heq
     rw [heq] at hg
     rw [hg] at hg'
     injection hg' with hx
     injection hx with _ hx2 _
     exact hne hx2
theorem Jg {w:World} {base:Nat} {e e':TypeId} {size size' n n':Nat} {v v':Value} {xs xs':List Value} (h:w.ownsRow base e size v n xs) (h':w.ownsRow base e' size' v' n' xs') (hne:e≠e') {k:Nat} (hk:v.ownBlock=some k):v'.ownBlock≠some k:=by
 rcases Xr h h' hne with h1|h1
 · rw [h1] at hk;cases hk
 · rw [hk] at h1;exact fun e=>h1 e.symm
theorem Ye {w:World} {base base':Nat} {e:TypeId} {size n:Nat} {v:Value} {xs:List Value} (h:w.ownsRow base e size v n xs) (hb:base'<=base):w.ownsRow base' e size v n xs:=by
 refine ⟨h.1,?_⟩
 rcases h.2 with h|⟨g,cap,cur,e1,e2,e3⟩
 · exact Or.inl h
 · exact Or.inr ⟨g,cap,cur,e1,Nat.le_trans hb e2,e3⟩
theorem Zq {w:World} {base:Nat} {e:TypeId} {size n:Nat} {v:Value} {xs:List Value} (h:w.ownsRow base e size v n xs):∃ (p:Option Addr) (cap:Nat),v = .slice p n cap:=by
 rcases h.2 with ⟨rfl,rfl⟩|⟨g,cap,cur,hv,_⟩
 · exact ⟨_,_,rfl⟩
 · exact ⟨_,_,hv⟩
theorem Yb {w:World} {base:Nat} {e:TypeId} {size n:Nat} {v:Value} {xs:List Value} (h:w.ownsRow base e size v n xs) (h0:0<n):∃ g cap,v = .slice (some ⟨g,0,none⟩) n cap/\g<w.heap.size/\∀ j x,xs[j]? = some x->j<n*size->w.cell? ⟨g,j,none⟩=some x:=by
 obtain ⟨m,rfl⟩:∃ m,n=m+1:=⟨n - 1,by omega⟩
 obtain ⟨g,cap,rfl⟩:=Xv h
 exact ⟨g,cap,rfl,(h.lt g rfl).2,fun j x hx hj=>by rw [h.cellAt _ (by omega)];exact hx⟩
theorem Zdf {w:World} {base:Nat} {e:TypeId} {size n g cap:Nat} {xs:List Value} (h:w.ownsRow base e size (.slice (some ⟨g,0,none⟩) n cap) n xs):n<=cap/\cap<=9223372036854775807:=by
 rcases h.2 with ⟨h1,_⟩|⟨g',cap',cur,hv,_,_,hn,hm,_⟩
 · cases h1
 · injection hv with _ _ e3;subst e3;unfold maxLen at hm;exact ⟨hn,hm⟩
theorem Yd {w:World} {base:Nat} {e t:TypeId} {size n b:Nat} {v:Value} {xs:List Value} {cs:Array Value} (h:w.ownsRow base e size v n xs) (hb:w.heap[b]? = some (.cells cs t (0,0))) (hne:e≠t):v.ownBlock≠some b:=by
 rcases h.2 with ⟨rfl,_⟩|⟨g,cap,cur,rfl,_,hg,_⟩
 · simp [Value.ownBlock]
 · simp only [Value.ownBlock]
   intro e'
   injection e' with e'
   subst e'
   rw [hb] at hg
   injection hg with hg
   injection hg with _ h2 _
   exact hne h2.symm
theorem Zme {w:World} {base:Nat} {e:TypeId} {size n k g cap:Nat} {xs:List Value} (h:w.ownsRow base e size (.slice (some ⟨g,0,none⟩) n cap) n xs) (hk:k<=n):w.ownsRow base e size (.slice (some ⟨g,0,none⟩) k cap) k (xs.take (k*size)):=by
 obtain ⟨h1,h2⟩:=h
 rcases h2 with ⟨h2,_⟩|⟨g0,cap0,cur,e0,hb,hg,hn,hm,hs,ht⟩
 · cases h2
 · injection e0 with e1 e2 e3
   subst e3
   injection e1 with e1;injection e1 with e1 _ _;subst e1
   have hkn:k*size<=n*size:=Nat.mul_le_mul_right _ hk
   refine ⟨by rw [List.length_take,h1];omega,.inr ⟨g,cap,cur,rfl,hb,hg,by omega,hm,hs,?_⟩⟩
   rw [<- ht,List.take_take]
   congr 1;omega
theorem Yi (w:World) (o o':Obj):((w.alloc o).alloc o').heap[w.heap.size+1]? = some o':=by
 have h:=heap_alloc_new (w.alloc o) o'
 rw [World.size_alloc] at h;exact h
theorem Zcs {w w1 w2:World} {r:Option Nat} {b:Nat} (h:w.grownBy w1 r) (g:w1.grownBy w2 (some b)) (hb:w.heap.size<=b):w.grownBy w2 r :=
 ⟨g.os.trans h.os,g.tape.trans h.tape,g.output.trans h.output,Nat.le_trans h.size g.size,fun k hk hr=>(g.block k (Nat.lt_of_lt_of_le hk h.size) (by intro e;injection e with e;omega)).trans (h.block k hk hr)⟩
theorem Yt (w:World) (o o':Obj):((w.alloc o).alloc o').heap[w.heap.size]? = some o:=Zb (heap_alloc_new w o) (Ga _ o' none) (by simp)
theorem Xf (w:World) (o1 o2 o3:Obj):(((w.alloc o1).alloc o2).alloc o3).heap[w.heap.size]? = some o1/\(((w.alloc o1).alloc o2).alloc o3).heap[w.heap.size+1]? = some o2/\(((w.alloc o1).alloc o2).alloc o3).heap[w.heap.size+1+1]? = some o3:=by
 refine ⟨Zb (Yt w o1 o2) (Ga _ o3 none) (by simp),Zb (Yi w o1 o2) (Ga _ o3 none) (by simp),?_⟩
 have h:=Yi (w.alloc o1) o2 o3
 rw [World.size_alloc] at h;exact h
theorem Xg (w:World) (o1 o2 o3:Obj):w.grownBy (((w.alloc o1).alloc o2).alloc o3) none:=Za (Ga _ _ _) (Za (Ga _ _ _) (Ga _ _ _))
theorem Zpy {E:Nat} {w:World} (h:E<=w.heap.size) (o:Obj):E<=(w.alloc o).heap.size:=by simp;omega
theorem Zto (p:Option Addr) (n k:Nat):∀ u∈[Value.slice p n k],u.oneCell'=true:=by intro u hu;simp at hu;subst hu;rfl
def Zw:List (Int × Int)->List Value
 | []=>[]
 | x::r => .int .i64 x.1 :: .int .i64 x.2::Zw r
theorem Yv (a b:List (Int × Int)):Zw (a++b)=Zw a++Zw b:=by
 induction a with
 | nil=>rfl
 | cons x r ih=>simp [Zw,ih]
theorem Xo (a:List (Int × Int)):(Zw a).length=a.length*2:=by
 induction a with
 | nil=>rfl
 | cons x r ih=>simp [Zw,ih];omega
theorem Zad:∀ (l:List (Int × Int)) (i:Nat) (a b:Int),l[i]? = some (a,b)->(Zw l)[i*2]? = some (.int .i64 a)/\(Zw l)[i*2+1]? = some (.int .i64 b)
 | [],i,a,b,h=>by simp at h
 | x::r,0,a,b,h=>by simp at h;subst h;simp [Zw]
 | x::r,i+1,a,b,h=>by
   obtain ⟨h1,h2⟩:=Zad r i a b (by simpa using h)
   have e:(i+1)*2=i*2+1+1:=by omega
   rw [e]
   simp only [Zw]
   exact ⟨by simpa using h1,by simpa using h2⟩
theorem Xw {w w':World} {row:Option Nat} {B b o:Nat} {v:Value} (g:w.grownBy w' row) (hr:∀ r,row=some r->B<=r) (hb:b<B) (h:w.cell? ⟨b,o,none⟩=some v):w'.cell? ⟨b,o,none⟩=some v :=
 g.cell h (by intro e;have:=hr b e.symm;omega)
theorem Zi {w:World} {b o:Nat} {cs:Array Value} {t:TypeId} {v:Value} (h:w.heap[b]? = some (.cells cs t (0,0))):(w.setCell ⟨b,o,none⟩ v).heap[b]? = some (.cells (cs.setIfInBounds o v) t (0,0)):=heap_setCell_same w b o cs t v h
theorem Yf {w:World} {b:Nat} {t:TypeId} {size g n c m:Nat} {xs:List Value} (h:w.ownsRow b t size (.slice (some ⟨g,0,none⟩) n c) m xs):∀ j,w.frozen? ⟨g,j,none⟩=false:=fun j=>by
 rcases h.2 with ⟨e2,_⟩|⟨g2,cap2,cur2,e2,_,hgg,_⟩
 · cases e2
 · injection e2 with d1 d2 d3
   injection d1 with d1;injection d1 with d1
   subst d1
   exact frozen_of_row w _ _ _ _ hgg
theorem Yu {w0 w w':World} {r:Option Nat} (h:w0.grownBy w none) (g:w.grownBy w' r) (hb:∀ k,r=some k->w0.heap.size<=k):w0.grownBy w' none :=
 ⟨g.os.trans h.os,g.tape.trans h.tape,g.output.trans h.output,Nat.le_trans h.size g.size,fun k hk _=>(g.block k (Nat.lt_of_lt_of_le hk h.size) (by intro e;have:=hb k e.symm;omega)).trans (h.block k hk (by simp))⟩
theorem Ym {fn:Func} {p:Tmp} {ty:TypeId} (h:fn.results = #[.cell p ty]) (tmps:Array Value) (P:Program) (w:World) :
 (results fn tmps).run P w=((asAddr (tmps.getD p undef)).run P w).andThen fun a w₁=>(loadVar ty a).run P w₁:=by
 simp only [results,h]
 simp [Sem.run_bind,Result.andThen]
theorem Zbu {fn:Func} {p u v:Tmp} {ty:TypeId} (h:fn.results = #[.cell p ty,.tmp u,.tmp v]) (tmps:Array Value) (P:Program) (w:World) :
 (results fn tmps).run P w =
   ((asAddr (tmps.getD p undef)).run P w).andThen fun a w₁=>((loadVar ty a).run P w₁).andThen fun x w₂ => .ok (.tuple #[x,tmps.getD u undef,tmps.getD v undef]) w₂:=by
 simp only [results,h]
 simp [Sem.run_bind,Result.andThen]
theorem Ze {w0 w:World} {b o:Nat} {v:Value} (h:w0.grownBy w none) (hb:w0.heap.size<=b):w0.grownBy (w.setCell ⟨b,o,none⟩ v) none :=
 Yu h (Zg w b o v) fun k hk=>by injection hk with hk;omega
theorem Zbw:Try.prog.underlying 32=some (.slice 3):=by kernel_rfl
theorem Zat:(Try.prog.info? 3).map (fun i=>(i.zero,i.size,i.bytes))=some (some (.int .i64 0),1,8):=by kernel_rfl
theorem Ziy:Try.prog.underlying 22=some (.slice 5):=by kernel_rfl
theorem Znj:(Try.prog.info? 5).map (fun i=>(i.zero,i.size,i.bytes))=some (some (.int .u8 0),1,1):=by kernel_rfl
end Go.Proofs.Ythlkflagancdfaa.CK
namespace Go.Proofs.Ythlkflagancdfaa.TG
open Go.RowKit Go.ChangeShapes Go.WideShapes
theorem Zre {w w':World} (h:w.grownBy w' none) (may:MemPlace->Prop):w.keptBut w' may:=by
 refine ⟨h.os,h.output,fun i hi => ?_⟩
 rw [h.block i hi (by simp)]
 cases w.heap[i]? with
 | none=>rfl
 | some o =>
   cases o with
   | cells c t fr=>exact ⟨rfl,rfl,rfl,fun _ _=>rfl⟩
   | map es ck=>exact Or.inr ⟨rfl,rfl⟩
   | _=>rfl
theorem Zug {w w':World} (h:w.grownBy w' none) (a:Addr) (ha:a.block<w.heap.size):w'.frozen? a=w.frozen? a:=by
 unfold World.frozen?
 rw [h.block a.block ha (by simp)]
theorem Zqk {H:Type} {enc:TypeId × Value->H} {P:Program} {f:Func} {s:ChangeSpec} {apart fresh handsOn again:Bool} {W W':World} {args:Array Value} {v:Value} {ds gs:List (DataW H)} {before pa pv:List MemPlace}
 (hW:DataW.Whole enc P f.params.toList s.vars apart W args.toList ds gs before)
 (hres:∀ (b:Nat) (sp:Nat->Bool) (hd:Bool),DataW.TrodAll enc P W' b sp hd f.resultTypes.toList (v.resultList f.resultTypes.size) (s.fn H (ds++gs)).results [])
 (hargs:∀ sp:Nat->Bool,(∀ p∈before,sp p.block=true)->DataW.TrodAll enc P W' 0 sp true f.params.toList args.toList (s.fn H (ds++gs)).args pa)
 (hvars:∀ sp:Nat->Bool,(∀ p∈before,sp p.block=true)->DataW.TrodVars enc P W' sp s.vars (s.fn H (ds++gs)).vars pv)
 (hps:before=pa++pv) (hg:W.grownBy W' none)
 (hok:∀ (j:Nat) (t:TypeId) (r:Value),f.resultTypes[j]? = some t->(v.resultList f.resultTypes.size)[j]? = some r->Value.okWide P W' .any 0 t r) :
 s.post enc P f apart fresh handsOn again W args v W':=by
 subst hps
 have low:=hW.lt
 have hold:∀ p∈pa++pv,(fun b=>decide (b<W.heap.size)) p.block=true:=fun p hp=>decide_eq_true (low p hp)
 have hall:∀ p∈pa++pv,(fun _:Nat=>true) p.block=true:=fun _ _=>rfl
 have hW0:=hW
 obtain ⟨_,_,_,_,_,hz,hn⟩:=hW0
 refine ⟨ds,gs,pa++pv,[],pa,pv,hW,hres _ _ _,hargs _ hold,hvars _ hold,Zre hg _,fun _=>⟨hok,_,_,pa++pv,⟨pa,pv,trodAll_append (p:=[]) (hargs _ hall) (hres _ _ _),hvars _ hall,rfl,?_,hn⟩,fun p hp _=>hp⟩⟩
 intro b off hp
 rw [Zug hg _ (low _ hp)]
 exact hz b off hp
end Go.Proofs.Ythlkflagancdfaa.TG
namespace Go.Proofs.Ythlkflagancdfaa.CK
open Go.RowKit Go.Great
def shapeT:List (ByteArray × Int × Int × Int):=[
 (⟨#[110,111,112]⟩,0,0,0),
 (⟨#[104,97,108,116]⟩,0,1,0),
 (⟨#[97,98,111,114,116]⟩,0,1,0),
 (⟨#[110,117,109]⟩,1,0,1),
 (⟨#[112,111,112]⟩,0,1,0),
 (⟨#[99,111,112,121]⟩,6,0,1),
 (⟨#[115,119,97,112]⟩,0,2,2),
 (⟨#[103,101,116]⟩,2,0,1),
 (⟨#[115,101,116]⟩,2,1,0),
 (⟨#[108,111,97,100]⟩,0,1,1),
 (⟨#[115,116,111,114,101]⟩,0,2,0),
 (⟨#[108,111,97,100,56]⟩,0,1,1),
 (⟨#[115,116,111,114,101,56]⟩,0,2,0),
 (⟨#[115,105,122,101]⟩,0,0,1),
 (⟨#[106,117,109,112]⟩,3,0,0),
 (⟨#[122,101,114,111]⟩,3,1,0),
 (⟨#[110,111,116,122,101,114,111]⟩,3,1,0),
 (⟨#[99,97,108,108]⟩,4,(-1),(-1)),
 (⟨#[114,101,116]⟩,0,(-1),0),
 (⟨#[115,121,115]⟩,5,(-1),1),
 (⟨#[97,100,100]⟩,0,2,1),
 (⟨#[115,117,98]⟩,0,2,1),
 (⟨#[109,117,108]⟩,0,2,1),
 (⟨#[100,105,118]⟩,0,2,1),
 (⟨#[114,101,109]⟩,0,2,1),
 (⟨#[97,110,100]⟩,0,2,1),
 (⟨#[111,114]⟩,0,2,1),
 (⟨#[120,111,114]⟩,0,2,1),
 (⟨#[115,104,108]⟩,0,2,1),
 (⟨#[115,104,114]⟩,0,2,1),
 (⟨#[117,115,104,114]⟩,0,2,1),
 (⟨#[101,113]⟩,0,2,1),
 (⟨#[108,116]⟩,0,2,1),
 (⟨#[117,108,116]⟩,0,2,1),
 (⟨#[110,101,103]⟩,0,1,1),
 (⟨#[110,111,116]⟩,0,1,1),
 (⟨#[102,97,100,100]⟩,0,2,1),
 (⟨#[102,115,117,98]⟩,0,2,1),
 (⟨#[102,109,117,108]⟩,0,2,1),
 (⟨#[102,100,105,118]⟩,0,2,1),
 (⟨#[102,101,113]⟩,0,2,1),
 (⟨#[102,108,116]⟩,0,2,1),
 (⟨#[102,110,101,103]⟩,0,1,1),
 (⟨#[102,114,111,111,116]⟩,0,1,1),
 (⟨#[116,111,102]⟩,0,1,1),
 (⟨#[116,111,105]⟩,0,1,1)]
def Zjg:Array Value := #[
 .string ⟨#[110,111,112]⟩,.int .i64 0,.int .i64 0,.int .i64 0,
 .string ⟨#[104,97,108,116]⟩,.int .i64 0,.int .i64 1,.int .i64 0,
 .string ⟨#[97,98,111,114,116]⟩,.int .i64 0,.int .i64 1,.int .i64 0,
 .string ⟨#[110,117,109]⟩,.int .i64 1,.int .i64 0,.int .i64 1,
 .string ⟨#[112,111,112]⟩,.int .i64 0,.int .i64 1,.int .i64 0,
 .string ⟨#[99,111,112,121]⟩,.int .i64 6,.int .i64 0,.int .i64 1,
 .string ⟨#[115,119,97,112]⟩,.int .i64 0,.int .i64 2,.int .i64 2,
 .string ⟨#[103,101,116]⟩,.int .i64 2,.int .i64 0,.int .i64 1,
 .string ⟨#[115,101,116]⟩,.int .i64 2,.int .i64 1,.int .i64 0,
 .string ⟨#[108,111,97,100]⟩,.int .i64 0,.int .i64 1,.int .i64 1,
 .string ⟨#[115,116,111,114,101]⟩,.int .i64 0,.int .i64 2,.int .i64 0,
 .string ⟨#[108,111,97,100,56]⟩,.int .i64 0,.int .i64 1,.int .i64 1,
 .string ⟨#[115,116,111,114,101,56]⟩,.int .i64 0,.int .i64 2,.int .i64 0,
 .string ⟨#[115,105,122,101]⟩,.int .i64 0,.int .i64 0,.int .i64 1,
 .string ⟨#[106,117,109,112]⟩,.int .i64 3,.int .i64 0,.int .i64 0,
 .string ⟨#[122,101,114,111]⟩,.int .i64 3,.int .i64 1,.int .i64 0,
 .string ⟨#[110,111,116,122,101,114,111]⟩,.int .i64 3,.int .i64 1,.int .i64 0,
 .string ⟨#[99,97,108,108]⟩,.int .i64 4,.int .i64 (-1),.int .i64 (-1),
 .string ⟨#[114,101,116]⟩,.int .i64 0,.int .i64 (-1),.int .i64 0,
 .string ⟨#[115,121,115]⟩,.int .i64 5,.int .i64 (-1),.int .i64 1,
 .string ⟨#[97,100,100]⟩,.int .i64 0,.int .i64 2,.int .i64 1,
 .string ⟨#[115,117,98]⟩,.int .i64 0,.int .i64 2,.int .i64 1,
 .string ⟨#[109,117,108]⟩,.int .i64 0,.int .i64 2,.int .i64 1,
 .string ⟨#[100,105,118]⟩,.int .i64 0,.int .i64 2,.int .i64 1,
 .string ⟨#[114,101,109]⟩,.int .i64 0,.int .i64 2,.int .i64 1,
 .string ⟨#[97,110,100]⟩,.int .i64 0,.int .i64 2,.int .i64 1,
 .string ⟨#[111,114]⟩,.int .i64 0,.int .i64 2,.int .i64 1,
 .string ⟨#[120,111,114]⟩,.int .i64 0,.int .i64 2,.int .i64 1,
 .string ⟨#[115,104,108]⟩,.int .i64 0,.int .i64 2,.int .i64 1,
 .string ⟨#[115,104,114]⟩,.int .i64 0,.int .i64 2,.int .i64 1,
 .string ⟨#[117,115,104,114]⟩,.int .i64 0,.int .i64 2,.int .i64 1,
 .string ⟨#[101,113]⟩,.int .i64 0,.int .i64 2,.int .i64 1,
 .string ⟨#[108,116]⟩,.int .i64 0,.int .i64 2,.int .i64 1,
 .string ⟨#[117,108,116]⟩,.int .i64 0,.int .i64 2,.int .i64 1,
 .string ⟨#[110,101,103]⟩,.int .i64 0,.int .i64 1,.int .i64 1,
 .string ⟨#[110,111,116]⟩,.int .i64 0,.int .i64 1,.int .i64 1,
 .string ⟨#[102,97,100,100]⟩,.int .i64 0,.int .i64 2,.int .i64 1,
 .string ⟨#[102,115,117,98]⟩,.int .i64 0,.int .i64 2,.int .i64 1,
 .string ⟨#[102,109,117,108]⟩,.int .i64 0,.int .i64 2,.int .i64 1,
 .string ⟨#[102,100,105,118]⟩,.int .i64 0,.int .i64 2,.int .i64 1,
 .string ⟨#[102,101,113]⟩,.int .i64 0,.int .i64 2,.int .i64 1,
 .string ⟨#[102,108,116]⟩,.int .i64 0,.int .i64 2,.int .i64 1,
 .string ⟨#[102,110,101,103]⟩,.int .i64 0,.int .i64 1,.int .i64 1,
 .string ⟨#[102,114,111,111,116]⟩,.int .i64 0,.int .i64 1,.int .i64 1,
 .string ⟨#[116,111,102]⟩,.int .i64 0,.int .i64 1,.int .i64 1,
 .string ⟨#[116,111,105]⟩,.int .i64 0,.int .i64 1,.int .i64 1]
def Zrn:List (ByteArray × Int × Int × Int)->List Value
 | []=>[]
 | x::r => .string x.1 :: .int .i64 x.2.1 :: .int .i64 x.2.2.1 :: .int .i64 x.2.2.2::Zrn r
theorem Zuh:∀ (l:List (ByteArray × Int × Int × Int)) (i:Nat) (nm:ByteArray) (o t g:Int),l[i]? = some (nm,o,t,g)->(Zrn l)[i*4]? = some (.string nm)/\(Zrn l)[i*4+1]? = some (.int .i64 o)/\(Zrn l)[i*4+2]? = some (.int .i64 t)/\(Zrn l)[i*4+3]? = some (.int .i64 g)
 | [],i,_,_,_,_,h=>by simp at h
 | x::r,0,_,_,_,_,h=>by simp at h;subst h;simp [Zrn]
 | x::r,i+1,a,b,c,d,h=>by
   obtain ⟨h1,h2,h3,h4⟩:=Zuh r i a b c d (by simpa using h)
   have e:(i+1)*4=i*4+1+1+1+1:=by omega
   rw [e]
   simp only [Zrn]
   exact ⟨by simpa using h1,by simpa using h2,by simpa using h3,by simpa using h4⟩
theorem Yax:Zjg=(Zrn shapeT).toArray:=by rfl
theorem Yec:shapeT.length=46:=by rfl
theorem Zpp (nm:ByteArray) (w:World):Calls Try.prog 77 #[.string nm] w fun e w'=>e = .returned (.agg #[.string nm,.int .i64 0,.int .i64 2,.int .i64 1])/\w.grownBy w' none:=by
 go_enter Try.func77,Try.ntmps77
 go_wp2
 (try simp only [Exit.inBlock,Exit.then])
 refine bodyPost_ret (v := .agg #[.string nm,.int .i64 0,.int .i64 2,.int .i64 1]) ?_ rfl ⟨rfl,?_⟩
 · rw [Ym rfl]
   go_simp
 · exact Ga _ _ _
theorem Zqp (nm:ByteArray) (w:World):Calls Try.prog 78 #[.string nm] w fun e w'=>e = .returned (.agg #[.string nm,.int .i64 0,.int .i64 1,.int .i64 1])/\w.grownBy w' none:=by
 go_enter Try.func78,Try.ntmps78
 go_wp2
 (try simp only [Exit.inBlock,Exit.then])
 refine bodyPost_ret (v := .agg #[.string nm,.int .i64 0,.int .i64 1,.int .i64 1]) ?_ rfl ⟨rfl,?_⟩
 · rw [Ym rfl]
   go_simp
 · exact Ga _ _ _
def Zja (w:World) (S:Nat):Prop:=S<w.heap.size/\∀ (i:Nat) (v:Value),Zjg[i]? = some v->w.cell? ⟨S,i,none⟩=some v
theorem Zia {w w':World} {S:Nat} {r:Option Nat} (h:Zja w S) (g:w.grownBy w' r) (hr:some S≠r):Zja w' S:=⟨Nat.lt_of_lt_of_le h.1 g.size,fun i v hi=>g.cell (h.2 i v hi) hr⟩
theorem Zof (w:World):Calls Try.prog 59 #[] w fun e w'=>∃ S,e = .returned (.slice (some ⟨S,0,none⟩) 46 46)/\w.grownBy w' none/\w.heap.size<=S/\Zja w' S:=by
 have G:=Hq (Zc w none)
 have TW:=Hq Zpp
 have ON:=Hq Zqp
 go_enter Try.func59,Try.ntmps59
 go_wp2_with (first
  | (go_at_call 77;refine (TW.out _ _).mono ?_;rintro e w1 ⟨rfl,hg⟩;replace G:=Hq (Za G.out hg);clear hg)
  | (go_at_call 78;refine (ON.out _ _).mono ?_;rintro e w1 ⟨rfl,hg⟩;replace G:=Hq (Za G.out hg);clear hg)
  | (refine wpList_buildSliceTo rfl 112 115 46 _ rfl w1.heap.size rfl (some 47) rfl Try.underlying112 Zjg (by kernel_rfl) ?_))
 go_ret
 exact ⟨_,rfl,Za G.out (Ga _ _ none),G.out.size,by simp,fun i v h=>by rw [World.cell?_alloc_at (hn:=rfl)];exact h⟩
theorem Yoj (L n:Nat) (hn:n<L) (hL:L<1000) (b:Nat) (x:ByteArray) (y t u:Int) (w:World) (hb:b<w.heap.size) (h0:w.cell? ⟨b,n*4,none⟩=some (.string x)) (h1:w.cell? ⟨b,n*4+1,none⟩=some (.int .i64 y)) (h2:w.cell? ⟨b,n*4+2,none⟩=some (.int .i64 t)) (h3:w.cell? ⟨b,n*4+3,none⟩=some (.int .i64 u)) :
 Calls Try.prog 60 #[.slice (some ⟨b,0,none⟩) L L,.int .i64 n] w fun e w'=>e = .returned (.tuple #[.agg #[.string x,.int .i64 y,.int .i64 t,.int .i64 u],.bool true])/\w.grownBy w' none:=by
 have hni:(n:Int)<(L:Int):=by omega
 go_enter Try.func60,Try.ntmps60
 go_wp2
 (try simp only [Exit.inBlock,Exit.then])
 refine bodyPost_ret (v := .tuple #[.agg #[.string x,.int .i64 y,.int .i64 t,.int .i64 u],.bool true]) ?_ rfl ⟨rfl,Ga _ _ _⟩
 rw [results_cell_tmp rfl]
 go_simp
theorem Yql (L:Nat) (n:Int) (hn:n<0\/(L:Int)<=n) (hL:L<1000) (b:Nat) (w:World) :
 Calls Try.prog 60 #[.slice (some ⟨b,0,none⟩) L L,.int .i64 n] w fun e w'=>e = .returned (.tuple #[.agg #[.string ⟨#[]⟩,.int .i64 0,.int .i64 0,.int .i64 0],.bool false])/\w.grownBy w' none:=by
 rcases (by omega:n<0\/(0<=n/\(L:Int)<=n)) with hn|⟨hn0,hn⟩
 all_goals
  go_enter Try.func60,Try.ntmps60
  go_wp2
  (try simp only [Exit.inBlock,Exit.then])
  refine bodyPost_ret (v := .tuple #[.agg #[.string ⟨#[]⟩,.int .i64 0,.int .i64 0,.int .i64 0],.bool false]) ?_ rfl ⟨rfl,Ga _ _ _⟩
  rw [results_cell_tmp rfl]
  go_simp
def Jx (op:Int):Option (ByteArray × Int × Int × Int):=if 0<=op/\op<46 then shapeT[op.toNat]? else none
theorem Zft {op:Int} (h:0<=op/\op<46):∃ (n:Nat) (x:ByteArray × Int × Int × Int),op=n/\n<46/\shapeT[n]? = some x/\Jx op=some x:=by
 obtain ⟨n,rfl⟩:=Int.eq_ofNat_of_zero_le h.1
 have hn:n<shapeT.length:=by rw [Yec];omega
 refine ⟨n,shapeT[n],rfl,by omega,List.getElem?_eq_getElem hn,?_⟩
 unfold Jx
 rw [if_pos h,Int.toNat_natCast]
 exact List.getElem?_eq_getElem hn
theorem Zfu {op:Int} (h:¬ (0<=op/\op<46)):Jx op=none:=by unfold Jx;rw [if_neg h]
def Zog:Option (ByteArray × Int × Int × Int)->Value
 | some x => .tuple #[.agg #[.string x.1,.int .i64 x.2.1,.int .i64 x.2.2.1,.int .i64 x.2.2.2],.bool true]
 | none => .tuple #[.agg #[.string ⟨#[]⟩,.int .i64 0,.int .i64 0,.int .i64 0],.bool false]
theorem Zsv (op:Int) (S:Nat) (w:World) (h:Zja w S) :
 Calls Try.prog 60 #[.slice (some ⟨S,0,none⟩) 46 46,.int .i64 op] w fun e w'=>e = .returned (Zog (Jx op))/\w.grownBy w' none:=by
 by_cases hop:0<=op/\op<46
 · obtain ⟨n,⟨nm,o,t,g⟩,rfl,hn,hx,hs⟩:=Zft hop
   rw [hs]
   obtain ⟨h1,h2,h3,h4⟩:=Zuh shapeT n nm o t g hx
   have hc:∀ i v,(Zrn shapeT)[i]? = some v->w.cell? ⟨S,i,none⟩=some v:=fun i v hi=>h.2 i v (by rw [Yax,List.getElem?_toArray];exact hi)
   exact Yoj 46 n hn (by decide) S nm o t g w h.1 (hc _ _ h1) (hc _ _ h2) (hc _ _ h3) (hc _ _ h4)
 · rw [Zfu hop]
   exact Yql 46 op (by omega) (by decide) S w
theorem Ywc (op:Int) (w:World):Calls Try.prog 82 #[.int .i64 op] w fun e w'=>e = .returned (Zog (Jx op))/\w.grownBy w' none:=by
 have C:=Hq Zof
 have R:=Hq (Zsv op)
 obtain ⟨nm,o,t,g,b,hv⟩:∃ nm o t g b,Zog (Jx op) = .tuple #[.agg #[.string nm,.int .i64 o,.int .i64 t,.int .i64 g],.bool b]:=by
  cases Jx op with
  | none=>exact ⟨_,_,_,_,_,rfl⟩
  | some x=>exact ⟨_,_,_,_,_,rfl⟩
 rw [hv] at R ⊢
 clear hv
 go_enter Try.func82,Try.ntmps82
 go_wp2_with (first
  | (go_at_call 59;refine (C.out _).mono ?_;rintro e w1 ⟨S,rfl,hg,hS,hsh⟩;have G1:=Hq hg;have SH:=Hq hsh;clear hg hsh)
  | (go_at_call 60;refine (R.out _ _ SH.out).mono ?_;rintro e w2 ⟨rfl,hg2⟩;have G2:=Hq hg2;have hb:=Zb (Zb (heap_alloc_new w (.cells #[.string ⟨#[]⟩,.int .i64 0,.int .i64 0,.int .i64 0] 115)) G1.out (by simp)) hg2 (by simp);have c0:=Cq w2 _ 0 _ _ _ hb;have c1:=Cq w2 _ 1 _ _ _ hb;have c2:=Cq w2 _ 2 _ _ _ hb;have c3:=Cq w2 _ 3 _ _ _ hb;have z0:=frozen_of_row w2 _ 0 _ _ hb;have z1:=frozen_of_row w2 _ 1 _ _ hb;have z2:=frozen_of_row w2 _ 2 _ _ hb;have z3:=frozen_of_row w2 _ 3 _ _ hb;have HB:=Hq hb;clear hg2 hb))
 (try simp only [Exit.inBlock,Exit.then])
 have hq:((((w2.setCell ⟨w.heap.size,0,none⟩ (.string nm)).setCell ⟨w.heap.size,1,none⟩ (.int .i64 o)).setCell ⟨w.heap.size,2,none⟩ (.int .i64 t)).setCell ⟨w.heap.size,3,none⟩ (.int .i64 g)).heap[w.heap.size]? = some (.cells #[.string nm,.int .i64 o,.int .i64 t,.int .i64 g] 115 (0,0)):=by
  rw [Zi (Zi (Zi (Zi HB.out)))];rfl
 refine bodyPost_ret (v := .tuple #[.agg #[.string nm,.int .i64 o,.int .i64 t,.int .i64 g],.bool b]) ?_ rfl ⟨rfl,Ze (Ze (Ze (Ze (Za (Za (Ga _ _ _) G1.out) G2.out) (Nat.le_refl _)) (Nat.le_refl _)) (Nat.le_refl _)) (Nat.le_refl _)⟩
 clear c0 c1 c2 c3 z0 z1 z2 z3
 have d0:=Cq _ _ 0 _ _ _ hq
 have d1:=Cq _ _ 1 _ _ _ hq
 have d2:=Cq _ _ 2 _ _ _ hq
 have d3:=Cq _ _ 3 _ _ _ hq
 clear hq
 generalize (((w2.setCell ⟨w.heap.size,0,none⟩ (.string nm)).setCell ⟨w.heap.size,1,none⟩ (.int .i64 o)).setCell ⟨w.heap.size,2,none⟩ (.int .i64 t)).setCell ⟨w.heap.size,3,none⟩ (.int .i64 g)=w9 at *
 rw [results_cell_tmp rfl]
 go_simp
section
variable {P:Program} {ops:Array Oper} {Q:Exit->Act->World->Prop}
theorem Yco (hdag:∀ (j:Nat) (o:Oper),ops[j]? = some o->∀ e∈o.after,e.on<j) {l:Array Bool} (h:Region.ready .any ops l=[]) (hsz:l.size=ops.size):∀ j,j<ops.size->l.getD j false=true:=by
 intro j
 induction j using Nat.strongRecOn with
 | _ j ih =>
   intro hj
   by_cases hl:l.getD j false=true
   · exact hl
   · exfalso
     have hlt:j<l.size:=by omega
     have h1:l.getD j true=false:=by
      simp only [Array.getD,hlt,dif_pos] at hl ⊢
      simpa using hl
     have:j∈Region.ready .any ops l:=mem_ready.2 ⟨h1,ops[j],by simp [hj],fun e he _=>ih e.on (hdag j ops[j] (by simp [hj]) e he) (Nat.lt_trans (hdag j ops[j] (by simp [hj]) e he) hj)⟩
     rw [h] at this
     cases this
theorem Zli (J:Array Bool->Act->World->Prop)
 (step:∀ l a w i,J l a w->i∈Region.ready .any ops l->wpOp P ops Q i (fun a' w'=>J (l.setIfInBounds i true) a' w') a w)
 (fin:∀ l a w,J l a w->(Region.ready .any ops l=[])->Q .normal a w) :
 ∀ fuel l a w,J l a w->l.toList.count false<=fuel->wpAny P .any ops Q fuel l a w
 | 0,l,a,w,hJ,hc=>by
   have hnil:Region.ready .any ops l=[]:=by
    cases hr:Region.ready .any ops l with
    | nil=>rfl
    | cons i r =>
      exfalso
      have hi:i∈Region.ready .any ops l:=by rw [hr];exact List.mem_cons_self ..
      have h1:=(mem_ready.1 hi).1
      have hlt:i<l.size:=by
       rcases Nat.lt_or_ge i l.size with h'|h'
       · exact h'
       · simp [Array.getElem?_eq_none h'] at h1
      have hm:false∈l.toList:=by
       have:l[i]=false:=by simpa [hlt] using h1
       rw [<- this];exact Array.mem_toList_iff.2 (Array.getElem_mem hlt)
      have:=List.count_pos_iff.2 hm
      omega
   exact ⟨hnil,fin l a w hJ hnil⟩
 | fuel+1,l,a,w,hJ,hc=>by
   refine ⟨fun h=>fin l a w hJ h,fun i hi=>wpOp_mono (fun a' w' hJ'=>Zli J step fin fuel _ a' w' hJ' ?_) (step l a w i hJ hi)⟩
   have h1:=(mem_ready.1 hi).1
   have hlt:i<l.size:=by
    rcases Nat.lt_or_ge i l.size with h'|h'
    · exact h'
    · simp [Array.getElem?_eq_none h'] at h1
   have hf:l[i]=false:=by simpa [hlt] using h1
   have hm:false∈l.toList:=by rw [<- hf];exact Array.mem_toList_iff.2 (Array.getElem_mem hlt)
   have hpos:=List.count_pos_iff.2 hm
   rw [Array.toList_setIfInBounds,List.count_set (by simpa using hlt)]
   have e1:(l.toList[i]'(by simpa using hlt) == false)=true:=by rw [Array.getElem_toList,hf];rfl
   rw [if_pos e1,if_neg (by decide)]
   omega
end
theorem Zf {ops:Array Oper} {l:Array Bool} {i:Nat} (hi:i∈Region.ready .any ops l) (n:Nat) (h:((ops[i]?).any fun o=>o.after.any fun e=>e.on == n && Region.binds .any e)=true):l.getD n false=true:=by
 obtain ⟨_,o,ho,haf⟩:=mem_ready.1 hi
 rw [ho] at h
 obtain ⟨e,he,hb⟩:=Array.any_eq_true'.1 (show o.after.any (fun e=>e.on == n && Region.binds .any e)=true from h)
 simp only [Bool.and_eq_true,beq_iff_eq] at hb
 rw [<- hb.1]
 exact haf e he hb.2
theorem Yxo {ops:Array Oper} (h:((List.range ops.size).all fun j=>(ops[j]?).all fun o=>o.after.all fun e=>decide (e.on<j))=true):∀ (j:Nat) (o:Oper),ops[j]? = some o->∀ e∈o.after,e.on<j:=by
 intro j o ho e he
 have hj:j<ops.size:=(Gs ho)
 have h1:=List.all_eq_true.1 h j (List.mem_range.2 hj)
 rw [ho] at h1
 have h2:=Array.all_eq_true'.1 (show o.after.all (fun e=>decide (e.on<j))=true from h1) e he
 exact of_decide_eq_true h2
theorem Yc (l:Array Bool) (i j:Nat) (hi:i<l.size):(l.setIfInBounds i true).getD j false=if j=i then true else l.getD j false:=by
 by_cases h:j=i
 · subst h;simp [hi]
 · rw [if_neg h];simp [Array.getD_eq_getD_getElem?,Array.getElem?_setIfInBounds_ne (Ne.symm h)]
def tm (a:Act) (d:Nat):Value:=a.tmps.getD d undef
theorem Yun {a:Act} {d n:Nat} {v:Value} (hs:a.tmps.size=n) (hd:d<n) (e:Nat):tm (a.put (some d) v) e=if e=d then v else tm a e:=by
 unfold tm Act.put
 by_cases h:e=d
 · subst h;simp [hs,hd]
 · rw [if_neg h];simp [Array.getD_eq_getD_getElem?,Array.getElem?_setIfInBounds_ne (Ne.symm h)]
theorem Ykf {a:Act} {d:Option Tmp} {n:Nat} {v:Value} (hs:a.tmps.size=n):(a.put d v).tmps.size=n:=by cases d <;> simp [Act.put,hs]
section
variable {ops:Array Oper} {Q:Exit->Act->World->Prop} {i:Nat} {a:Act} {w:World}
theorem Zeb {K:Act->World->Prop} {o:Oper} {v:Value} {w':World} (ho:ops[i]? = some o) (hg:o.guard=none) (hrun:(execOp a.eval o).run Try.prog w = .ok (.value v) w') (h:K (a.put o.dst v) w'):wpOp Try.prog ops Q i K a w:=by
 unfold wpOp
 simp only [ho,Region.wanted,hg]
 refine Or.inl ?_
 unfold Oper.wp
 rw [hrun,Oper.upon_value]
 exact h
theorem Zfp {K:Act->World->Prop} {o:Oper} {w':World} (ho:ops[i]? = some o) (hg:o.guard=none) (hd:o.dst=none) (hrun:(execOp a.eval o).run Try.prog w = .ok .skip w') (h:K a w'):wpOp Try.prog ops Q i K a w:=by
 unfold wpOp
 simp only [ho,Region.wanted,hg]
 refine Or.inl ?_
 unfold Oper.wp
 rw [hrun]
 simp only [Oper.upon,hd]
 exact h
theorem Yal {K:Act->World->Prop} {o:Oper} {f:FuncId} {args:Array Value} (ho:ops[i]? = some o) (hg:o.guard=none) (hrun:(execOp a.eval o).run Try.prog w = .ok (.enter f args) w)
 (h:Calls Try.prog f args w fun e w'=>∃ v,e = .returned v/\K (a.put o.dst v) w'):wpOp Try.prog ops Q i K a w:=by
 unfold wpOp
 simp only [ho,Region.wanted,hg]
 refine Or.inl ?_
 unfold Oper.wp
 rw [hrun]
 simp only [Oper.upon]
 refine h.mono fun e w' he => ?_
 obtain ⟨v,rfl,hK⟩:=he
 exact hK
end
def fnV (f:FuncId) (caps:Array Value):Value := .func (.func f) #[] caps
def Yct (b:Nat):Value := .pointer (some ⟨b,0,none⟩)
def Zbq (lo:Nat) (n:Int) (v:Value) (w:World):Prop:=∃ b,v = .agg #[fnV 89 #[Yct b],fnV 61 #[],fnV 90 #[]]/\lo<=b/\w.cell? ⟨b,0,none⟩=some (.int .i64 n)
def Yll:Value := .agg #[fnV 70 #[],fnV 71 #[],fnV 72 #[]]
def Yyo:Value := .agg #[fnV 73 #[],fnV 74 #[],fnV 75 #[]]
theorem Yjb (n:Int) (w:World):Calls Try.prog 76 #[.int .i64 n] w fun e w'=>∃ v,e = .returned v/\w.grownBy w' none/\Zbq w.heap.size n v w':=by
 go_enter Try.func76,Try.ntmps76
 go_wp2
 (try simp only [Exit.inBlock,Exit.then])
 refine bodyPost_ret (v := .agg #[fnV 89 #[Yct w.heap.size],fnV 61 #[],fnV 90 #[]]) ?_ rfl ⟨_,rfl,Za (Ga _ _ _) (Ga _ _ _),_,rfl,Nat.le_refl _,by simp⟩
 rw [Ym rfl]
 go_simp
 exact ⟨rfl,rfl,rfl⟩
def KV (lo:Nat) (k:Nat) (v:Value) (w:World):Prop :=
 match k with
 | 0=>v=Yll
 | 1=>v=Yyo
 | 2=>Zbq lo 64 v w
 | 3=>Zbq lo 4096 v w
 | 4=>Zbq lo 64 v w
 | 5=>Zbq lo 5 v w
 | _=>Zbq lo 256 v w
theorem Zdk {lo:Nat} {n:Int} {v:Value} {w w':World} (h:Zbq lo n v w) (g:w.grownBy w' none):Zbq lo n v w':=by
 obtain ⟨b,e,hl,hc⟩:=h;exact ⟨b,e,hl,g.cell hc (by simp)⟩
theorem Ygp {lo k:Nat} {v:Value} {w w':World} (h:KV lo k v w) (g:w.grownBy w' none):KV lo k v w':=by
 match k,h with
 | 0,h=>exact h
 | 1,h=>exact h
 | 2,h=>exact Zdk h g
 | 3,h=>exact Zdk h g
 | 4,h=>exact Zdk h g
 | 5,h=>exact Zdk h g
 | _+6,h=>exact Zdk h g
def Zgl (w:World) (lo S:Nat):Prop:=S<w.heap.size/\lo<=S/\∀ k,k<7->∃ a b c,KV lo k (.agg #[a,b,c]) w/\w.cell? ⟨S,k*3,none⟩=some a/\w.cell? ⟨S,k*3+1,none⟩=some b/\w.cell? ⟨S,k*3+2,none⟩=some c
theorem Zke {w w':World} {lo S:Nat} (h:Zgl w lo S) (g:w.grownBy w' none):Zgl w' lo S :=
 ⟨Nat.lt_of_lt_of_le h.1 g.size,h.2.1,fun k hk=>by obtain ⟨a,b,c,h1,h2,h3,h4⟩:=h.2.2 k hk;exact ⟨a,b,c,Ygp h1 g,g.cell h2 (by simp),g.cell h3 (by simp),g.cell h4 (by simp)⟩⟩
theorem Zeo {lo lo':Nat} {n:Int} {v:Value} {w:World} (h:Zbq lo n v w) (hl:lo'<=lo):Zbq lo' n v w:=by
 obtain ⟨b,e,h1,hc⟩:=h;exact ⟨b,e,Nat.le_trans hl h1,hc⟩
theorem Xbl {lo lo' k:Nat} {v:Value} {w:World} (h:KV lo k v w) (hl:lo'<=lo):KV lo' k v w:=by
 match k,h with
 | 0,h=>exact h
 | 1,h=>exact h
 | 2,h=>exact Zeo h hl
 | 3,h=>exact Zeo h hl
 | 4,h=>exact Zeo h hl
 | 5,h=>exact Zeo h hl
 | _+6,h=>exact Zeo h hl
theorem Ybs {w:World} {lo lo' S:Nat} (h:Zgl w lo S) (hl:lo'<=lo):Zgl w lo' S :=
 ⟨h.1,Nat.le_trans hl h.2.1,fun k hk=>by obtain ⟨a,b,c,h1,h2⟩:=h.2.2 k hk;exact ⟨a,b,c,Xbl h1 hl,h2⟩⟩
def SlO (lo j:Nat) (v:Value) (w:World):Prop :=
 if j<7 then KV lo j v w else ∃ S,v = .slice (some ⟨S,0,none⟩) 7 7/\Zgl w lo S
theorem Yke {lo j:Nat} {v:Value} {w w':World} (h:SlO lo j v w) (g:w.grownBy w' none):SlO lo j v w':=by
 unfold SlO at *
 split
 · rename_i hj;rw [if_pos hj] at h;exact Ygp h g
 · rename_i hj;rw [if_neg hj] at h;obtain ⟨S,e,hk⟩:=h;exact ⟨S,e,Zke hk g⟩
def dO:Nat->Nat
 | 0=>5|1=>6|2=>7|3=>8|4=>9|5=>10|6=>11|7=>12|_=>0
structure OJ (w1:World) (b1 b2:Nat) (l:Array Bool) (a:Act) (w:World):Prop where
 sz:l.size=9
 ts:a.tmps.size=13
 df:a.defers=[]
 g:w1.grownBy w none
 t1:tm a 1=Yct b1
 t2:tm a 2=Yct b2
 sl:∀ j,j<9->l.getD j false=true->SlO w1.heap.size j (tm a (dO j)) w
theorem Yng:∀ i,i<9->dO i≠1/\dO i≠2/\dO i<13:=by decide
theorem Ynh:∀ i,i<9->∀ j,j<9->i≠j->dO i≠dO j:=by decide
theorem Zyt {w1:World} {b1 b2 i:Nat} {l:Array Bool} {a:Act} {w w':World} {v:Value} (h:OJ w1 b1 b2 l a w) (hi:i<9) (g:w.grownBy w' none) (hv:SlO w1.heap.size i v w'):OJ w1 b1 b2 (l.setIfInBounds i true) (a.put (some (dO i)) v) w':=by
 obtain ⟨f1,f2,fd⟩:=Yng i hi
 have T:∀ e,tm (a.put (some (dO i)) v) e=if e=dO i then v else tm a e:=fun e=>Yun h.ts fd e
 have hgs:∀ j,(l.setIfInBounds i true).getD j false=if j=i then true else l.getD j false:=fun j=>Yc l i j (by rw [h.sz];exact hi)
 refine ⟨by simp [h.sz],Ykf h.ts,h.df,Za h.g g,by rw [T,if_neg (Ne.symm f1)];exact h.t1,by rw [T,if_neg (Ne.symm f2)];exact h.t2,?_⟩
 intro j hj hl
 rw [hgs] at hl
 by_cases hji:j=i
 · subst hji
   rw [T,if_pos rfl]
   exact hv
 · rw [if_neg hji] at hl
   rw [T,if_neg (fun e=>Ynh i hi j hj (Ne.symm hji) e.symm)]
   exact Yke (h.sl j hj hl) g
section
variable {ops:Array Oper} {Q:Exit->Act->World->Prop} {w1:World} {b1 b2 i:Nat} {l:Array Bool} {a:Act} {w:World}
theorem Zhz {o:Oper} {n:Int} {ts:Array TypeId} (hJ:OJ w1 b1 b2 l a w) (ho:ops[i]? = some o) (hg:o.guard=none) (hop:o.op = .call { callee := .value (.func 76),args := #[.const (.int .i64 n)],argTypes:=ts }) (hdst:o.dst=some (dO i)) (hi:i<9)
 (hv:∀ v w,Zbq w1.heap.size n v w->SlO w1.heap.size i v w):wpOp Try.prog ops Q i (fun a' w'=>OJ w1 b1 b2 (l.setIfInBounds i true) a' w') a w:=by
 refine Yal ho hg (f:=76) (args := #[.int .i64 n]) (by simp [execOp,hop,Act.eval,go_sem]) ?_
 refine (Yjb n w).mono fun e w' h => ?_
 obtain ⟨v,rfl,g,hb⟩:=h
 refine ⟨v,rfl,?_⟩
 rw [hdst]
 exact Zyt hJ hi g (hv v w' (Zeo hb hJ.g.size))
theorem Yeb {o:Oper} {s:Tmp} {b:Nat} {x y z:Value} (hJ:OJ w1 b1 b2 l a w) (ho:ops[i]? = some o) (hg:o.guard=none) (hop:o.op = .load 121 (.tmp s)) (hdst:o.dst=some (dO i)) (hi:i<9) (hs:tm a s=Yct b)
 (h0:w1.cell? ⟨b,0,none⟩=some x) (h1:w1.cell? ⟨b,1,none⟩=some y) (h2:w1.cell? ⟨b,2,none⟩=some z) (hv:∀ w,SlO w1.heap.size i (.agg #[x,y,z]) w):wpOp Try.prog ops Q i (fun a' w'=>OJ w1 b1 b2 (l.setIfInBounds i true) a' w') a w:=by
 have c0:w.cell? ⟨b,0,none⟩=some x:=hJ.g.cell h0 (by simp)
 have c1:w.cell? ⟨b,1,none⟩=some y:=hJ.g.cell h1 (by simp)
 have c2:w.cell? ⟨b,2,none⟩=some z:=hJ.g.cell h2 (by simp)
 unfold tm at hs
 refine Zeb ho hg (v := .agg #[x,y,z]) (w':=w) (by simp [execOp,hop,Act.eval,hs,Yct,c0,c1,c2,go_sem]) ?_
 rw [hdst]
 exact Zyt hJ hi (Zc _ _) (hv w)
theorem Ybp:(Try.prog.info? 121).map (fun i=>(i.zero,i.size,i.bytes))=some (some (.agg #[.nilFunc,.nilFunc,.nilFunc]),3,24):=by kernel_rfl
theorem Ygo:Try.prog.underlying 110=some (.slice 121):=by kernel_rfl
def Zfk (b:Nat):Value := .agg #[fnV 89 #[Yct b],fnV 61 #[],fnV 90 #[]]
def Zdh (b2 b3 b4 b5 b6:Nat):Array Value := #[fnV 70 #[],fnV 71 #[],fnV 72 #[],fnV 73 #[],fnV 74 #[],fnV 75 #[],
 fnV 89 #[Yct b2],fnV 61 #[],fnV 90 #[],fnV 89 #[Yct b3],fnV 61 #[],fnV 90 #[],
 fnV 89 #[Yct b4],fnV 61 #[],fnV 90 #[],fnV 89 #[Yct b5],fnV 61 #[],fnV 90 #[],
 fnV 89 #[Yct b6],fnV 61 #[],fnV 90 #[]]
theorem Ybq (b2 b3 b4 b5 b6:Nat):Instr.fill (fun i=>some (i*3,3)) ((Array.range (7*3)).map ((Value.agg #[.nilFunc,.nilFunc,.nilFunc]).cells[· % (Value.agg #[.nilFunc,.nilFunc,.nilFunc]).cells.size]!))
 [(0,Yll),(1,Yyo),(2,Zfk b2),(3,Zfk b3),(4,Zfk b4),(5,Zfk b5),(6,Zfk b6)]=some (Zdh b2 b3 b4 b5 b6):=by kernel_rfl
theorem Ykd {o:Oper} (hJ:OJ w1 b1 b2 l a w) (ho:ops[7]? = some o) (hg:o.guard=none)
 (hop:o.op = .buildSlice 110 7 #[(0,.tmp 5),(1,.tmp 6),(2,.tmp 7),(3,.tmp 8),(4,.tmp 9),(5,.tmp 10),(6,.tmp 11)]) (hdst:o.dst=some 12) (hl:∀ j,j<7->l.getD j false=true) :
 wpOp Try.prog ops Q 7 (fun a' w'=>OJ w1 b1 b2 (l.setIfInBounds 7 true) a' w') a w:=by
 have e0:tm a 5=Yll:=hJ.sl 0 (by decide) (hl 0 (by decide))
 have e1:tm a 6=Yyo:=hJ.sl 1 (by decide) (hl 1 (by decide))
 obtain ⟨c2,e2,l2,h2⟩:Zbq w1.heap.size 64 (tm a 7) w:=hJ.sl 2 (by decide) (hl 2 (by decide))
 obtain ⟨c3,e3,l3,h3⟩:Zbq w1.heap.size 4096 (tm a 8) w:=hJ.sl 3 (by decide) (hl 3 (by decide))
 obtain ⟨c4,e4,l4,h4⟩:Zbq w1.heap.size 64 (tm a 9) w:=hJ.sl 4 (by decide) (hl 4 (by decide))
 obtain ⟨c5,e5,l5,h5⟩:Zbq w1.heap.size 5 (tm a 10) w:=hJ.sl 5 (by decide) (hl 5 (by decide))
 obtain ⟨c6,e6,l6,h6⟩:Zbq w1.heap.size 256 (tm a 11) w:=hJ.sl 6 (by decide) (hl 6 (by decide))
 obtain ⟨ie,i0,i1,i2,i3⟩:=info_parts Ybp
 have g:w.grownBy (w.alloc (.cells (Zdh c2 c3 c4 c5 c6) 121)) none:=Ga _ _ _
 refine Zeb ho hg (v := .slice (some ⟨w.heap.size,0,none⟩) 7 7) (w':=w.alloc (.cells (Zdh c2 c3 c4 c5 c6) 121)) ?_ ?_
 · have hp:((#[(0,.tmp 5),(1,.tmp 6),(2,.tmp 7),(3,.tmp 8),(4,.tmp 9),(5,.tmp 10),(6,.tmp 11)]:Array (Nat × Operand)).map fun (i,x)=>(i,a.eval x)).toList=[(0,Yll),(1,Yyo),(2,Zfk c2),(3,Zfk c3),(4,Zfk c4),(5,Zfk c5),(6,Zfk c6)]:=by
    unfold tm at e0 e1 e2 e3 e4 e5 e6
    simp only [Array.getD_eq_getD_getElem?] at e0 e1 e2 e3 e4 e5 e6
    simp [Act.eval,e0,e1,e2,e3,e4,e5,e6,Zfk]
   have hr:=run_buildSlice (P:=Try.prog) w 110 121 7 ((#[(0,.tmp 5),(1,.tmp 6),(2,.tmp 7),(3,.tmp 8),(4,.tmp 9),(5,.tmp 10),(6,.tmp 11)]:Array (Nat × Operand)).map fun (i,x)=>(i,a.eval x)) (Zdh c2 c3 c4 c5 c6) ie (.agg #[.nilFunc,.nilFunc,.nilFunc]) Ygo i0 i1 (by rw [i2];decide) (by rw [i2];decide) (by rw [i2,hp];exact Ybq c2 c3 c4 c5 c6)
   unfold execOp
   simp only [hop,Sem.run_bind,hr,Result.andThen_ok]
   rfl
 · rw [hdst]
   refine Zyt (i:=7) hJ (by decide) g ⟨_,rfl,by simp,hJ.g.size,fun k hk => ?_⟩
   have hc:∀ j v,(Zdh c2 c3 c4 c5 c6)[j]? = some v->(w.alloc (.cells (Zdh c2 c3 c4 c5 c6) 121)).cell? ⟨w.heap.size,j,none⟩=some v:=fun j v hj=>by rw [World.cell?_alloc_at (hn:=rfl)];exact hj
   have hb:∀ n c,w1.heap.size<=c->w.cell? ⟨c,0,none⟩=some (.int .i64 n)->Zbq w1.heap.size n (Zfk c) (w.alloc (.cells (Zdh c2 c3 c4 c5 c6) 121)):=fun n c h1 h=>⟨c,rfl,h1,g.cell h (by simp)⟩
   rcases (by omega:k=0\/k=1\/k=2\/k=3\/k=4\/k=5\/k=6) with rfl|rfl|rfl|rfl|rfl|rfl|rfl
   · exact ⟨_,_,_,rfl,hc _ _ rfl,hc _ _ rfl,hc _ _ rfl⟩
   · exact ⟨_,_,_,rfl,hc _ _ rfl,hc _ _ rfl,hc _ _ rfl⟩
   · exact ⟨_,_,_,hb _ _ l2 h2,hc _ _ rfl,hc _ _ rfl,hc _ _ rfl⟩
   · exact ⟨_,_,_,hb _ _ l3 h3,hc _ _ rfl,hc _ _ rfl,hc _ _ rfl⟩
   · exact ⟨_,_,_,hb _ _ l4 h4,hc _ _ rfl,hc _ _ rfl,hc _ _ rfl⟩
   · exact ⟨_,_,_,hb _ _ l5 h5,hc _ _ rfl,hc _ _ rfl,hc _ _ rfl⟩
   · exact ⟨_,_,_,hb _ _ l6 h6,hc _ _ rfl,hc _ _ rfl,hc _ _ rfl⟩
theorem Yqe {o:Oper} (hJ:OJ w1 b1 b2 l a w) (ho:ops[8]? = some o) (hg:o.guard=none) (hop:o.op = .assign (.tmp 12)) (hdst:o.dst=some 0) (hl:l.getD 7 false=true):wpOp Try.prog ops Q 8 (fun a' w'=>OJ w1 b1 b2 (l.setIfInBounds 8 true) a' w') a w:=by
 refine Zeb ho hg (v:=tm a 12) (w':=w) (by simp [execOp,hop,Act.eval,tm]) ?_
 rw [hdst]
 exact Zyt (i:=8) hJ (by decide) (Zc _ _) (hJ.sl 7 (by decide) hl)
end
def Zvp (w:World) (e:Ending) (w':World):Prop:=∃ S,e = .returned (.slice (some ⟨S,0,none⟩) 7 7)/\w.grownBy w' none/\Zgl w' w.heap.size S
theorem Zdp (w:World):Calls Try.prog 58 #[] w (Zvp w):=by
 go_enter Try.func58,Try.ntmps58
 go_wp2
 rename_i K hK
 have g1:w.grownBy ((w.alloc (.cells #[.func (.func 70) #[] #[],.func (.func 71) #[] #[],.func (.func 72) #[] #[]] 121)).alloc (.cells #[.func (.func 73) #[] #[],.func (.func 74) #[] #[],.func (.func 75) #[] #[]] 121)) none:=Za (Ga _ _ _) (Ga _ _ _)
 have hb1:=heap_alloc_new w (.cells #[.func (.func 70) #[] #[],.func (.func 71) #[] #[],.func (.func 72) #[] #[]] 121)
 have hb1':=Zb hb1 (Ga _ (.cells #[.func (.func 73) #[] #[],.func (.func 74) #[] #[],.func (.func 75) #[] #[]] 121) none) (by simp)
 have hb2:=Yi w (.cells #[.func (.func 70) #[] #[],.func (.func 71) #[] #[],.func (.func 72) #[] #[]] 121) (.cells #[.func (.func 73) #[] #[],.func (.func 74) #[] #[],.func (.func 75) #[] #[]] 121)
 clear hb1
 generalize (w.alloc (.cells #[.func (.func 70) #[] #[],.func (.func 71) #[] #[],.func (.func 72) #[] #[]] 121)).alloc (.cells #[.func (.func 73) #[] #[],.func (.func 74) #[] #[],.func (.func 75) #[] #[]] 121)=w1 at *
 refine wp_region_any (by kernel_rfl) ?_
 refine Zli (OJ w1 w.heap.size (w.heap.size+1)) ?step ?fin _ _ _ _ ?start (by simp)
 case start =>
  refine ⟨by simp,by simp,rfl,⟨rfl,rfl,rfl,Nat.le_refl _,fun _ _ _=>rfl⟩,rfl,rfl,?_⟩
  intro j hj h;exfalso;revert h;simp only [List.size_toArray];rw [getD_replicate_false];simp
 case fin =>
  intro l a w' hJ hr
  have hl:=Yco (Yxo (by kernel_rfl)) hr hJ.sz
  obtain ⟨S,hS,hk⟩:∃ S,tm a 0 = .slice (some ⟨S,0,none⟩) 7 7/\Zgl w' w1.heap.size S:=hJ.sl 8 (by decide) (hl 8 (by decide))
  refine hK _ _ ?_
  go_wp2
  refine bodyPost_ret (v := .slice (some ⟨S,0,none⟩) 7 7) ?_ hJ.df ⟨S,rfl,Za g1 hJ.g,Ybs hk g1.size⟩
  rw [results_tmp rfl]
  unfold tm at hS
  rw [hS]
 case step =>
  intro l a w' i hJ hi
  have hi9:i<9:=by
   obtain ⟨_,o,ho,_⟩:=mem_ready.1 hi
   exact (Gs ho)
  rcases (by omega:i=0\/i=1\/i=2\/i=3\/i=4\/i=5\/i=6\/i=7\/i=8) with rfl|rfl|rfl|rfl|rfl|rfl|rfl|rfl|rfl
  · exact Yeb hJ rfl rfl rfl rfl (by decide) hJ.t1 (Cq _ _ _ _ _ _ hb1') (Cq _ _ _ _ _ _ hb1') (Cq _ _ _ _ _ _ hb1') (fun w=>rfl)
  · exact Yeb hJ rfl rfl rfl rfl (by decide) hJ.t2 (Cq _ _ _ _ _ _ hb2) (Cq _ _ _ _ _ _ hb2) (Cq _ _ _ _ _ _ hb2) (fun w=>rfl)
  · exact Zhz hJ rfl rfl rfl rfl (by decide) (fun _ _ h=>h)
  · exact Zhz hJ rfl rfl rfl rfl (by decide) (fun _ _ h=>h)
  · exact Zhz hJ rfl rfl rfl rfl (by decide) (fun _ _ h=>h)
  · exact Zhz hJ rfl rfl rfl rfl (by decide) (fun _ _ h=>h)
  · exact Zhz hJ rfl rfl rfl rfl (by decide) (fun _ _ h=>h)
  · refine Ykd hJ rfl rfl rfl rfl fun j hj => ?_
    rcases (by omega:j=0\/j=1\/j=2\/j=3\/j=4\/j=5\/j=6) with rfl|rfl|rfl|rfl|rfl|rfl|rfl
    · exact Zf hi 0 (by kernel_rfl)
    · exact Zf hi 1 (by kernel_rfl)
    · exact Zf hi 2 (by kernel_rfl)
    · exact Zf hi 3 (by kernel_rfl)
    · exact Zf hi 4 (by kernel_rfl)
    · exact Zf hi 5 (by kernel_rfl)
    · exact Zf hi 6 (by kernel_rfl)
  · exact Yqe hJ rfl rfl rfl rfl (Zf hi 7 (by kernel_rfl))
def Ynx (w:World) (e:Ending) (w':World):Prop :=
 ∃ g n c xs,e = .returned (.slice (some ⟨g,0,none⟩) n c)/\1<=n/\n<=9/\w'.ownsRow w.heap.size 5 1 (.slice (some ⟨g,0,none⟩) n c) n xs/\(∀ u∈xs,u.oneCell'=true)/\w.grownBy w' none
theorem Zzq (u:Int) (h0:0<=u) (hu:u<18446744073709551616) (w:World) :
 Calls Try.prog 80 #[.int .u64 u] w (Ynx w):=by
 by_cases h1:u<248
 · go_enter Try.func80,Try.ntmps80
   go_wp2
   go_ret
   refine ⟨_,1,1,[_],rfl,by decide,by decide,World.ownsRow_lit w #[_] 1 (Nat.le_refl _) (by decide) rfl,Zcb _ _,Ga _ _ _⟩
 · go_enter Try.func80,Try.ntmps80
   go_wp2
   go_loopw [3] (fun v wr=>∃ k:Nat,1<=k/\k<=8/\v = .int .i64 k/\wr=w) (fun v _=>(intOf v).toNat)
   case atStart=>exact ⟨8,by decide,by decide,rfl,rfl⟩
   case round =>
    obtain ⟨k,hk1,hk8,rfl,rfl⟩:=hrel
    by_cases hz:u / 2 ^ (8*(k - 1))=0
    · have hz2:(u / 2 ^ (8*(k - 1)) == 0)=true:=by simp [hz]
      have hk2:2<=k:=by
       rcases Nat.lt_or_ge k 2 with h|h
       · have e:k=1:=by omega
         subst e
         simp at hz
         omega
       · exact h
      clear hz
      go_wp2
      refine ⟨⟨k - 1,by omega,by omega,by congr 1;omega,trivial⟩,by simp [intOf];omega⟩
    · have hz2:(u / 2 ^ (8*(k - 1)) == 0)=false:=by simp [hz]
      clear hz
      obtain ⟨bi,bi0,bi1,bi2,bi3⟩:=info_parts Znj
      go_wp2
      clear hz2
      have O0:=Hq (World.ownsRow_lit (base:=wr.heap.size) (e:=5) (size:=1) wr #[Value.int IntKind.u8 (247+↑k)] 1 (Nat.le_refl _) (by decide) rfl)
      have G0:=Hq (Ga wr (.cells #[Value.int IntKind.u8 (247+↑k)] 5) none)
      obtain ⟨w0,hw0⟩:∃ w0,w0=wr:=⟨_,rfl⟩
      subst hw0
      generalize w0.alloc (.cells #[Value.int IntKind.u8 (247+↑k)] 5)=w1 at *
      go_loopw [4,5] (fun v i wr=>∃ (n:Nat) (xs:List Value) (j:Int),i = .int .i64 j /\ -1<=j/\(n:Int)+j=k/\1<=n/\wr.ownsRow w0.heap.size 5 1 v n xs/\(∀ u∈xs,u.oneCell'=true)/\w0.grownBy wr none) (fun _ i _=>(intOf i+1).toNat)
      case atStart=>exact ⟨1,_,(k:Int) - 1,rfl,by omega,by omega,Nat.le_refl _,O0.out,Zcb _ _,G0.out⟩
      case round =>
       obtain ⟨n,xs,j,rfl,hj,hn,hn1,hown,ho1,hg⟩:=hrel
       have HO:=Hq ho1
       have OW:=Hq hown
       have GW:=Hq hg
       obtain ⟨m,rfl⟩:∃ m,n=m+1:=⟨n - 1,by omega⟩
       obtain ⟨g,c,rfl⟩:=Xv hown
       have hc3:m+1+1<=maxLen:=by unfold maxLen;omega
       have hc4:(m+1+1)*1<=140737488355328:=by omega
       have hE:∀ o,w0.heap.size<=(wr.alloc o).heap.size:=fun o=>by have:=hg.size;simp;omega
       clear hown hg ho1
       by_cases h2:0<=j
       · go_wp2_with (at_builtin;refine wpList_append_own_at _ rfl _ _ 22 rfl w0.heap.size 5 bi (.int .u8 0) 1 1 Ziy bi0 bi1 bi2 bi3 rfl (by decide) (.slice (some ⟨g,0,none⟩) (m+1) c) _ _ rfl (OW.out.alloc _) ⟨wr.heap.size,0,none⟩ 1 1 [.int .u8 _] rfl rfl (Zfz wr _ _) (Zcb _ _) hc3 hc4 (hE _) ?_;intro v3 w3 hown3 hgr3 hnil3 hat3;obtain ⟨p3,k3,hv3⟩:=Zq hown3;subst hv3;have OW3:=Hq hown3;have GR3:=Hq hgr3;clear hown3 hgr3 hnil3 hat3)
         refine ⟨⟨m+1+1,_,j - 1,rfl,by omega,by omega,by omega,OW3.out,fun u hu=>(List.mem_append.1 hu).elim (HO.out u) (Zcb _ _ u),Yu (Za GW.out (Ga _ _ none)) GR3.out fun k hk=>(OW.out.lt k hk).1⟩,by simp [intOf];omega⟩
       · go_wp2
         go_ret
         exact ⟨_,_,_,_,rfl,by omega,by omega,OW.out,HO.out,GW.out⟩
structure MwAt (w:World) (E Bw:Nat) (vb:Value) (n:Nat) (xs:List Value):Prop where
 box:w.heap[Bw]? = some (.cells #[vb,.int .i64 0] 131 (0,0))
 row:w.ownsRow E 5 1 vb n xs
 lt:Bw<E
 le:E<=w.heap.size
def MwP (Bw:Nat) (vb:Value) (k:Nat):Prop:=k=Bw\/vb.ownBlock=some k
theorem Zyx {w:World} {E Bw n:Nat} {vb:Value} {xs:List Value} (h:MwAt w E Bw vb n xs) (o:Obj):MwAt (w.alloc o) E Bw vb n xs :=
 ⟨Zb h.box (Ga _ _ none) (by simp),h.row.alloc o,h.lt,Zpy h.le o⟩
structure Znw (w w':World) (E Bw:Nat) (vb v':Value) (n:Nat) (xs:List Value):Prop where
 at_:MwAt w' E Bw v' n xs
 sp:Sp (MwP Bw vb) w w'
 hat:v'.ownBlock=vb.ownBlock\/∃ k,v'.ownBlock=some k/\w.heap.size<=k
theorem Ywe {w w1:World} {E Bw n n':Nat} {vb v1:Value} {xs xs':List Value} (h:MwAt w E Bw vb n xs) (own:w1.ownsRow E 5 1 v1 n' xs') (g:w.grownBy w1 vb.ownBlock) (hat:v1.ownBlock=vb.ownBlock\/v1.ownBlock=some w.heap.size) :
 Znw w (w1.setCell ⟨Bw,0,none⟩ v1) E Bw vb v1 n' xs':=by
 have hlt:=h.lt
 have hle:=h.le
 have hb:=Zb h.box g (Zet h.row hlt)
 refine ⟨⟨by rw [Zi hb];rfl,Zdy own hlt,hlt,by rw [World.size_setCell];exact Nat.le_trans hle g.size⟩,?_,?_⟩
 · refine Xc (Yl (P:=MwP Bw vb) g fun k _ e=>Or.inr e) (Yl (P:=MwP Bw vb) (Zg w1 Bw 0 v1) fun k _ e => ?_) (fun _ _ h=>h)
   injection e with e;exact Or.inl e.symm
 · rcases hat with h1|h1
   · exact Or.inl h1
   · exact Or.inr ⟨_,h1,Nat.le_refl _⟩
def Ytr (w:World) (E Bw:Nat) (vb:Value) (n:Nat) (xs:List Value) (e:Ending) (w':World):Prop:=e = .returned (.tuple #[])/\∃ v',Znw w w' E Bw vb v' n xs
theorem Yjg (E Bw L g m c:Nat) (vb:Value) (n:Nat) (xs ys:List Value) (w:World) (hM:MwAt w E Bw vb n xs) (hl:w.cell? ⟨L,0,none⟩=some (.slice (some ⟨g,0,none⟩) m c))
 (hy:ys.length=m) (hc:∀ j u,ys[j]? = some u->w.cell? ((⟨g,0,none⟩:Addr).add j)=some u) (hone:∀ u∈ys,u.oneCell'=true) (hn:n+m<=4194304) (hm:1<=m) :
 Calls Try.prog 79 #[.pointer (some ⟨Bw,0,none⟩),.slice (some ⟨L,0,none⟩) 1 1] w (Ytr w E Bw vb (n+m) (xs++ys)):=by
 obtain ⟨pb,cb,rfl⟩:=Zq hM.row
 have MW:=Hq hM
 have c0:=Cq w Bw 0 _ _ _ hM.box
 have c1:=Cq w Bw 1 _ _ _ hM.box
 have z0:=frozen_of_row w Bw 0 _ _ hM.box
 have hlt:Bw<w.heap.size:=by have:=hM.lt;have:=hM.le;omega
 have hLl:=World.block_lt_of_cell? _ _ hl
 simp only [] at hLl
 have HC:=Hq hc
 have HO:=Hq hone
 have HY:=Hq hy
 have hle:=hM.le
 clear hc hone hM hy
 go_enter Try.func79,Try.ntmps79
 go_wp2
 go_loopw [4,16] (fun v i wr=>wr=w/\((i = .int .i64 0/\v = .int .i64 n)\/(i = .int .i64 1/\v = .int .i64 (n+m)))) (fun _ i _=>1 - (intOf i).toNat)
 case atStart=>exact ⟨rfl,Or.inl ⟨rfl,rfl⟩⟩
 case round =>
  obtain ⟨rfl,hrel⟩:=hrel
  rcases hrel with ⟨rfl,rfl⟩|⟨rfl,rfl⟩
  · go_wp2
    go_roundw
    case rel=>exact ⟨trivial,Or.inr ⟨rfl,rfl⟩⟩
    case measure=>decide
  · go_wp2
    obtain ⟨w0,hw0⟩:∃ w0,w0=wr:=⟨_,rfl⟩
    subst hw0
    go_loopw [39] (fun i wr=>(i = .int .i64 0/\wr=w0)\/(i = .int .i64 1/\∃ v',Znw w0 wr E Bw (.slice pb n cb) v' (n+m) (xs++ys))) (fun i _=>1 - (intOf i).toNat)
    case atStart=>exact Or.inl ⟨rfl,rfl⟩
    case round =>
     rcases hrel with ⟨rfl,rfl⟩|⟨rfl,hrel⟩
     · obtain ⟨bi,bi0,bi1,bi2,bi3⟩:=info_parts Znj
       have hc3:n+m<=maxLen:=by unfold maxLen;omega
       have hc4:(n+m)*1<=140737488355328:=by omega
       go_wp2_with (at_builtin;refine wpList_append_own_at _ rfl _ _ 22 rfl E 5 bi (.int .u8 0) 1 1 Ziy bi0 bi1 bi2 bi3 rfl (by decide) (.slice pb n cb) _ _ rfl MW.out.row ⟨g,0,none⟩ m c ys rfl (by rw [HY.out];omega) HC.out HO.out hc3 hc4 hle ?_;intro v3 w3 hown3 hgr3 hnil3 hat3;obtain ⟨p3,k3,hv3⟩:=Zq hown3;subst hv3;have FN:=Hq (Ywe MW.out hown3 hgr3 hat3);have zz:=frozen_of_row w3 Bw 0 _ _ (Zb MW.out.box hgr3 (Zet MW.out.row MW.out.lt));have cc:=Cq w3 Bw 0 _ _ _ (Zb MW.out.box hgr3 (Zet MW.out.row MW.out.lt));clear hown3 hgr3 hnil3 hat3)
       exact ⟨Or.inr ⟨rfl,_,FN.out⟩,by decide⟩
     · go_wp2
       go_end0
       exact ⟨rfl,hrel⟩
end Go.Proofs.Ythlkflagancdfaa.CK
