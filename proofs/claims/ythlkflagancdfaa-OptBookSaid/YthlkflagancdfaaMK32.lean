/-
  Part of a proof: contracts of functions and lemmas, each stated by its own theorem. Conditions: as each theorem states.
-/
import Derived.Test.YthlkflagancdfaaMK31
import Derived.Test.YthlkflagancdfaaMK30
import Derived.Test.YthlkflagancdfaaMK14
import Derived.Test.YthlkflagancdfaaMK12
import Derived.Laws.BytesArg
import Derived.Deep.QuietTactic
import Derived.BigQuiet
import Derived.Test.YthlkflagancdfaaMK13
import Derived.Test.YthlkflagancdfaaMK17
import Derived.Deep.Cut
import Derived.Outline
set_option linter.unusedSimpArgs false
set_option linter.unusedVariables false
set_option maxRecDepth 100000
set_option maxHeartbeats 16000000
namespace Go.Proofs.Ythlkflagancdfaa.OT
open Go.RowKit Go.Great
open Go.Proofs.Ythlkflagancdfaa.CK
theorem Yfm (mem:Int) (nd:Nat) (fs:List FnP) (pd pF:Option Addr) (cd cF B:Nat) (w:World) (hB:B<=w.heap.size) (hF:Yl w B pF fs) (hn:nd<=9223372036854775807) :
 Calls Try.prog 7 #[.agg #[.int .i64 mem,.slice pd nd cd,.slice pF fs.length cF]] w fun e w'=>w.grownBy w' none/\((e = .returned (.bool false)/\∃ err f n,Zfx mem nd fs err f n)\/(e = .returned (.bool true)/\∃ hs V,OkP mem nd fs hs V)):=by
 have R:=Hq (fun W (g:w.grownBy W none)=>Ygf mem nd fs pd pF cd cF B W (Nat.le_trans hB g.size) (Zq hF g (by simp)) hn)
 have G0:=Hq (Ga w (.cells #[.int .i64 mem,.slice pd nd cd,.slice pF fs.length cF] 25) none)
 clear hF
 go_enter Try.func7,Try.ntmps7
 go_wp2_with fail
 generalize w.alloc (.cells #[.int .i64 mem,.slice pd nd cd,.slice pF fs.length cF] 25)=w2 at *
 refine (R.out _ G0.out).mono ?_
 rintro e w3 ⟨g3,⟨err,f,n,rfl,hb⟩|⟨hp,hf,ho,F,gH,cH,gT,cT,gL,cL,gV,ce,co,gh,hs,V,rfl,hR⟩⟩
 · have G3:=Hq (Za G0.out (Za g3 (Za (Ga w3 (.cells #[.slice none 0 0,.slice none 0 0,.slice none 0 0,.slice none 0 0,.int .i64 0,.int .i64 0] 35) none) (Ga _ (.cells #[.int .i64 err,.int .i64 (f:Nat),.int .i64 (n:Nat)] 39) none))))
   have HB:=Hq hb
   have hne:=hb.1
   clear hb g3
   unfold Ykf
   go_wp2
   go_ret
   exact ⟨G3.out,Or.inl ⟨by simp [hne],err,f,n,HB.out⟩⟩
 · have G3:=Hq (Za G0.out (Za g3 (Za (Ga w3 (.cells #[.slice (some ⟨gH,0,none⟩) fs.length cH,.slice (some ⟨gT,0,none⟩) fs.length cT,.slice (some ⟨gL,0,none⟩) fs.length cL,.slice (some ⟨gV,0,none⟩) fs.length fs.length,.int .i64 ce,.int .i64 co] 35) none) (Ga _ (.cells #[.int .i64 0,.int .i64 0,.int .i64 0] 39) none))))
   have HO:=Hq (show OkP mem nd fs hs V from ⟨hp,hf,ho,hR.r,hR.l⟩)
   have hF:=hR.f
   clear hp hf ho hR g3
   subst hF
   unfold Zpt
   go_wp2
   go_ret
   exact ⟨G3.out,Or.inr ⟨by simp,hs,V,HO.out⟩⟩
def Ylk (fs:List FnP):Nat:=(fs.map fun f=>f.2.2.2.length).sum
theorem Zwl {fs:List FnP} {k:Nat} {f:FnP} (h:fs[k]? = some f):Ylk (fs.take (k+1))=Ylk (fs.take k)+f.2.2.2.length:=by
 obtain ⟨hk,e⟩:=List.getElem?_eq_some_iff.1 h
 unfold Ylk
 rw [List.take_succ_eq_append_getElem hk,List.map_append,List.sum_append,e]
 simp
theorem Zyw {fs:List FnP} (h:∀ f∈fs,f.2.2.2.length<=4096):∀ k,Ylk (fs.take k)<=4096*k
 | 0=>by simp [Ylk]
 | k+1=>by
   cases hf:fs[k]? with
   | none =>
     have hk:fs.length<=k:=by rw [List.getElem?_eq_none_iff] at hf;exact hf
     have:=Zyw h k
     rw [List.take_of_length_le hk] at this
     rw [List.take_of_length_le (by omega)]
     omega
   | some f =>
     rw [Zwl hf]
     have:=Zyw h k
     have:=h f (List.mem_of_getElem? hf)
     omega
theorem Yws (mem:Int) (vd:Value) (fs:List FnP) (pF:Option Addr) (cF B:Nat) (w:World) (hB:B<=w.heap.size) (hF:Yl w B pF fs) (hn:fs.length<=64) (hc:∀ f∈fs,f.2.2.2.length<=4096) (hvd:∃ p n c,vd = .slice p n c) :
 Calls Try.prog 10 #[.agg #[.int .i64 mem,vd,.slice pF fs.length cF]] w fun e w'=>e = .returned (.int .i64 (Ylk fs:Nat))/\w.grownBy w' none:=by
 obtain ⟨pd,nd,cd,rfl⟩:=hvd
 have G0:=Hq (Ga w (.cells #[.int .i64 mem,.slice pd nd cd,.slice pF fs.length cF] 25) none)
 have T0:=Hq (heap_alloc_new w (.cells #[.int .i64 mem,.slice pd nd cd,.slice pF fs.length cF] 25))
 have FF:=Hq (Zq hF G0.out (by simp))
 have HC:=Hq (Zyw hc)
 have HC2:=Hq hc
 have hni:(fs.length:Int)<=64:=by omega
 clear hF hc
 go_enter Try.func10,Try.ntmps10
 go_wp2
 generalize w.alloc (.cells #[.int .i64 mem,.slice pd nd cd,.slice pF fs.length cF] 25)=w2 at *
 go_loopw [3,4] (fun n i wr=>∃ k:Nat,i = .int .i64 k/\n = .int .i64 (Ylk (fs.take k):Nat)/\k<=fs.length/\w2.grownBy wr none) (fun _ i _=>fs.length - (intOf i).toNat)
 case atStart=>exact ⟨0,rfl,by simp [Ylk],Nat.zero_le _,Zc _ _⟩
 case round =>
  obtain ⟨k,rfl,rfl,hk,hg⟩:=hrel
  have HG:=Hq hg
  have hm:=HC.out k
  have t2:=Zb T0.out hg (by simp)
  have c2:=Cq _ _ 2 _ _ _ t2
  have lt:=(Gs t2)
  by_cases hlt:(k:Int)<(fs.length:Int)
  · obtain ⟨b,o,rfl,hb,hcc⟩:=(Zq FF.out hg (by simp)) (by omega)
    obtain ⟨⟨a,l,r,c⟩,hf⟩:∃ f,fs[k]? = some f:=⟨_,List.getElem?_eq_getElem (by omega)⟩
    obtain ⟨-,-,-,pc,cc,h4,-⟩:=hcc k a l r c hf
    have hb2:=World.block_lt_of_cell? _ _ h4
    have hcl:=HC2.out _ (List.mem_of_getElem? hf)
    simp only [] at hcl
    have AN:=Hq (Zwl hf)
    have hmi:((Ylk (fs.take k):Nat):Int)<=262144:=by omega
    have hci:(c.length:Int)<=4096:=by omega
    generalize Ylk (fs.take k)=m at *
    clear hg hcc t2 hf
    go_wp2
    go_roundw
    case rel=>exact ⟨k+1,by go_num,by rw [AN.out];simp only [];go_num,by omega,HG.out⟩
    case measure=>simp [intOf];omega
  · have hke:k=fs.length:=by omega
    subst hke
    rw [List.take_of_length_le (Nat.le_refl _)] at *
    clear hg t2
    go_wp2
    go_ret
    exact ⟨rfl,Za G0.out HG.out⟩
section
variable {mem:Int} {dl:List Int} {fs fsE:List FnP} {hs:Nat->List Int} {V:List Bool}
theorem Zlm (ho:OkP mem dl.length fs hs V) (hi:InP fs) (hE:Stps mem dl.length fs fsE) (hN:Xbt mem dl.length fsE) {w w':World} {e:Ending} (h:Zob w mem dl fs e w'):Zcu w mem dl fsE e w':=by
 obtain ⟨fs',st,⟨_,err,f,n,_,hb⟩|⟨hs',V',ho',hq,hg⟩⟩:=h
 · exact absurd hb (Zjt (Yft st (Zen ho)) err f n)
 · have:=Znm (muP fs) fs fsE fs' (Nat.le_refl _) hi hE st hN ⟨hs',V',ho',hq⟩
   subst this
   exact hg
theorem Ygw (ho:OkP mem dl.length fs hs V) {w w':World} {e:Ending} (h:Zob w mem dl fs e w'):∃ fsE,Stps mem dl.length fs fsE/\Xbt mem dl.length fsE/\Tk mem dl.length fsE/\Zcu w mem dl fsE e w':=by
 obtain ⟨fs',st,⟨_,err,f,n,_,hb⟩|⟨hs',V',ho',hq,hg⟩⟩:=h
 · exact absurd hb (Zjt (Yft st (Zen ho)) err f n)
 · exact ⟨fs',st,⟨hs',V',ho',hq⟩,Zen ho',hg⟩
noncomputable def Yny (fs:List FnP) (hs:Nat->List Int) (V:List Bool):List FnP:=match Jk fs hs V with|none=>fs|some (_,_,fs')=>fs'
theorem Zup (ho:OkP mem dl.length fs hs V) {w w':World} {e:Ending} (h:Zsx w mem dl fs e w'):Zcu w mem dl (Yny fs hs V) e w':=by
 obtain ⟨_,err,f,n,_,hb⟩|⟨hs',V',ho',hg⟩:=h
 · exact absurd hb (Zjt (Zen ho) err f n)
 · rw [Zgs ho' ho] at hg
   exact hg
theorem Yuk (ho:OkP mem dl.length fs hs V):Tk mem dl.length (Yny fs hs V):=by
 unfold Yny
 cases hq:Jk fs hs V with
 | none=>exact Zen ho
 | some x =>
   obtain ⟨p,what,fs'⟩:=x
   exact Yre ⟨hs,V,p,what,ho,hq⟩
theorem Zwx {nd:Nat} (T:Tk mem nd fs):1<=fs.length/\fs.length<=64/\(∀ f∈fs,1<=f.2.2.2.length/\f.2.2.2.length<=4096)/\nd<=65536:=by
 have P:=Zuf T.p
 have:=P.m
 exact ⟨P.l.1,P.l.2,fun f hf=>(P.f f hf).l,by omega⟩
theorem Yuf {nd:Nat} {f:FnP} {c:List Ins} (h0:fs[0]? = some f) (hc:f.2.2.2[0]? = some (4,0)):¬ Tk mem nd fs:=fun T=>by
 obtain ⟨H,F⟩:=T.h f (List.mem_of_getElem? h0)
 have hl:=(List.getElem?_eq_some_iff.1 hc).1
 have FA:=(Zbo (H:=H) hc (fun q=>absurd q (by decide))).1 (F.st 0 hl .z)
 have:=FA.need (by decide)
 rw [F.z] at this
 have:(1:Int)<=0:=this
 omega
theorem Ywk (hT:¬ Tk mem dl.length fs) {w w':World} {e:Ending} (h:Zob w mem dl fs e w'):e = .returned (.tuple #[Zud,.int .i64 152])/\w.grownBy w' none:=by
 obtain ⟨fs',st,hh⟩:=h
 rcases Zie st with rfl|⟨c,⟨hs,V,p,what,ho,_⟩,_⟩
 · rcases hh with ⟨g,err,f,n,he,_⟩|⟨hs,V,ho,_,_⟩
   · exact ⟨he,g⟩
   · exact absurd (Zen ho) hT
 · exact absurd (Zen ho) hT
theorem Yqo (hT:¬ Tk mem dl.length fs) {w w':World} {e:Ending} (h:Zjq w mem dl fs e w'):e = .returned (.tuple #[.agg #[.int .i64 0,.int .i64 0],.int .i64 0,.bool false])/\w.grownBy w' none:=by
 obtain ⟨g,⟨err,f,n,he,_⟩|⟨hs,V,ho,_⟩⟩:=h
 · exact ⟨he,g⟩
 · exact absurd (Zen ho) hT
end
def Yek (fs:List FnP) (cv:List Value):List FnV:=List.zipWith (fun f v=>(f.1,f.2.1,f.2.2.1,v)) fs cv
theorem Ztd:∀ (fs:List FnP) (cv:List Value),Zcr (Yek fs cv)=Xn fs cv
 | [],_=>by simp [Yek,Zcr,Xn]
 | _::_,[]=>by simp [Yek,Zcr,Xn]
 | f::r,v::s=>by
   have:=Ztd r s
   unfold Yek at this ⊢
   simp only [List.zipWith_cons_cons,Zcr,Xn,this]
theorem Zqa {fs:List FnP} {cv:List Value} (h:cv.length=fs.length):(Yek fs cv).length=fs.length:=by simp [Yek,h]
theorem Zhy {fs:List FnP} {cv:List Value} {k:Nat} {x:FnV} (h:(Yek fs cv)[k]? = some x):∃ f v,fs[k]? = some f/\cv[k]? = some v/\x=(f.1,f.2.1,f.2.2.1,v):=by
 unfold Yek at h
 rw [List.getElem?_zipWith] at h
 cases hf:fs[k]? with
 | none=>rw [hf] at h;simp at h
 | some f =>
   cases hv:cv[k]? with
   | none=>rw [hf,hv] at h;simp at h
   | some v=>rw [hf,hv] at h;simp at h;exact ⟨f,v,rfl,rfl,h.symm⟩
def Yxa (fs:List FnP) (k:Nat):List Ins:=match fs[k]? with|some f=>f.2.2.2|none=>[]
def pOf (dl:List Int) (fs:List FnP) (D F:Value) (cv:List Value):P1:=⟨D,dl,F,Yek fs cv,Yxa fs⟩
theorem Yzc {w:World} {base:Nat} {D F:Value} {dl:List Int} {fs:List FnP} {cv:List Value} (h:Zas w base D F dl fs cv):(pOf dl fs D F cv).at_ w:=by
 refine ⟨Zz h.dt (Nat.zero_le _),?_,fun k x hx => ?_,fun k l x y b hkl hx hy hb => ?_⟩
 · have:=Zz h.fr (Nat.zero_le base)
   unfold pOf
   simp only []
   rw [Zqa h.cl,Ztd]
   exact this
 · obtain ⟨f,v,hf,hv,rfl⟩:=Zhy hx
   have:=Zz (h.each k f v hf hv) (Nat.zero_le base)
   have e:(pOf dl fs D F cv).cc k=f.2.2.2:=by unfold pOf Yxa;simp only [];rw [hf]
   rw [e]
   exact this
 · obtain ⟨f,v,hf,hv,rfl⟩:=Zhy hx
   obtain ⟨f',v',hf',hv',rfl⟩:=Zhy hy
   exact h.dis k l v v' b hkl hv hv' hb
theorem Yzb {w:World} {base:Nat} {D F:Value} {dl:List Int} {fs:List FnP} {cv:List Value} (h:Zas w base D F dl fs cv) {k:Nat} (hk:(pOf dl fs D F cv).bl k):base<=k/\k<w.heap.size:=by
 rcases hk with e|e|⟨x,hx,e⟩
 · exact h.dt.lt k e
 · exact h.fr.lt k e
 · obtain ⟨i,hi⟩:=List.mem_iff_getElem?.1 hx
   obtain ⟨f,v,hf,hv,rfl⟩:=Zhy hi
   exact (h.each i f v hf hv).lt k e
structure Rec where
 D:Value
 F:Value
 cv:List Value
 fs:List FnP
 lo:Nat
 hi:Nat
def Rec.p (dl:List Int) (r:Rec):P1:=pOf dl r.fs r.D r.F r.cv
structure Ylx (w:World) (base:Nat) (dl:List Int) (rs:List Rec):Prop where
 own:∀ (i:Nat) (r:Rec),rs[i]? = some r->Zas w r.lo r.D r.F dl r.fs r.cv
 lo:∀ (i:Nat) (r:Rec),rs[i]? = some r->base<=r.lo/\r.hi<=w.heap.size/\∀ k,(r.p dl).bl k->r.lo<=k/\k<r.hi
 ord:∀ (i j:Nat) (r s:Rec),i<j->rs[i]? = some r->rs[j]? = some s->r.hi<=s.lo
theorem Ymi (w:World) (base:Nat) (dl:List Int):Ylx w base dl []:=⟨fun i r h=>by simp at h,fun i r h=>by simp at h,fun i j r s _ h=>by simp at h⟩
theorem Zic {w w':World} {base:Nat} {dl:List Int} {rs:List Rec} (h:Ylx w base dl rs) (g:w.grownBy w' none):Ylx w' base dl rs :=
 ⟨fun i r hr=>Yv (h.own i r hr) g,fun i r hr=>⟨(h.lo i r hr).1,Nat.le_trans (h.lo i r hr).2.1 g.size,(h.lo i r hr).2.2⟩,h.ord⟩
theorem Ztg {w w':World} {base:Nat} {dl:List Int} {rs:List Rec} {D F:Value} {fs:List FnP} {cv:List Value} (h:Ylx w base dl rs) (hb:base<=w.heap.size) (g:w.grownBy w' none) (o:Zas w' w.heap.size D F dl fs cv):Ylx w' base dl (rs++[⟨D,F,cv,fs,w.heap.size,w'.heap.size⟩]):=by
 have h':=Zic h g
 have hget:∀ (i:Nat) (r:Rec),(rs++[⟨D,F,cv,fs,w.heap.size,w'.heap.size⟩])[i]? = some r->rs[i]? = some r\/(i=rs.length/\r=⟨D,F,cv,fs,w.heap.size,w'.heap.size⟩):=fun i r hr=>by
  by_cases e:i<rs.length
  · rw [List.getElem?_append_left e] at hr;exact Or.inl hr
  · have hm:i=rs.length:=by have:=(List.getElem?_eq_some_iff.1 hr).1;simp at this;omega
    subst hm
    rw [List.getElem?_append_right (Nat.le_refl _)] at hr
    simp at hr
    exact Or.inr ⟨rfl,hr.symm⟩
 refine ⟨fun i r hr => ?_,fun i r hr => ?_,fun i j r s hij hr hs => ?_⟩
 · rcases hget i r hr with hr|⟨_,rfl⟩
   · exact h'.own i r hr
   · exact o
 · rcases hget i r hr with hr|⟨_,rfl⟩
   · exact h'.lo i r hr
   · exact ⟨hb,Nat.le_refl _,fun k hk=>Yzb o hk⟩
 · rcases hget i r hr with hr|⟨e,rfl⟩
   · rcases hget j s hs with hs|⟨_,rfl⟩
     · exact h.ord i j r s hij hr hs
     · exact (h.lo i r hr).2.1
   · have:=(List.getElem?_eq_some_iff.1 hs).1
     simp at this
     omega
def Zga (mem:Int):List Rec->List Value
 | []=>[]
 | r::l => .int .i64 mem::r.D::r.F::Zga mem l
theorem Zkr (mem:Int):∀ l:List Rec,(Zga mem l).length=l.length*3
 | []=>rfl
 | r::l=>by simp [Zga,Zkr mem l];omega
theorem Zgr (mem:Int):∀ l m:List Rec,Zga mem (l++m)=Zga mem l++Zga mem m
 | [],m=>rfl
 | r::l,m=>by simp [Zga,Zgr mem l m]
theorem Zvf (mem:Int):∀ (l:List Rec) (i:Nat) (r:Rec),l[i]? = some r->(Zga mem l)[i*3]? = some (.int .i64 mem)/\(Zga mem l)[i*3+1]? = some r.D/\(Zga mem l)[i*3+2]? = some r.F
 | [],i,r,h=>by simp at h
 | x::l,0,r,h=>by simp at h;subst h;simp [Zga]
 | x::l,i+1,r,h=>by
   obtain ⟨h1,h2,h3⟩:=Zvf mem l i r (by simpa using h)
   have e:(i+1)*3=i*3+1+1+1:=by omega
   rw [e]
   simp only [Zga]
   exact ⟨by simpa using h1,by simpa using h2,by simpa using h3⟩
def nth (dl:List Int) (rs:List Rec) (i:Nat):P1:=match rs[i]? with|some r=>r.p dl|none=>⟨undef,[],undef,[],fun _=>[]⟩
theorem Ysv {w:World} {base b0 A n cA:Nat} {mem:Int} {dl:List Int} {rs:List Rec} (h:Ylx w base dl rs) (hr:w.ownsRow b0 25 3 (.slice (some ⟨A,0,none⟩) n cA) rs.length (Zga mem rs)) :
 n=rs.length/\∃ K G,Yec w A K rs.length G (nth dl rs):=by
 rcases hr.2 with ⟨e,_⟩|⟨g,cap,cur,e,hbg,hgg,hnc,hcm,hcs,htake⟩
 · cases e
 · injection e with e1 e2 e3
   injection e1 with e1;injection e1 with e1
   subst e1;subst e2;subst e3
   have at_:∀ (i:Nat) (r:Rec),rs[i]? = some r->nth dl rs i=r.p dl:=fun i r hr=>by unfold nth;rw [hr]
   have ex:∀ i,i<rs.length->∃ r,rs[i]? = some r:=fun i hi=>⟨_,List.getElem?_eq_getElem hi⟩
   have hfl:=Zkr mem rs
   refine ⟨rfl,cur.size,fun i=>cur.getD i undef,⟨⟨cur,hgg,rfl,fun i hi => ?_⟩,?_,fun i hi => ?_,fun i hi => ?_,fun i j k hi hj hij hk => ?_,fun i hi => ?_⟩⟩
   · simp [Array.getD,hi]
   · rw [hcs];exact Nat.mul_le_mul_right _ hnc
   · obtain ⟨r,hr⟩:=ex i hi
     rw [at_ i r hr]
     obtain ⟨_,q1,q2⟩:=Zvf mem rs i r hr
     have get:∀ (j:Nat) (v:Value),j<rs.length*3->(Zga mem rs)[j]? = some v->cur.getD j undef=v:=fun j v hj hv=>by
      rw [<- htake,List.getElem?_take_of_lt hj] at hv
      rw [Array.getElem?_toList] at hv
      simp [Array.getD_eq_getD_getElem?,hv]
     exact ⟨get _ _ (by omega) q1,get _ _ (by omega) q2⟩
   · obtain ⟨r,hr⟩:=ex i hi
     rw [at_ i r hr]
     exact Yzc (h.own i r hr)
   · obtain ⟨r,hr⟩:=ex i hi
     obtain ⟨s,hs⟩:=ex j hj
     rw [at_ i r hr] at hk
     rw [at_ j s hs]
     intro hk2
     have a:=(h.lo i r hr).2.2 k hk
     have b:=(h.lo j s hs).2.2 k hk2
     rcases Nat.lt_or_gt_of_ne hij with c|c
     · have:=h.ord i j r s c hr hs;omega
     · have:=h.ord j i s r c hs hr;omega
   · obtain ⟨r,hr2⟩:=ex i hi
     rw [at_ i r hr2]
     have o:=h.own i r hr2
     intro hk
     rcases hk with e|e|⟨x,hx,e⟩
     · exact Yz (Zz o.dt (Nat.zero_le _)) (Zz hr (Nat.zero_le _)) (by decide) e rfl
     · exact Yz (Zz o.fr (Nat.zero_le _)) (Zz hr (Nat.zero_le _)) (by decide) e rfl
     · obtain ⟨j,hj⟩:=List.mem_iff_getElem?.1 hx
       obtain ⟨f,v,hf,hv,rfl⟩:=Zhy hj
       exact Yz (Zz (o.each j f v hf hv) (Nat.zero_le _)) (Zz hr (Nat.zero_le _)) (by decide) e rfl
theorem Ysu {dl:List Int} {rs:List Rec} (hn:rs.length<=100) (hd:dl.length<=1000000) (hT:∀ r∈rs,r.fs.length<=64/\(∀ f∈r.fs,1<=f.2.2.2.length/\f.2.2.2.length<=4096)/\r.cv.length=r.fs.length):Xfq rs.length (nth dl rs):=by
 have ex:∀ i,i<rs.length->∃ r,rs[i]? = some r/\nth dl rs i=r.p dl:=fun i hi=>⟨_,List.getElem?_eq_getElem hi,by unfold nth;rw [List.getElem?_eq_getElem hi]⟩
 refine ⟨hn,fun i hi => ?_,fun i hi => ?_,fun i hi k hk => ?_⟩
 · obtain ⟨r,hr,e⟩:=ex i hi
   obtain ⟨t1,t2,t3⟩:=hT r (List.mem_of_getElem? hr)
   rw [e]
   show (Yek r.fs r.cv).length<=1000
   rw [Zqa t3];omega
 · obtain ⟨r,hr,e⟩:=ex i hi
   rw [e]
   exact hd
 · obtain ⟨r,hr,e⟩:=ex i hi
   obtain ⟨t1,t2,t3⟩:=hT r (List.mem_of_getElem? hr)
   rw [e] at hk ⊢
   have hk:k<(Yek r.fs r.cv).length:=hk
   rw [Zqa t3] at hk
   show 0<(Yxa r.fs k).length/\(Yxa r.fs k).length<=1000000
   have hf:=List.getElem?_eq_getElem hk
   have hc:Yxa r.fs k=(r.fs[k]).2.2.2:=by unfold Yxa;rw [hf]
   rw [hc]
   have:=t2 _ (List.mem_of_getElem? hf)
   omega
theorem Zjk:Try.prog.underlying 22=some (.slice 5):=by kernel_rfl
theorem Znw:Try.prog.underlying 5=some (.int .u8):=by kernel_rfl
theorem Zql:Try.prog.underlying 9=some .string:=by kernel_rfl
theorem Ykn {w:World} {pd:Option Addr} {d:List Int} (h:Rd w pd (d.map (Value.int .u8))) (cd:Nat):(convert 22 9 (.slice pd d.length cd)).run Try.prog w = .ok (.string (strOfNums d)) w:=by
 rcases Nat.eq_zero_or_pos d.length with h0|h0
 · have hd:d=[]:=List.length_eq_zero_iff.1 h0
   subst hd
   cases pd with
   | none=>exact run_convert_bytes_nil w _ _ Zjk Znw _ _ _ Zql
   | some ad =>
     have hl:(loadCells ad 0).run Try.prog w = .ok (([]:List Int).map (Value.int .u8)).toArray w:=by simpa using run_loadCells_list (P:=Try.prog) w ad [] (by simp)
     rw [run_convert_bytes_string w _ _ _ _ _ cd Zjk Znw Zql]
     rw [show (([]:List Int).length)=0 from rfl,run_bytesToString w ad 0 cd [] hl]
     rfl
 · obtain ⟨b,o,rfl,hc⟩:=h (by intro e;simp at e;subst e;simp at h0)
   exact run_convert_bytes_arg w _ _ Zjk Znw b o d.length cd d rfl (fun i hi=>by
    rw [hc i (.int .u8 (d.getD i 0)) (by rw [List.getElem?_map,List.getElem?_eq_getElem hi];simp [List.getD_eq_getElem?_getD,List.getElem?_eq_getElem hi])]) _ Zql
def Xce (w:World) (b:Nat) (a l r:Int) (vc:Value):Prop:=w.heap[b]? = some (.cells #[.int .i64 a,.int .i64 l,.int .i64 r,vc] 52 (0,0))
theorem Zwi {w w':World} {b:Nat} {a l r:Int} {vc:Value} {row:Option Nat} (h:Xce w b a l r vc) (g:w.grownBy w' row) (hr:row≠some b):Xce w' b a l r vc:=Zb h g hr
def Xcd (w:World) (b:Nat) (m:Int) (vd vF:Value):Prop:=w.heap[b]? = some (.cells #[.int .i64 m,vd,vF] 25 (0,0))
theorem Zwh {w w':World} {b:Nat} {m:Int} {vd vF:Value} {row:Option Nat} (h:Xcd w b m vd vF) (g:w.grownBy w' row) (hr:row≠some b):Xcd w' b m vd vF:=Zb h g hr
theorem Zik (mem:Int) (dl:List Int) (fs:List FnP) (pd pd' pF pF':Option Addr) (cd cd' cF cF' B B':Nat) (w:World) (hB:B<=w.heap.size) (hB':B'<=w.heap.size) (hn:fs.length<=1000000000000) (hc:∀ x∈fs,x.2.2.2.length<=1000000000000)
 (hD:Rd w pd (dl.map (Value.int .u8))) (hD':Rd w pd' (dl.map (Value.int .u8))) (hF:Yl w B pF fs) (hF':Yl w B' pF' fs) :
 Calls Try.prog 12 #[.agg #[.int .i64 mem,.slice pd dl.length cd,.slice pF fs.length cF],.agg #[.int .i64 mem,.slice pd' dl.length cd',.slice pF' fs.length cF']] w fun e w'=>e = .returned (.bool true)/\w.grownBy w' none:=by
 have G2:=Za (Ga w (.cells #[.int .i64 mem,.slice pd dl.length cd,.slice pF fs.length cF] 25) none) (Ga _ (.cells #[.int .i64 mem,.slice pd' dl.length cd',.slice pF' fs.length cF'] 25) none)
 have PA:=Hq (Zq hF G2 (by simp))
 have PB:=Hq (Zq hF' G2 (by simp))
 have k1:=Ykn (Ys hD G2) cd
 have k2:=Ykn (Ys hD' G2) cd'
 have GB:=Hq G2
 have BA:=Hq (show Xcd ((w.alloc (.cells #[.int .i64 mem,.slice pd dl.length cd,.slice pF fs.length cF] 25)).alloc (.cells #[.int .i64 mem,.slice pd' dl.length cd',.slice pF' fs.length cF'] 25)) w.heap.size mem (.slice pd dl.length cd) (.slice pF fs.length cF) from Zb (heap_alloc_new w _) (Ga _ _ none) (by simp))
 have BB:=Hq (show Xcd ((w.alloc (.cells #[.int .i64 mem,.slice pd dl.length cd,.slice pF fs.length cF] 25)).alloc (.cells #[.int .i64 mem,.slice pd' dl.length cd',.slice pF' fs.length cF'] 25)) (w.heap.size+1) mem (.slice pd' dl.length cd') (.slice pF' fs.length cF') from Yr w _ _)
 have HC:=Hq hc
 have hBB:=Hq hB
 have hBB':=Hq hB'
 have hni:(fs.length:Int)<=1000000000000:=by omega
 clear hD hD' hF hF' G2 hc hB hB'
 go_enter Try.func12,Try.ntmps12
 go_wp2
 clear k1 k2
 generalize (w.alloc (.cells #[.int .i64 mem,.slice pd dl.length cd,.slice pF fs.length cF] 25)).alloc (.cells #[.int .i64 mem,.slice pd' dl.length cd',.slice pF' fs.length cF'] 25)=w2 at *
 go_loopw [5] (fun i wr=>∃ k:Nat,i = .int .i64 k/\k<=fs.length/\w2.grownBy wr none) (fun i _=>fs.length - (intOf i).toNat)
 case atStart=>exact ⟨0,rfl,Nat.zero_le _,Zc _ _⟩
 case round =>
  obtain ⟨k,rfl,hk,hg⟩:=hrel
  have HG:=Hq hg
  have hba:=Zwh BA.out hg (by simp)
  have hbb:=Zwh BB.out hg (by simp)
  have a2:=Cq wr _ 2 _ _ _ hba
  have b2:=Cq wr _ 2 _ _ _ hbb
  have al:=(Gs hba)
  have bbl:=(Gs hbb)
  by_cases hlt:(k:Int)<(fs.length:Int)
  · obtain ⟨⟨a,l,r,c⟩,hkf⟩:∃ x,fs[k]? = some x:=⟨_,List.getElem?_eq_getElem (by omega)⟩
    obtain ⟨ga,oa,ea,la,ca⟩:=Zq PA.out hg (by simp) (by omega)
    obtain ⟨gb,ob,eb,lb,cb⟩:=Zq PB.out hg (by simp) (by omega)
    subst ea;subst eb
    obtain ⟨f0,f1,f2,pc,cc,f3,q4⟩:=ca k a l r c hkf
    obtain ⟨f4,f5,f6,pc',cc',f7,t4⟩:=cb k a l r c hkf
    have la:=Nat.lt_of_lt_of_le la (Nat.le_trans hBB.out (Nat.le_trans GB.out.size hg.size))
    have lb:=Nat.lt_of_lt_of_le lb (Nat.le_trans hBB'.out (Nat.le_trans GB.out.size hg.size))
    have hcl:=HC.out _ (List.mem_of_getElem? hkf)
    simp only [] at hcl
    have hci:(c.length:Int)<=1000000000000:=by omega
    have GW:=Za (Ga wr (.cells #[.int .i64 a,.int .i64 l,.int .i64 r,.slice pc c.length cc] 52) none) (Ga _ (.cells #[.int .i64 a,.int .i64 l,.int .i64 r,.slice pc' c.length cc'] 52) none)
    have OA:=Hq (Xo q4 GW (by simp))
    have OB:=Hq (Xo t4 GW (by simp))
    have HGW:=Hq (Za hg GW)
    have XA:=Hq (show Xce ((wr.alloc (.cells #[.int .i64 a,.int .i64 l,.int .i64 r,.slice pc c.length cc] 52)).alloc (.cells #[.int .i64 a,.int .i64 l,.int .i64 r,.slice pc' c.length cc'] 52)) wr.heap.size a l r (.slice pc c.length cc) from Zb (heap_alloc_new wr _) (Ga _ _ none) (by simp))
    have XB:=Hq (show Xce ((wr.alloc (.cells #[.int .i64 a,.int .i64 l,.int .i64 r,.slice pc c.length cc] 52)).alloc (.cells #[.int .i64 a,.int .i64 l,.int .i64 r,.slice pc' c.length cc'] 52)) (wr.heap.size+1) a l r (.slice pc' c.length cc') from Yr wr _ _)
    clear hg hba hbb hkf ca cb q4 t4 GW
    go_wp2
    clear f0 f1 f2 f3 f4 f5 f6 f7 a2 b2 al bbl la lb
    obtain ⟨wo,hwo⟩:∃ wo,wo=wr:=⟨_,rfl⟩
    subst hwo
    generalize (wo.alloc (.cells #[.int .i64 a,.int .i64 l,.int .i64 r,.slice pc c.length cc] 52)).alloc (.cells #[.int .i64 a,.int .i64 l,.int .i64 r,.slice pc' c.length cc'] 52)=W at *
    generalize wo.heap.size=g0 at *
    go_loopw [8] (fun i wr=>∃ j:Nat,i = .int .i64 j/\j<=c.length/\W.grownBy wr none) (fun i _=>c.length - (intOf i).toNat)
    case atStart=>exact ⟨0,rfl,Nat.zero_le _,Zc _ _⟩
    case round =>
     obtain ⟨j,rfl,hj,hg⟩:=hrel
     have HG3:=Hq hg
     have hxa:=Zwi XA.out hg (by simp)
     have hxb:=Zwi XB.out hg (by simp)
     have a3:=Cq wr _ 3 _ _ _ hxa
     have b3:=Cq wr _ 3 _ _ _ hxb
     have al:=(Gs hxa)
     have bbl:=(Gs hxb)
     by_cases hlt2:(j:Int)<(c.length:Int)
     · obtain ⟨⟨x,y⟩,hxy⟩:∃ x,c[j]? = some x:=⟨_,List.getElem?_eq_getElem (by omega)⟩
       obtain ⟨ga,oa,ea,la,ca⟩:=Xo OA.out hg (by simp) (by omega)
       obtain ⟨gb,ob,eb,lb,cb⟩:=Xo OB.out hg (by simp) (by omega)
       subst ea;subst eb
       obtain ⟨f0,f1⟩:=ca j x y hxy
       obtain ⟨f2,f3⟩:=cb j x y hxy
       have la:=World.block_lt_of_cell? _ _ f0
       have lb:=World.block_lt_of_cell? _ _ f2
       clear hg hxa hxb ca cb hxy
       go_wp2
       go_quiet (fail)
       go_wp2
       go_roundw
       case rel=>exact ⟨j+1,by go_num,by omega,Zf HG3.out _⟩
       case measure=>simp [intOf];omega
     · clear hg hxa hxb
       go_wp2
       go_roundw
       case rel=>exact ⟨k+1,by go_num,by omega,Za HGW.out HG3.out⟩
       case measure=>simp [intOf];omega
  · clear hg hba hbb
    go_wp2
    go_ret
    exact ⟨rfl,Za GB.out HG.out⟩
end Go.Proofs.Ythlkflagancdfaa.OT
namespace Go.Proofs.Ythlkflagancdfaa.CK
open Go.RowKit Go.Great
theorem Zka {ops:Array Oper} {Q:Exit->Act->World->Prop} {a:Act} {i:Nat} {w w':World} {o:Oper} {K:Act->World->Prop} {v:Value} (ho:ops[i]? = some o) (hw:Region.wanted o (yielded ops a.tmps)=true) (hrun:(execOp a.eval o).run Try.prog w = .ok (.value v) w')
 (hK:K (a.put o.dst v) w'):wpOp Try.prog ops Q i K a w:=by
 unfold wpOp
 simp only [ho]
 rw [if_pos hw]
 refine Or.inl ?_
 unfold Oper.wp
 rw [hrun,Oper.upon_value]
 exact hK
structure Yei (s n c0:Nat) (D C:List (Nat × Nat)) (B B0:World->Prop) (F:Nat->World->Prop) (R:World->Prop) (l:Array Bool) (w:World):Prop where
 sz:l.size=n
 g:l.getD s false=false->B w
 u:l.getD c0 false=false->B0 w
 f:l.getD s false=false->∀ i,i<n->l.getD i false=true->(∀ p∈C,p.1=i->l.getD p.2 false=false)->F i w
 q:l.getD s false=true->R w
 x:l.getD s false=true->∀ j,j<n->l.getD j false=true
 cl:∀ p∈D,l.getD p.1 false=true->l.getD p.2 false=true
section
variable {s n c0 i:Nat} {D C:List (Nat × Nat)} {w w':World} {B B0:World->Prop} {F F':Nat->World->Prop} {R R':World->Prop} {l:Array Bool}
theorem Yep (hb:B w) (h0:B0 w):Yei s n c0 D C B B0 F R (Array.replicate n false) w :=
 ⟨by simp,fun _=>hb,fun _=>h0,fun _ i _ h=>(by rw [getD_replicate_false] at h;cases h),fun h=>(by rw [getD_replicate_false] at h;cases h),fun h=>(by rw [getD_replicate_false] at h;cases h),fun p _ h=>(by rw [getD_replicate_false] at h;cases h)⟩
theorem Yeq (h:Yei s n c0 D C B B0 F R l w) (hin:i<n) (hun:l.getD i false=false):l.getD s false=false:=by
 cases e:l.getD s false with
 | false=>rfl
 | true=>rw [h.x e i hin] at hun;cases hun
theorem Zlf (h:Yei s n c0 D C B B0 F R l w) (hin:i<n) (hun:l.getD i false=false) (hs:i≠s) (hp:∀ p∈D,p.1=i->l.getD p.2 false=true) (g:B w') (h0:i≠c0->l.getD c0 false=false->B0 w->B0 w') (hk:∀ j,j<n->j≠i->l.getD j false=true->(∀ p∈C,p.1=j->p.2≠i/\l.getD p.2 false=false)->F j w->F' j w') (hF:F' i w'):Yei s n c0 D C B B0 F' R' (l.setIfInBounds i true) w':=by
 have gs:(l.setIfInBounds i true).getD s false=l.getD s false:=by rw [Yd l i s (by rw [h.sz];exact hin),if_neg (Ne.symm hs)]
 have ns:=Yeq h hin hun
 refine ⟨by simp [h.sz],fun _=>g,fun e => ?_,fun _ j hj e hc => ?_,fun e => ?_,fun e => ?_,Yma h.sz hin h.cl hp⟩
 · rw [Yd l i c0 (by rw [h.sz];exact hin)] at e
   by_cases c:c0=i
   · rw [if_pos c] at e;cases e
   · rw [if_neg c] at e;exact h0 (Ne.symm c) e (h.u e)
 · have hc':∀ p∈C,p.1=j->p.2≠i/\l.getD p.2 false=false:=fun p hp e1=>by
    have h1:=hc p hp e1
    rw [Yd l i p.2 (by rw [h.sz];exact hin)] at h1
    by_cases e2:p.2=i
    · rw [if_pos e2] at h1;cases h1
    · rw [if_neg e2] at h1;exact ⟨e2,h1⟩
   rw [Yd l i j (by rw [h.sz];exact hin)] at e
   by_cases c:j=i
   · subst c;exact hF
   · rw [if_neg c] at e;exact hk j hj c e hc' (h.f ns j hj e fun p hp e1=>(hc' p hp e1).2)
 · rw [gs,ns] at e;cases e
 · rw [gs,ns] at e;cases e
theorem Ymf (h:Yei s n c0 D C B B0 F R l w) (hin:i<n) (hun:l.getD i false=false) (hs:i≠s) (hp:∀ p∈D,p.1=i->l.getD p.2 false=true) (hF:F i w):Yei s n c0 D C B B0 F R (l.setIfInBounds i true) w :=
 Zlf h hin hun hs hp (h.g (Yeq h hin hun)) (fun _ _ h0=>h0) (fun j _ _ _ _ hj=>hj) hF
theorem Yeo (h:Yei s n c0 D C B B0 F R l w) (hin:s<n) (hc0:c0<n) (hall:∀ j,j<n->j≠s->l.getD j false=true) (hp:∀ p∈D,p.1=s->l.getD p.2 false=true) (hq:R w'):Yei s n c0 D C B B0 F R (l.setIfInBounds s true) w':=by
 have gj:∀ j,j<n->(l.setIfInBounds s true).getD j false=true:=fun j hj=>by
  rw [Yd l s j (by rw [h.sz];exact hin)]
  by_cases e:j=s
  · rw [if_pos e]
  · rw [if_neg e];exact hall j hj e
 refine ⟨by simp [h.sz],fun e => ?_,fun e => ?_,fun e => ?_,fun _=>hq,fun _=>gj,Yma h.sz hin h.cl hp⟩
 · rw [gj s hin] at e;cases e
 · rw [gj c0 hc0] at e;cases e
 · rw [gj s hin] at e;cases e
end
section
variable {ops:Array Oper} {Q:Exit->Act->World->Prop} {a0 a:Act} {s n c0 i N:Nat} {dst:Nat->Nat} {val:Nat->Value} {D C:List (Nat × Nat)} {B B0:World->Prop} {F:Nat->World->Prop} {R:World->Prop} {l:Array Bool} {w':World} {o:Oper}
theorem Ztx (hJ:RJ a0 N n dst val l a) (hW:Yei s n c0 D C B B0 F R l w') (hR:i∈Region.ready .any ops l) (hun:l.getD i false=false) (ho:ops[i]? = some o) (hw:Region.wanted o (yielded ops a.tmps)=true) (hdst:o.dst=some (dst i)) (hi:i<n) (hd:dst i<N) (hne:∀ j,j<n->j≠i->dst j≠dst i) (hrun:(execOp a.eval o).run Try.prog w' = .ok (.value (val i)) w')
 (h:i≠s/\(D.all fun p=>p.1 != i || ((ops[i]?).any fun o=>o.after.any fun e=>e.on == p.2 && Region.binds .any e))=true/\F i w') :
 wpOp Try.prog ops Q i (fun a' w''=>RJ a0 N n dst val (l.setIfInBounds i true) a'/\Yei s n c0 D C B B0 F R (l.setIfInBounds i true) w'') a w' :=
 Zdd (WS:=fun l w=>Yei s n c0 D C B B0 F R l w) hJ ho hw hdst hi hd hne hrun (Ymf hW hi hun h.1 (Zr D hR h.2.1) h.2.2)
end
theorem Yra {l:Array Bool} {C:List (Nat × Nat)} {i:Nat} (h:i ∉ C.map Prod.fst):∀ p∈C,p.1=i->l.getD p.2 false=false:=fun p hp e=>absurd (List.mem_map.2 ⟨p,hp,e⟩) h
theorem Yev {l:Array Bool} {C:List (Nat × Nat)} {i c:Nat} (h:∀ p∈C,p.1=i->p.2=c) (hun:l.getD c false=false):∀ p∈C,p.1=i->l.getD p.2 false=false:=fun p hp e=>by rw [h p hp e];exact hun
theorem Zeo {l:Array Bool} {c:Nat} {P:Prop} (h:l.getD c false=true) (hun:l.getD c false=false):P:=by rw [hun] at h;cases h
end Go.Proofs.Ythlkflagancdfaa.CK
namespace Go.Proofs.Ythlkflagancdfaa.OT
open Go.RowKit Go.Great
open Go.Proofs.Ythlkflagancdfaa.CK
theorem Yqk:(Try.prog.info? 5).map (fun i=>(i.zero,i.size,i.bytes))=some (some (.int .u8 0),1,1):=by kernel_rfl
theorem Zvp (w:World) (e:TypeId) (size:Nat):(w.alloc (.cells #[] e)).ownsRow w.heap.size e size (.slice (some ⟨w.heap.size,0,none⟩) 0 0) 0 [] :=
 World.ownsRow_lit w #[] 0 (Nat.le_refl _) (by unfold maxLen;omega) (by simp)
theorem Zhr {P:Program} {w:World} (base:Nat) (t ty e:TypeId) (i:TypeInfo) (size:Nat) (ht:P.underlying t=some (.slice e)) (hi:P.info? e=some i)
 (v:Value) (n c:Nat) (xs:List Value) (hown:w.ownsRow base e size v n xs) :
 (Builtin.append_ #[t,t] ty #[v,.slice none 0 c]).run P w = .ok v w:=by
 rcases hown.2 with ⟨rfl,rfl⟩|⟨g,cap,cur,rfl,_,_,hnc,_⟩
 · simp [Builtin.append_,run_underlying ht,sizeOf,typeInfo,hi,Builtin.lenOf,Builtin.firstCells]
 · simp [Builtin.append_,run_underlying ht,sizeOf,typeInfo,hi,Builtin.lenOf,Builtin.firstCells,hnc,storeCells]
theorem Zim {P:Program} (w:World) (base:Nat) (t ty e:TypeId) (i:TypeInfo) (z:Value) (size bytes:Nat) (ht:P.underlying t=some (.slice e)) (hi:P.info? e=some i) (hz:i.zero=some z)
 (hsize:i.size=size) (hby:i.bytes=bytes) (hzs:z.cells.size=size) (hsz:0<size) (v:Value) (n:Nat) (xs:List Value) (hown:w.ownsRow base e size v n xs)
 (q:Option Addr) (m c:Nat) (news:List Value) (hl:news.length=m*size) (hq:Rd w q news) (h1:∀ u∈news,u.oneCell'=true)
 (h63:n+m<=maxLen) (hbytes:(n+m)*bytes<=140737488355328) (hbase:base<=w.heap.size) :
 ∃ (p':Option Addr) (c':Nat) (w':World),(Builtin.append_ #[t,t] ty #[v,.slice q m c]).run P w = .ok (.slice p' (n+m) c') w'/\w'.ownsRow base e size (.slice p' (n+m) c') (n+m) (xs++news)/\w.grownBy w' v.ownBlock:=by
 cases q with
 | some ad =>
   obtain ⟨v',w',h2,h3,h4,_⟩:=run_append_own_at (P:=P) (w:=w) base t ty e i z size bytes ht hi hz hsize hby hzs hsz v n xs hown ad m c news hl (Zis hq) h1 h63 hbytes hbase
   obtain ⟨p',c',rfl⟩:=Zp h3
   exact ⟨p',c',w',h2,h3,h4⟩
 | none =>
   have e0:=Zmp hq
   subst e0
   have hm:m=0:=by
    have h2:m*size=0:=by simpa using hl.symm
    rcases Nat.mul_eq_zero.1 h2 with h3|h3
    · exact h3
    · omega
   subst hm
   obtain ⟨p',c',rfl⟩:=Zp hown
   exact ⟨p',c',w,Zhr (P:=P) (w:=w) base t ty e i size ht hi _ n c xs hown,by rw [List.append_nil];exact hown,by exact Zfu (Zc _ _)⟩
theorem Zzk {w:World} {b:Nat} {x0 x1 x2 y0 y1 y2:Value} {t:TypeId} (h:w.heap[b]? = some (.cells #[y0,y1,y2] t (0,0))):(((w.setCell ⟨b,0,none⟩ x0).setCell ⟨b,1,none⟩ x1).setCell ⟨b,2,none⟩ x2).heap[b]? = some (.cells #[x0,x1,x2] t (0,0)):=by
 rw [Zg (Zg (Zg h))];rfl
theorem Zpb {w w0:World} {b:Nat} {x0 x1 x2:Value} (g:w0.grownBy w none) (h:w0.heap.size<=b):w0.grownBy (((w.setCell ⟨b,0,none⟩ x0).setCell ⟨b,1,none⟩ x1).setCell ⟨b,2,none⟩ x2) none:=Zd (Zd (Zd g h) h) h
theorem Ymu {w:World} {b base n size:Nat} {e t:TypeId} {v x0 x1 x2:Value} {xs:List Value} {cs:Array Value} (h:w.ownsRow base e size v n xs) (hb:w.heap[b]? = some (.cells cs t (0,0))) (hne:e≠t):(((w.setCell ⟨b,0,none⟩ x0).setCell ⟨b,1,none⟩ x1).setCell ⟨b,2,none⟩ x2).ownsRow base e size v n xs:=by
 have g:w.grownBy (((w.setCell ⟨b,0,none⟩ x0).setCell ⟨b,1,none⟩ x1).setCell ⟨b,2,none⟩ x2) (some b):=Za (Za (Zh _ _ _ _) (Zh _ _ _ _)) (Zh _ _ _ _)
 exact h.kept g (Or.inr (Yp h hb hne))
section
variable {P:Program} {w:World}
theorem Zbs {ops:Array Oper} {rest:List Oper} {o:Oper} {a:Act} {Q:Exit->Act->World->Prop} (hgd:o.guard=none) (s x:Operand) (t:TypeId)
 (ho:o.op = .call { callee := .builtin .append,args := #[s,x],argTypes := #[t,t] })
 (base:Nat) (e:TypeId) (i:TypeInfo) (z:Value) (size bytes:Nat) (ht:P.underlying t=some (.slice e)) (hi:P.info? e=some i) (hz:i.zero=some z)
 (hsize:i.size=size) (hby:i.bytes=bytes) (hzs:z.cells.size=size) (hsz:0<size)
 (v:Value) (n:Nat) (xs:List Value) (hs:a.eval s=v) (hown:w.ownsRow base e size v n xs)
 (q:Option Addr) (m c:Nat) (news:List Value) (hx:a.eval x = .slice q m c) (hl:news.length=m*size) (hq:Rd w q news) (h1:∀ u∈news,u.oneCell'=true)
 (h63:n+m<=maxLen) (hbytes:(n+m)*bytes<=140737488355328) (hbase:base<=w.heap.size)
 (h:∀ (p':Option Addr) (c':Nat) (w':World),w'.ownsRow base e size (.slice p' (n+m) c') (n+m) (xs++news)->w.grownBy w' v.ownBlock->wpList P ops Q rest (a.put o.dst (.slice p' (n+m) c')) w') :
 wpList P ops Q (o::rest) a w:=by
 obtain ⟨p',c',w',hrun,h2,h3⟩:=Zim (P:=P) w base t o.type e i z size bytes ht hi hz hsize hby hzs hsz v n xs hown q m c news hl hq h1 h63 hbytes hbase
 refine wpList_plain hgd fun K hK => ?_
 unfold Oper.wp
 simp [execOp,ho,resolve,invoke,builtin,hs,hx,hrun,Result.andThen]
 exact hK _ _ (h p' c' w' h2 h3)
end
theorem Yub (w:World) (x0 x1 x2 x3:Value) (t:TypeId):Rd (w.alloc (.cells #[x0,x1,x2,x3] t)) (some ⟨w.heap.size,0,none⟩) [x0,x1,x2,x3]:=fun _=>⟨w.heap.size,0,rfl,fun j u hj=>by
 rw [Nat.zero_add]
 have h:=heap_alloc_new w (.cells #[x0,x1,x2,x3] t)
 match j,hj with
 | 0,hj=>injection hj with hj;subst hj;exact Cq _ _ 0 _ _ _ h
 | 1,hj=>injection hj with hj;subst hj;exact Cq _ _ 1 _ _ _ h
 | 2,hj=>injection hj with hj;subst hj;exact Cq _ _ 2 _ _ _ h
 | 3,hj=>injection hj with hj;subst hj;exact Cq _ _ 3 _ _ _ h⟩
theorem Ynv (a b c:Int) (p:Option Addr) (n k:Nat):∀ u∈[Value.int .i64 a,.int .i64 b,.int .i64 c,.slice p n k],u.oneCell'=true:=by
 intro u hu
 simp only [List.mem_cons,List.not_mem_nil,or_false] at hu
 rcases hu with rfl|rfl|rfl|rfl <;> rfl
theorem Yua (w:World) (b o:Nat) (u x0 x1 x2 x3:Value) (t:TypeId):Rd ((w.setCell ⟨b,o,none⟩ u).alloc (.cells #[x0,x1,x2,x3] t)) (some ⟨w.heap.size,0,none⟩) [x0,x1,x2,x3]:=by
 have:=Yub (w.setCell ⟨b,o,none⟩ u) x0 x1 x2 x3 t
 rw [World.size_setCell] at this
 exact this
theorem Zps:∀ (fs:List FnP) (cv:List Value) (f:FnP) (v:Value),cv.length=fs.length->Xn (fs++[f]) (cv++[v])=Xn fs cv++[.int .i64 f.1,.int .i64 f.2.1,.int .i64 f.2.2.1,v]
 | [],[],f,v,_=>rfl
 | [],_::_,f,v,h=>by simp at h
 | _::_,[],f,v,h=>by simp at h
 | g::r,u::s,f,v,h=>by
   have:=Zps r s f v (by simpa using h)
   simp only [List.cons_append,Xn,this]
theorem Ytq {wr w5 w7:World} {base b3 k:Nat} {D F F' v5:Value} {dl:List Int} {fs:List FnP} {cv:List Value} {cs:Array Value} {f:FnP} (h:Zas wr base D F dl (fs.take k) cv) (hf:fs[k]? = some f) (hb:base<=wr.heap.size) (g5:wr.grownBy w5 none) (o5:w5.ownsRow wr.heap.size 49 2 v5 f.2.2.2.length (Yc f.2.2.2))
 (g7:w5.grownBy w7 F.ownBlock) (o7:w7.ownsRow base 52 4 F' (k+1) (Xn (fs.take k) cv++[.int .i64 f.1,.int .i64 f.2.1,.int .i64 f.2.2.1,v5])) (hx:w7.heap[b3]? = some (.cells cs 25 (0,0))) :
 Zas (w7.setCell ⟨b3,2,none⟩ F') base D F' dl (fs.take (k+1)) (cv++[v5]):=by
 have hkl:=(List.getElem?_eq_some_iff.1 hf).1
 have htk:fs.take (k+1)=fs.take k++[f]:=by
  rw [List.take_succ_eq_append_getElem hkl]
  rw [List.getElem?_eq_getElem hkl] at hf
  injection hf with hf
  rw [hf]
 have hcl:cv.length=k:=by rw [h.cl,List.length_take];omega
 have hlen:(fs.take (k+1)).length=k+1:=by rw [List.length_take];omega
 have gs:=Zh w7 b3 2 F'
 have hfr5:=h.fr.kept g5 (Classical.em _)
 have nf:∀ {v2:Value} {n sz b:Nat} {xs:List Value} {E:TypeId},w5.ownsRow b E sz v2 n xs->E≠52->v2.ownBlock=none\/v2.ownBlock≠F.ownBlock:=fun ho hE=>by
  rcases hF:F.ownBlock with _|g
  · rename_i v2 _ _ _ _ _
    cases hv:v2.ownBlock with
    | none=>exact Or.inl rfl
    | some q=>exact Or.inr (by simp)
  · obtain ⟨pF,cF,rfl⟩:=Zp hfr5
    have hg:pF=some ⟨g,0,none⟩:=by
     rcases hfr5.2 with ⟨e,_⟩|⟨g',cap,cur,e,_⟩
     · injection e with e _ _;subst e;cases hF
     · injection e with e _ _
       subst e
       simp only [Value.ownBlock] at hF
       injection hF with hF;rw [hF]
    subst hg
    exact Xq (Zz ho (Nat.zero_le _)) (Zz hfr5 (Nat.zero_le _)) hE
 have nx:∀ {v2:Value} {n sz b:Nat} {xs:List Value} {E:TypeId},w7.ownsRow b E sz v2 n xs->E≠25->v2.ownBlock=none\/v2.ownBlock≠some b3:=fun ho hE=>Or.inr (Yp ho hx hE)
 have hdt5:=h.dt.kept g5 (Classical.em _)
 have hdt7:=hdt5.kept g7 (nf hdt5 (by decide))
 have o57:=o5.kept g7 (nf o5 (by decide))
 refine ⟨hdt7.kept gs (nx hdt7 (by decide)),?_,by rw [List.length_append,hcl,hlen];rfl,fun j g v hj hv => ?_,fun i j v v' q hij hi hj hq => ?_⟩
 · rw [hlen,htk,Zps _ _ _ _ h.cl]
   exact o7.kept gs (nx o7 (by decide))
 · by_cases e:j<k
   · rw [htk,List.getElem?_append_left (by rw [List.length_take];omega)] at hj
     rw [List.getElem?_append_left (by omega)] at hv
     have o:=(h.each j g v hj hv).kept g5 (Classical.em _)
     have o2:=o.kept g7 (nf o (by decide))
     exact o2.kept gs (nx o2 (by decide))
   · have hjl:=(List.getElem?_eq_some_iff.1 hv).1
     rw [List.length_append,hcl] at hjl
     simp at hjl
     have ej:j=k:=by omega
     subst ej
     rw [htk,List.getElem?_append_right (by rw [List.length_take];omega),List.length_take,Nat.min_eq_left (by omega),Nat.sub_self] at hj
     rw [List.getElem?_append_right (by omega),hcl,Nat.sub_self] at hv
     simp at hj hv
     subst hj;subst hv
     exact (Zz o57 hb).kept gs (nx o57 (by decide))
 · have low:∀ (i:Nat) (v:Value) (q:Nat),i<k->cv[i]? = some v->v.ownBlock=some q->q<wr.heap.size:=fun i v q hik hv hq=>by
    have:=h.each i _ v (List.getElem?_eq_getElem (by rw [List.length_take];omega)) hv
    exact (this.lt q hq).2
   have new:∀ (i:Nat) (v:Value),(cv++[v5])[i]? = some v->(i<k/\cv[i]? = some v)\/(i=k/\v=v5):=fun i v hv=>by
    by_cases e:i<k
    · rw [List.getElem?_append_left (by omega)] at hv;exact Or.inl ⟨e,hv⟩
    · have hjl:=(List.getElem?_eq_some_iff.1 hv).1
      rw [List.length_append,hcl] at hjl
      simp at hjl
      have ej:i=k:=by omega
      subst ej
      rw [List.getElem?_append_right (by omega),hcl,Nat.sub_self] at hv
      simp at hv
      exact Or.inr ⟨rfl,hv.symm⟩
   rcases new i v hi with ⟨h1,h2⟩|⟨rfl,rfl⟩
   · rcases new j v' hj with ⟨h3,h4⟩|⟨rfl,rfl⟩
     · exact h.dis i j v v' q hij h2 h4 hq
     · intro e
       have:=low i v q h1 h2 hq
       have:=(o5.lt q e).1
       omega
   · rcases new j v' hj with ⟨h3,h4⟩|⟨rfl,rfl⟩
     · intro e
       have:=low j v' q h3 h4 e
       have:=(o5.lt q hq).1
       omega
     · exact absurd rfl hij
theorem Xfz {wr w5:World} {base k:Nat} {D F:Value} {dl:List Int} {fs:List FnP} {cv:List Value} (h:Zas wr base D F dl (fs.take k) cv) (ht:(fs.take k).length=k) (g5:wr.grownBy w5 none) (u:Value) (o:Obj) :
 ((w5.setCell ⟨wr.heap.size,3,none⟩ u).alloc o).ownsRow base 52 4 F k (Xn (fs.take k) cv):=by
 have h5:=(h.fr.kept g5 (Classical.em _)).kept (Zh w5 wr.heap.size 3 u) (by
  cases hF:F.ownBlock with
  | none=>exact Or.inl rfl
  | some q =>
    refine Or.inr ?_
    intro e
    injection e with e
    have:=(h.fr.lt q hF).2
    omega)
 rw [ht] at h5
 exact h5.alloc o
section
variable {wr w5 w7:World} {base b3 k:Nat} {D F F' v5 u:Value} {dl:List Int} {fs:List FnP} {cv:List Value} {cs:Array Value} {f:FnP} {o:Obj}
theorem Xey (h:Zas wr base D F dl fs cv) (hb:wr.heap[b3]? = some (.cells cs 25 (0,0))) (g5:wr.grownBy w5 none) (g7:((w5.setCell ⟨wr.heap.size,3,none⟩ u).alloc o).grownBy w7 F.ownBlock):w7.heap[b3]? = some (.cells cs 25 (0,0)):=by
 have hl:=(Gs hb)
 exact Zb (Zb (Zb (Zb hb g5 (by simp)) (Zh w5 wr.heap.size 3 u) (by intro e;injection e with e;omega)) (Ga _ o none) (by simp)) g7 (Yp h.fr hb (by decide))
theorem Yas {w0 w w':World} {base:Nat} {e:TypeId} {size n:Nat} {v:Value} {xs:List Value} (h:w.ownsRow base e size v n xs) (hb:w0.heap.size<=base) (g0:w0.grownBy w none) {w1:World} (g1:w.grownBy w1 none) (g:w1.grownBy w' v.ownBlock):w0.grownBy w' none:=by
 cases hv:v.ownBlock with
 | none=>rw [hv] at g;exact Za (Za g0 g1) g
 | some q=>rw [hv] at g;exact Zds (Za g0 g1) g (Nat.le_trans hb (h.lt q hv).1)
theorem Ztr {w w5:World} (g5:w.grownBy w5 none) (u:Value) (o:Obj):w.grownBy ((w5.setCell ⟨w.heap.size,3,none⟩ u).alloc o) none:=Za (Zd g5 (Nat.le_refl _)) (Ga _ o none)
theorem Ymx (h:Zas wr base D F dl (fs.take k) cv) (hf:fs[k]? = some f) (hb:base<=wr.heap.size) (g5:wr.grownBy w5 none) (o5:w5.ownsRow (wr.heap.size+1) 49 2 v5 f.2.2.2.length (Yc f.2.2.2))
 (g7:((w5.setCell ⟨wr.heap.size,3,none⟩ u).alloc o).grownBy w7 F.ownBlock) (o7:w7.ownsRow base 52 4 F' (k+1) (Xn (fs.take k) cv++[.int .i64 f.1,.int .i64 f.2.1,.int .i64 f.2.2.1,v5])) (hx:w7.heap[b3]? = some (.cells cs 25 (0,0))) :
 Zas (w7.setCell ⟨b3,2,none⟩ F') base D F' dl (fs.take (k+1)) (cv++[v5]):=by
 have gb:=Za (Zh w5 wr.heap.size 3 u) (Zfu (r:=some wr.heap.size) (Ga (w5.setCell ⟨wr.heap.size,3,none⟩ u) o none))
 exact Ytq h hf hb (Ztr g5 u o) (Zz (o5.kept gb (Zpe o5 (Nat.lt_succ_self _))) (Nat.le_succ _)) g7 o7 hx
end
def rt1:Nat->Nat
 | 0=>6
 | 1=>7
 | 2=>8
 | 3=>9
 | 4=>10
 | 5=>11
 | 6=>12
 | 7=>3
 | 8=>1008
 | _=>5000
theorem Zin:∀ i,i<9->∀ j,j<9->j≠i->rt1 j≠rt1 i:=by decide
theorem Zkk (i:Nat) (h:i<9):i=0\/i=1\/i=2\/i=3\/i=4\/i=5\/i=6\/i=7\/i=8:=by omega
theorem Ygg (j:Nat) (hj:j∈[1]):∀ i,i<9->rt1 i≠j:=by revert j;decide
def Zpc (bs b1 nd cd:Nat) (mem:Int) (pd:Option Addr) (xs:List Value) (e2:Nat) (pv:Option Addr) (cv:Nat) (b3:Nat):Nat->Value
 | 0 => .pointer (some ⟨b1,0,none⟩)
 | 1 => .int .i64 mem
 | 2 => .slice (some ⟨e2,0,none⟩) 0 0
 | 3 => .pointer (some ⟨b1,1,none⟩)
 | 4 => .slice pd nd cd
 | 5 => .slice pv nd cv
 | 6 => .agg #[.int .i64 mem,.slice pv nd cv,.slice none 0 0]
 | 7 => .pointer (some ⟨b3,0,none⟩)
 | 8=>undef
 | _=>undef
def Xfw (bs b1 nd cd:Nat) (mem:Int) (pd:Option Addr) (xs:List Value) (e2:Nat) (pv:Option Addr) (cv:Nat) (b3:Nat):Nat->World->Prop
 | 2=>fun w9=>w9.ownsRow bs 5 1 (.slice (some ⟨e2,0,none⟩) 0 0) 0 []
 | 5=>fun w9=>w9.ownsRow bs 5 1 (.slice pv nd cv) nd xs
 | 7=>fun w9=>w9.heap[b3]? = some (.cells #[.int .i64 0,.slice none 0 0,.slice none 0 0] 25 (0,0))/\bs<=b3
 | _=>fun _=>True
theorem Yyj {bs b1 nd cd:Nat} {mem:Int} {pd:Option Addr} {xs:List Value} {e2:Nat} {pv:Option Addr} {cv:Nat} {b3:Nat} {e22:Nat} {l:Array Bool} (hcl:∀ p∈([(1,0),(4,3),(5,2),(5,4),(6,1),(6,5),(8,7),(8,6)]:List (Nat × Nat)),l.getD (Prod.fst p) false=true->l.getD (Prod.snd p) false=true) (hun:l.getD 2 false=false):∀ i,i<9->l.getD i false=true->rt1 i<37->Zpc bs b1 nd cd mem pd xs e22 pv cv b3 i=Zpc bs b1 nd cd mem pd xs e2 pv cv b3 i:=by
 intro i hi hl _
 rcases Zkk i hi with rfl|rfl|rfl|rfl|rfl|rfl|rfl|rfl|rfl
 · rfl
 · rfl
 · exact Zeo (hl) hun
 · rfl
 · rfl
 · rfl
 · rfl
 · rfl
 · rfl
theorem Yyi {bs b1 nd cd:Nat} {mem:Int} {pd:Option Addr} {xs:List Value} {e2:Nat} {pv:Option Addr} {cv:Nat} {b3:Nat} {pv2:Option Addr} {cv2:Nat} {l:Array Bool} (hcl:∀ p∈([(1,0),(4,3),(5,2),(5,4),(6,1),(6,5),(8,7),(8,6)]:List (Nat × Nat)),l.getD (Prod.fst p) false=true->l.getD (Prod.snd p) false=true) (hun:l.getD 5 false=false):∀ i,i<9->l.getD i false=true->rt1 i<37->Zpc bs b1 nd cd mem pd xs e2 pv2 cv2 b3 i=Zpc bs b1 nd cd mem pd xs e2 pv cv b3 i:=by
 intro i hi hl _
 rcases Zkk i hi with rfl|rfl|rfl|rfl|rfl|rfl|rfl|rfl|rfl
 · rfl
 · rfl
 · rfl
 · rfl
 · rfl
 · exact Zeo (hl) hun
 · exact Zeo (hcl (6,5) (by decide) (hl)) hun
 · rfl
 · rfl
theorem Yyh {bs b1 nd cd:Nat} {mem:Int} {pd:Option Addr} {xs:List Value} {e2:Nat} {pv:Option Addr} {cv:Nat} {b3:Nat} {b32:Nat} {l:Array Bool} (hcl:∀ p∈([(1,0),(4,3),(5,2),(5,4),(6,1),(6,5),(8,7),(8,6)]:List (Nat × Nat)),l.getD (Prod.fst p) false=true->l.getD (Prod.snd p) false=true) (hun:l.getD 7 false=false):∀ i,i<9->l.getD i false=true->rt1 i<37->Zpc bs b1 nd cd mem pd xs e2 pv cv b32 i=Zpc bs b1 nd cd mem pd xs e2 pv cv b3 i:=by
 intro i hi hl _
 rcases Zkk i hi with rfl|rfl|rfl|rfl|rfl|rfl|rfl|rfl|rfl
 · rfl
 · rfl
 · rfl
 · rfl
 · rfl
 · rfl
 · rfl
 · exact Zeo (hl) hun
 · rfl
theorem Zmj (mem:Int) (dl:List Int) (fs:List FnP) (pd pF:Option Addr) (cd cF B:Nat) (w:World) (hB:B<=w.heap.size) (hF:Yl w B pF fs) (hD:Rd w pd (dl.map (Value.int .u8))) (hd:dl.length<=4194304) (hn:fs.length<=2097152) (hc:∀ f∈fs,f.2.2.2.length<=4194304) :
 Calls Try.prog 17 #[.agg #[.int .i64 mem,.slice pd dl.length cd,.slice pF fs.length cF]] w (Zsv w mem dl fs):=by
 obtain ⟨bi,bi0,bi1,bi2,bi3⟩:=info_parts Yqk
 have T0:=Hq (Xc w (.cells #[.int .i64 mem,.slice pd dl.length cd,.slice pF fs.length cF] 25) (.cells #[.int .i64 0,.slice none 0 0,.slice none 0 0] 25))
 have T1:=Hq (Yr w (.cells #[.int .i64 mem,.slice pd dl.length cd,.slice pF fs.length cF] 25) (.cells #[.int .i64 0,.slice none 0 0,.slice none 0 0] 25))
 have G0:=Hq (Za (Ga w (.cells #[.int .i64 mem,.slice pd dl.length cd,.slice pF fs.length cF] 25) none) (Ga _ (.cells #[.int .i64 0,.slice none 0 0,.slice none 0 0] 25) none))
 have HF:=Hq hF
 have HD:=Hq (Ys hD G0.out)
 have HC:=Hq hc
 clear hF hD hc
 go_enter Try.func17,Try.ntmps17
 go_upto_region 1 with fail
 rename_i K hK
 have hz2:((w.alloc (.cells #[.int .i64 mem,.slice pd dl.length cd,.slice pF fs.length cF] 25)).alloc (.cells #[.int .i64 0,.slice none 0 0,.slice none 0 0] 25)).heap.size=w.heap.size+1+1:=by rw [World.size_alloc,World.size_alloc]
 have HZ2:=Hq hz2
 clear hz2
 generalize (w.alloc (.cells #[.int .i64 mem,.slice pd dl.length cd,.slice pF fs.length cF] 25)).alloc (.cells #[.int .i64 0,.slice none 0 0,.slice none 0 0] 25)=w2 at *
 have z0:=(Gs T0.out)
 have c0:=Cq _ _ 0 _ _ _ T0.out
 have c1:=Cq _ _ 1 _ _ _ T0.out
 refine Je (n:=9) (J:=fun a0 l a1 w1=>∃ (e2:Nat) (pv:Option Addr) (cv:Nat) (b3:Nat),RJ a0 37 9 rt1 (Zpc w2.drew.heap.size w.heap.size dl.length cd mem pd (dl.map (Value.int .u8)) e2 pv cv b3) l a1/\Yei 8 9 0 [(1,0),(4,3),(5,2),(5,4),(6,1),(6,5),(8,7),(8,6)] [(2,5)] (fun w9=>World.grownBy (w2.drew) w9 none) (fun _=>True) (Xfw w2.drew.heap.size w.heap.size dl.length cd mem pd (dl.map (Value.int .u8)) e2 pv cv b3) (fun w9=>w2.drew.grownBy w9 none/\w9.heap[b3]? = some (.cells #[.int .i64 mem,.slice pv dl.length cv,.slice none 0 0] 25 (0,0))/\w9.ownsRow w2.drew.heap.size 5 1 (.slice pv dl.length cv) dl.length (dl.map (Value.int .u8))/\w2.drew.heap.size<=b3) l w1) (by kernel_rfl) rfl (Zai (by kernel_rfl)) (fun l a1 w1 h=>by obtain ⟨_,_,_,_,h,_⟩:=h;exact h.sz) ⟨0,none,0,0,Jd rfl,Yep (Zc _ _) (True.intro)⟩ ?step ?fin
 case step =>
  intro l a1 w' i hJJ hi hin
  obtain ⟨e2,pv,cv,b3,hJ,hW⟩:=hJJ
  have hun:l.getD i false=false:=getD_both (mem_ready.1 hi).1
  have hns:=Yeq hW hin hun
  have hg:=hW.g hns
  have l0:=Nat.lt_of_lt_of_le z0 hg.size
  rcases Zkk i hin with rfl|rfl|rfl|rfl|rfl|rfl|rfl|rfl|rfl
  · have e1:a1.tmps.getD 1 undef = .pointer (some ⟨w.heap.size,0,none⟩):=hJ.un 1 (fun i hi _=>Ygg 1 (by decide) i hi)
    exact Zj (Ztx hJ hW hi hun rfl (by rfl) rfl (by decide) (by decide) (Zin _ (by decide)) (w':=w') (by simp [execOp,resolve,invoke,builtin,Act.eval,e1,l0,go_sem,Zpc]) (⟨by decide,by kernel_rfl,True.intro⟩)) (fun a9 w9 h9=>⟨e2,pv,cv,b3,h9⟩)
  · have e6:a1.tmps.getD 6 undef = .pointer (some ⟨w.heap.size,0,none⟩):=(Zu hJ hi 0 (by kernel_rfl))
    have h0:=hg.cell c0 (by simp)
    exact Zj (Ztx hJ hW hi hun rfl (by rfl) rfl (by decide) (by decide) (Zin _ (by decide)) (w':=w') (by simp [execOp,resolve,invoke,builtin,Act.eval,e6,h0,l0,go_sem,Zpc]) (⟨by decide,by kernel_rfl,True.intro⟩)) (fun a9 w9 h9=>⟨e2,pv,cv,b3,h9⟩)
  · refine Zka (v:=Zpc w2.drew.heap.size w.heap.size dl.length cd mem pd (dl.map (Value.int .u8)) w'.heap.size pv cv b3 2) (w':=w'.alloc (.cells #[] 5)) rfl (by rfl) (by kernel_rfl) ⟨w'.heap.size,pv,cv,b3,?_,Zlf hW (by decide) hun (by decide) (Zr _ hi (by kernel_rfl)) (Za hg (Ga _ _ none)) (fun hne0 hun0 hB0=>hB0) (fun j hj hne hl hcu hF => ?_) (Zz (Zvp w' 5 1) hg.size)⟩
    · exact Zch (val:=Zpc w2.drew.heap.size w.heap.size dl.length cd mem pd (dl.map (Value.int .u8)) w'.heap.size pv cv b3) (Zbe hJ (Yyj hW.cl hun)) (by decide) (by decide) (Zin _ (by decide))
    · rcases Zkk j hj with rfl|rfl|rfl|rfl|rfl|rfl|rfl|rfl|rfl
      · exact True.intro
      · exact True.intro
      · exact absurd rfl hne
      · exact True.intro
      · exact True.intro
      · exact Zeo (hW.cl (5,2) (by decide) (hl)) hun
      · exact True.intro
      · exact ⟨Zb hF.1 (Ga _ _ none) (by simp),hF.2⟩
      · exact True.intro
  · have e1:a1.tmps.getD 1 undef = .pointer (some ⟨w.heap.size,0,none⟩):=hJ.un 1 (fun i hi _=>Ygg 1 (by decide) i hi)
    exact Zj (Ztx hJ hW hi hun rfl (by rfl) rfl (by decide) (by decide) (Zin _ (by decide)) (w':=w') (by simp [execOp,resolve,invoke,builtin,Act.eval,e1,l0,go_sem,Zpc]) (⟨by decide,by kernel_rfl,True.intro⟩)) (fun a9 w9 h9=>⟨e2,pv,cv,b3,h9⟩)
  · have e9:a1.tmps.getD 9 undef = .pointer (some ⟨w.heap.size,1,none⟩):=(Zu hJ hi 3 (by kernel_rfl))
    have h0:=hg.cell c1 (by simp)
    exact Zj (Ztx hJ hW hi hun rfl (by rfl) rfl (by decide) (by decide) (Zin _ (by decide)) (w':=w') (by simp [execOp,resolve,invoke,builtin,Act.eval,e9,h0,l0,go_sem,Zpc]) (⟨by decide,by kernel_rfl,True.intro⟩)) (fun a9 w9 h9=>⟨e2,pv,cv,b3,h9⟩)
  · have e8:a1.tmps.getD 8 undef = .slice (some ⟨e2,0,none⟩) 0 0:=(Zu hJ hi 2 (by kernel_rfl))
    have e10:a1.tmps.getD 10 undef = .slice pd dl.length cd:=(Zu hJ hi 4 (by kernel_rfl))
    have F2:=hW.f hns 2 (by decide) (Zl hi 2 (by kernel_rfl)) (Yev (c:=5) (by decide) hun)
    obtain ⟨pv2,cv2,w8,hap,hown,hgr⟩:=Zim (P:=Try.prog) w' w2.drew.heap.size 22 22 5 bi (.int .u8 0) 1 1 Zjk bi0 bi1 bi2 bi3 rfl (by decide) _ 0 [] F2 pd dl.length cd (dl.map (Value.int .u8)) (by simp) (Ys HD.out (Za (Ze (Zc w2 none)) hg)) (Zpx dl) (by unfold maxLen;omega) (by omega) hg.size
    rw [Nat.zero_add] at hap hown
    refine Zka (v:=Zpc w2.drew.heap.size w.heap.size dl.length cd mem pd (dl.map (Value.int .u8)) e2 pv2 cv2 b3 5) (w':=w8) rfl (by rfl) (by simp [execOp,resolve,invoke,builtin,Act.eval,e8,e10,hap,Result.andThen,Zpc]) ⟨e2,pv2,cv2,b3,?_,Zlf hW (by decide) hun (by decide) (Zr _ hi (by kernel_rfl)) (Zds hg hgr (F2.lt _ rfl).1) (fun hne0 hun0 hB0=>hB0) (fun j hj hne hl hcu hF => ?_) (hown)⟩
    · exact Zch (val:=Zpc w2.drew.heap.size w.heap.size dl.length cd mem pd (dl.map (Value.int .u8)) e2 pv2 cv2 b3) (Zbe hJ (Yyi hW.cl hun)) (by decide) (by decide) (Zin _ (by decide))
    · rcases Zkk j hj with rfl|rfl|rfl|rfl|rfl|rfl|rfl|rfl|rfl
      · exact True.intro
      · exact True.intro
      · exact absurd rfl (hcu (2,5) (by decide) rfl).1
      · exact True.intro
      · exact True.intro
      · exact absurd rfl hne
      · exact True.intro
      · exact ⟨Zb hF.1 hgr (Yp F2 hF.1 (by decide)),hF.2⟩
      · exact True.intro
  · have e7:a1.tmps.getD 7 undef = .int .i64 mem:=(Zu hJ hi 1 (by kernel_rfl))
    have f7:=e7
    rw [Array.getD_eq_getD_getElem?] at f7
    have e11:a1.tmps.getD 11 undef = .slice pv dl.length cv:=(Zu hJ hi 5 (by kernel_rfl))
    have f11:=e11
    rw [Array.getD_eq_getD_getElem?] at f11
    exact Zj (Ztx hJ hW hi hun rfl (by rfl) rfl (by decide) (by decide) (Zin _ (by decide)) (w':=w') (by simp [execOp,resolve,invoke,builtin,Act.eval,e7,f7,e11,f11,l0,go_sem,Zpc]) (⟨by decide,by kernel_rfl,True.intro⟩)) (fun a9 w9 h9=>⟨e2,pv,cv,b3,h9⟩)
  · refine Zka (v:=Zpc w2.drew.heap.size w.heap.size dl.length cd mem pd (dl.map (Value.int .u8)) e2 pv cv w'.heap.size 7) (w':=w'.alloc (.cells #[.int .i64 0,.slice none 0 0,.slice none 0 0] 25)) rfl (by rfl) (by kernel_rfl) ⟨e2,pv,cv,w'.heap.size,?_,Zlf hW (by decide) hun (by decide) (Zr _ hi (by kernel_rfl)) (Za hg (Ga _ _ none)) (fun hne0 hun0 hB0=>hB0) (fun j hj hne hl hcu hF => ?_) (⟨heap_alloc_new w' _,hg.size⟩)⟩
    · exact Zch (val:=Zpc w2.drew.heap.size w.heap.size dl.length cd mem pd (dl.map (Value.int .u8)) e2 pv cv w'.heap.size) (Zbe hJ (Yyh hW.cl hun)) (by decide) (by decide) (Zin _ (by decide))
    · rcases Zkk j hj with rfl|rfl|rfl|rfl|rfl|rfl|rfl|rfl|rfl
      · exact True.intro
      · exact True.intro
      · exact hF.alloc _
      · exact True.intro
      · exact True.intro
      · exact hF.alloc _
      · exact True.intro
      · exact absurd rfl hne
      · exact True.intro
  · have e3:a1.tmps.getD 3 undef = .pointer (some ⟨b3,0,none⟩):=(Zu hJ hi 7 (by kernel_rfl))
    have e12:a1.tmps.getD 12 undef = .agg #[.int .i64 mem,.slice pv dl.length cv,.slice none 0 0]:=(Zu hJ hi 6 (by kernel_rfl))
    have F5:=hW.f hns 5 (by decide) (hW.cl (6,5) (by decide) (Zl hi 6 (by kernel_rfl))) (Yra (by decide))
    have F7:=hW.f hns 7 (by decide) (Zl hi 7 (by kernel_rfl)) (Yra (by decide))
    have k0:=Cq _ _ 0 _ _ _ F7.1
    have k1:=Cq _ _ 1 _ _ _ F7.1
    have k2:=Cq _ _ 2 _ _ _ F7.1
    have j0:=frozen_of_row _ _ 0 _ _ F7.1
    have j1:=frozen_of_row _ _ 1 _ _ F7.1
    have j2:=frozen_of_row _ _ 2 _ _ F7.1
    have lb:=(Gs F7.1)
    have hall:∀ j,j<9->j≠8->l.getD j false=true:=by
     intro j hj hne
     rcases Zkk j hj with rfl|rfl|rfl|rfl|rfl|rfl|rfl|rfl|rfl
     · exact hW.cl (1,0) (by decide) (hW.cl (6,1) (by decide) (Zl hi 6 (by kernel_rfl)))
     · exact hW.cl (6,1) (by decide) (Zl hi 6 (by kernel_rfl))
     · exact hW.cl (5,2) (by decide) (hW.cl (6,5) (by decide) (Zl hi 6 (by kernel_rfl)))
     · exact hW.cl (4,3) (by decide) (hW.cl (5,4) (by decide) (hW.cl (6,5) (by decide) (Zl hi 6 (by kernel_rfl))))
     · exact hW.cl (5,4) (by decide) (hW.cl (6,5) (by decide) (Zl hi 6 (by kernel_rfl)))
     · exact hW.cl (6,5) (by decide) (Zl hi 6 (by kernel_rfl))
     · exact Zl hi 6 (by kernel_rfl)
     · exact Zl hi 7 (by kernel_rfl)
     · exact absurd rfl hne
    exact Zj (Zdn hW hJ rfl rfl rfl (by decide) (by decide) (w':=((w'.setCell ⟨b3,0,none⟩ (.int .i64 mem)).setCell ⟨b3,1,none⟩ (.slice pv dl.length cv)).setCell ⟨b3,2,none⟩ (.slice none 0 0)) (by simp [execOp,Act.eval,e3,e12,k0,k1,k2,j0,j1,j2,lb,go_sem]) (Yeo hW (by decide) (by decide) hall (Zr _ hi (by kernel_rfl)) (⟨Zpb hg F7.2,Zzk F7.1,Ymu F5 F7.1 (by decide),F7.2⟩))) (fun a9 w9 h9=>⟨e2,pv,cv,b3,h9⟩)
 case fin =>
  intro l a1 w9 hJJ hl
  obtain ⟨e2,pv,cv,b3,hJ,hW⟩:=hJJ
  have hq:=hW.q (hl 8 (by decide))
  have hput:=Zag hJ rfl hl (fun i j h1 h2 h3=>Zin j h2 i h1 h3)
  subst hput
  clear hJ hW hl c0 c1 z0
  obtain ⟨q1,q2,q3,q4⟩:=hq
  refine hK _ _ ?_
  simp only [Zay,rt1,Zpc,Act.put,List.setIfInBounds_toArray,List.set_cons_zero,List.set_cons_succ]
  clear hK K
  have T0':=Hq (Zb T0.out (Za (Ze (Zc w2 none)) q1) (by simp))
  have T1':=Hq (Zb T1.out (Za (Ze (Zc w2 none)) q1) (by simp))
  have G9:=Hq (Za G0.out (Za (Ze (Zc w2 none)) q1))
  have hwb:w.heap.size+2<=b3:=Nat.le_trans (Nat.le_of_eq HZ2.out.symm) q4
  have X9:=Hq q2
  have O9:=Hq (show Zas w9 w.heap.size (.slice pv dl.length cv) (.slice none 0 0) dl (fs.take 0) [] from ⟨Zz q3 (Nat.le_trans G0.out.size (Nat.le_refl _)),World.ownsRow_nil _ _ _ _,rfl,fun k f v h _=>by simp at h,fun k l v v' b _ h=>by simp at h⟩)
  have HWB:=Hq hwb
  clear q1 q2 q3 q4 hwb
  have hni:(fs.length:Int)<=2097152:=by omega
  obtain ⟨ni,ni0,ni1,ni2,ni3⟩:=info_parts Zjb
  obtain ⟨fi,fi0,fi1,fi2,fi3⟩:=info_parts Zlr
  go_wp2
  go_loopw [4] (fun i wr=>∃ (k:Nat) (F:Value) (cw:List Value),i = .int .i64 k/\k<=fs.length/\w.grownBy wr none/\wr.heap[w.heap.size]? = some (.cells #[.int .i64 mem,.slice pd dl.length cd,.slice pF fs.length cF] 25 (0,0))/\wr.heap[w.heap.size+1]? = some (.cells #[.int .i64 0,.slice none 0 0,.slice none 0 0] 25 (0,0))/\wr.heap[b3]? = some (.cells #[.int .i64 mem,.slice pv dl.length cv,F] 25 (0,0))/\Zas wr w.heap.size (.slice pv dl.length cv) F dl (fs.take k) cw) (fun i _=>fs.length - (intOf i).toNat)
  case atStart=>exact ⟨0,_,[],rfl,Nat.zero_le _,G9.out,T0'.out,T1'.out,X9.out,O9.out⟩
  case round =>
   obtain ⟨k,F,cw,rfl,hk,hg,t0,t1,hbx,ho⟩:=hrel
   have HG:=Hq hg
   have HB:=Hq hbx
   have gw:=hg
   have hb2:=HWB.out
   have hbs:w.heap.size<=wr.heap.size:=gw.size
   have HT0:=Hq t0
   have HT1:=Hq t1
   have a2:=Cq _ _ 2 _ _ _ t0
   have la:=(Gs t0)
   obtain ⟨pF',cF',rfl⟩:=Zp ho.fr
   have htl:(fs.take k).length=k:=by rw [List.length_take];omega
   rw [htl] at hbx ho HB
   have HO:=Hq ho
   have x0:=Cq _ _ 0 _ _ _ hbx
   have x1:=Cq _ _ 1 _ _ _ hbx
   have x2:=Cq _ _ 2 _ _ _ hbx
   have xl:=(Gs hbx)
   by_cases hlt:(k:Int)<(fs.length:Int)
   · obtain ⟨⟨a,lo,r,c⟩,hkf⟩:∃ x,fs[k]? = some x:=⟨_,List.getElem?_eq_getElem (by omega)⟩
     obtain ⟨gb,ob,eb,lb,cb⟩:=Zq HF.out gw (by simp) (by omega)
     subst eb
     obtain ⟨f0,f1,f2,pc,cc,f3,q4⟩:=cb k a lo r c hkf
     have lb:=World.block_lt_of_cell? _ _ f0
     have hcl:=HC.out _ (List.mem_of_getElem? hkf)
     simp only [] at hcl
     have RC:=Hq (Zxk q4)
     have HK:=Hq hkf
     have HTL:=Hq htl
     have HGW:=Hq gw
     clear hg hbx gw t0 t1 ho cb q4 hkf htl
     have nb:¬ b3=wr.heap.size:=by omega
     have nb':¬ wr.heap.size=b3:=by omega
     have GA:=Za (Ga wr (.cells #[.int .i64 a,.int .i64 lo,.int .i64 r,.slice pc c.length cc] 52) none) (Ga _ (.cells #[] 49) none)
     have E5:((wr.alloc (.cells #[.int .i64 a,.int .i64 lo,.int .i64 r,.slice pc c.length cc] 52)).alloc (.cells #[] 49)).ownsRow (wr.heap.size+1) 49 2 (.slice (some ⟨wr.heap.size+1,0,none⟩) 0 0) 0 []:=by
      have:=Zvp (wr.alloc (.cells #[.int .i64 a,.int .i64 lo,.int .i64 r,.slice pc c.length cc] 52)) 49 2
      rw [World.size_alloc] at this
      exact this
     have HE5:=Hq E5
     have HGA:=Hq GA
     have XA:=Hq (Xc wr (.cells #[.int .i64 a,.int .i64 lo,.int .i64 r,.slice pc c.length cc] 52) (.cells #[] 49))
     clear E5 GA
     go_wp2_with (first
      | (at_builtin;refine Zbs rfl _ _ 50 rfl (wr.heap.size+1) 49 ni (.agg #[.int .i64 0,.int .i64 0]) 2 16 Zbw ni0 ni1 ni2 ni3 rfl (by decide) (.slice (some ⟨wr.heap.size+1,0,none⟩) 0 0) 0 [] rfl HE5.out pc c.length cc (Yc c) rfl (Xi c) (Ys RC.out HGA.out) (Zbj c) (by unfold maxLen;omega) (by omega) (by simp) ?_;intro p5 c5 w5 o5 g5;rw [Nat.zero_add,List.nil_append] at o5;have G5:=Hq (Zds HGA.out g5 (Nat.le_succ _));have X5:=Hq (Zb XA.out g5 (by simp [Value.ownBlock]));have B5:=Hq (Zb HB.out G5.out (by simp));have O5:=Hq o5;have y0:=Cq _ _ 0 _ _ _ X5.out;have y1:=Cq _ _ 1 _ _ _ X5.out;have y2:=Cq _ _ 2 _ _ _ X5.out;have y3:=Cq _ _ 3 _ _ _ X5.out;have yz:=frozen_of_row _ _ 3 _ _ X5.out;have yl:=(Gs X5.out);have u2:=Cq _ _ 2 _ _ _ B5.out;have ul:=(Gs B5.out);clear o5 g5)
      | (at_builtin;refine Zbs rfl _ _ 23 rfl w.heap.size 52 fi (.agg #[.int .i64 0,.int .i64 0,.int .i64 0,.slice none 0 0]) 4 48 Zhv fi0 fi1 fi2 fi3 rfl (by decide) (.slice pF' k cF') k (Xn (fs.take k) cw) rfl (Xfz HO.out HTL.out G5.out _ _) (some ⟨w5.heap.size,0,none⟩) 1 1 [.int .i64 a,.int .i64 lo,.int .i64 r,.slice p5 c.length c5] rfl rfl (Yua _ _ _ _ _ _ _ _ _) (Ynv _ _ _ _ _ _) (by unfold maxLen;omega) (by omega) (by simp;have:=G5.out.size;omega) ?_;intro p7 c7 w7 o7 g7;have O7:=Hq o7;have GG7:=Hq g7;have B7:=Hq (Xey HO.out HB.out G5.out g7);have u2:=Cq _ _ 2 _ _ _ B7.out;have uz:=frozen_of_row _ _ 2 _ _ B7.out;have ul:=(Gs B7.out);clear o7 g7))
     go_roundw
     case rel=>exact ⟨k+1,_,cw++[.slice p5 c.length c5],by go_num,by omega,Zd (Yas HO.out.fr (Nat.le_refl _) HG.out (Ztr G5.out _ _) GG7.out) (by omega),(heap_setCell_other _ _ _ _ (by simp;omega)).trans (Xey HO.out HT0.out G5.out GG7.out),(heap_setCell_other _ _ _ _ (by simp;omega)).trans (Xey HO.out HT1.out G5.out GG7.out),Zg B7.out,Ymx HO.out HK.out hbs G5.out O5.out GG7.out O7.out B7.out⟩
     case measure=>simp [intOf];omega
   · have hkn:k=fs.length:=by omega
     subst hkn
     have y0:=Cq _ _ 0 _ _ _ t1
     have y1:=Cq _ _ 1 _ _ _ t1
     have y2:=Cq _ _ 2 _ _ _ t1
     have q0:=frozen_of_row _ _ 0 _ _ t1
     have q1:=frozen_of_row _ _ 1 _ _ t1
     have q2:=frozen_of_row _ _ 2 _ _ t1
     have yl:=(Gs t1)
     have nb:¬ b3=w.heap.size+1:=by omega
     clear hg hbx gw t0 t1 ho htl
     go_wp2
     have OF:=HO.out
     rw [List.take_length] at OF
     refine bodyPost_ret (v := .agg #[.int .i64 mem,.slice pv dl.length cv,.slice pF' fs.length cF']) ?_ rfl ⟨_,_,cw,rfl,Zd (Zd (Zd HG.out (by omega)) (by omega)) (by omega),Jh (mem:=mem) OF HT1.out⟩
     rw [Yq rfl]
     go_simp
theorem Zhu {w w':World} {mem:Int} {dl:List Int} {fs:List FnP} {e:Ending} (h:Zcu w mem dl fs e w'):∃ pD cD pF cF cv,e = .returned (.tuple #[.agg #[.int .i64 mem,.slice pD dl.length cD,.slice pF fs.length cF],.int .i64 0])/\w.grownBy w' none/\Zas w' w.heap.size (.slice pD dl.length cD) (.slice pF fs.length cF) dl fs cv:=by
 obtain ⟨D,F,cv,e1,g,o⟩:=h
 obtain ⟨pD,pF,cD,cF,rfl,rfl⟩:=Xa o
 exact ⟨pD,cD,pF,cF,cv,e1,g,o⟩
theorem Zqh {w w':World} {mem:Int} {dl:List Int} {fs:List FnP} {e:Ending} (h:Zsv w mem dl fs e w'):∃ pD cD pF cF cv,e = .returned (.agg #[.int .i64 mem,.slice pD dl.length cD,.slice pF fs.length cF])/\w.grownBy w' none/\Zas w' w.heap.size (.slice pD dl.length cD) (.slice pF fs.length cF) dl fs cv:=by
 obtain ⟨D,F,cv,e1,g,o⟩:=h
 obtain ⟨pD,pF,cD,cF,rfl,rfl⟩:=Xa o
 exact ⟨pD,cD,pF,cF,cv,e1,g,o⟩
theorem Xgk {w:World} {b:Nat} {x0 x1 x2:Value} {t:TypeId} (h:w.heap[b]? = some (.cells #[x0,x1,x2] t (0,0))):w.cell? ⟨b,0,none⟩=some x0/\w.cell? ⟨b,1,none⟩=some x1/\w.cell? ⟨b,2,none⟩=some x2/\b<w.heap.size/\w.frozen? ⟨b,0,none⟩=false/\w.frozen? ⟨b,1,none⟩=false/\w.frozen? ⟨b,2,none⟩=false :=
 ⟨Cq _ _ 0 _ _ _ h,Cq _ _ 1 _ _ _ h,Cq _ _ 2 _ _ _ h,(Gs h),frozen_of_row _ _ 0 _ _ h,frozen_of_row _ _ 1 _ _ h,frozen_of_row _ _ 2 _ _ h⟩
theorem Ywf {w:World} {B B':Nat} {p:Option Addr} {c:List Ins} (h:Xz w B p c) (hb:B<=B'):Xz w B' p c:=fun h0=>by
 obtain ⟨b,o,e,h1,h2⟩:=h h0
 exact ⟨b,o,e,by omega,h2⟩
theorem Yav {w:World} {B B':Nat} {p:Option Addr} {fs:List FnP} (h:Yl w B p fs) (hb:B<=B'):Yl w B' p fs:=fun h0=>by
 obtain ⟨b,o,e,h1,h2⟩:=h h0
 refine ⟨b,o,e,by omega,fun i a l r c hi => ?_⟩
 obtain ⟨q1,q2,q3,pc,cc,q4,q5⟩:=h2 i a l r c hi
 exact ⟨q1,q2,q3,pc,cc,q4,Ywf q5 hb⟩
structure Yqr (w:World) (b:Nat) (mem:Int) (dl:List Int) (fs:List FnP) (p:Option Addr) (c:Nat) (q:Option Addr) (k:Nat):Prop where
 box:w.heap[b]? = some (.cells #[.int .i64 mem,.slice p dl.length c,.slice q fs.length k] 25 (0,0))
 F:Yl w w.heap.size q fs
 D:Rd w p (dl.map (Value.int .u8))
section
variable {w w':World} {b:Nat} {mem:Int} {dl:List Int} {fs:List FnP} {p q:Option Addr} {c k:Nat}
theorem Yg (h:Yqr w b mem dl fs p c q k) (g:w.grownBy w' none):Yqr w' b mem dl fs p c q k :=
 ⟨Zb h.box g (by simp),Yav (Zq h.F g (by simp)) g.size,Ys h.D g⟩
theorem Yvg (h:Yqr w b mem dl fs p c q k):b<w.heap.size:=(Gs h.box)
theorem Yai {base:Nat} {cv:List Value} {y0 y1 y2:Value} {w0:World} (o:Zas w base (.slice p dl.length c) (.slice q fs.length k) dl fs cv) (g:w0.grownBy w none) (hb:w0.heap.size<=b) (hbb:b<base) (y:w.heap[b]? = some (.cells #[y0,y1,y2] 25 (0,0))) :
 Yqr (((w.setCell ⟨b,0,none⟩ (.int .i64 mem)).setCell ⟨b,1,none⟩ (.slice p dl.length c)).setCell ⟨b,2,none⟩ (.slice q fs.length k)) b mem dl fs p c q k/\w0.grownBy (((w.setCell ⟨b,0,none⟩ (.int .i64 mem)).setCell ⟨b,1,none⟩ (.slice p dl.length c)).setCell ⟨b,2,none⟩ (.slice q fs.length k)) none:=by
 have s:Sp (fun k=>k=b) w (((w.setCell ⟨b,0,none⟩ (.int .i64 mem)).setCell ⟨b,1,none⟩ (.slice p dl.length c)).setCell ⟨b,2,none⟩ (.slice q fs.length k)):=Zih (Zih (Zih (Zez _ _) rfl) rfl) rfl
 have o2:=Zxm o s (fun k hk e=>by omega)
 exact ⟨⟨Zzk y,Zel o2,Zem o2⟩,Zpb g hb⟩
theorem Zdr {base:Nat} {cv:List Value} (mem:Int) (o:Zas w base (.slice p dl.length c) (.slice q fs.length k) dl fs cv):Yqr (w.alloc (.cells #[.int .i64 mem,.slice p dl.length c,.slice q fs.length k] 25)) w.heap.size mem dl fs p c q k:=by
 have g:=Ga w (.cells #[.int .i64 mem,.slice p dl.length c,.slice q fs.length k] 25) none
 have o2:=Yv o g
 exact ⟨heap_alloc_new w _,Zel o2,Zem o2⟩
theorem Ym (h:Yqr w b mem dl fs p c q k):w.cell? ⟨b,0,none⟩=some (.int .i64 mem)/\w.cell? ⟨b,1,none⟩=some (.slice p dl.length c)/\w.cell? ⟨b,2,none⟩=some (.slice q fs.length k)/\b<w.heap.size/\w.frozen? ⟨b,0,none⟩=false/\w.frozen? ⟨b,1,none⟩=false/\w.frozen? ⟨b,2,none⟩=false:=Xgk h.box
end
theorem Ynt {w w':World} {base b0 size n:Nat} {D F v:Value} {dl:List Int} {fs:List FnP} {cv:List Value} {xs:List Value} (h:Zas w base D F dl fs cv) (hr:w.ownsRow b0 25 size v n xs) (g:w.grownBy w' v.ownBlock):Zas w' base D F dl fs cv:=by
 have ne:∀ (v2:Value) (m:Nat) (ys:List Value) (E:TypeId) (sz:Nat),w.ownsRow base E sz v2 m ys->E≠25->v2.ownBlock=none\/v2.ownBlock≠v.ownBlock:=fun v2 m ys E sz ho hE=>Zbb (Zz ho (Nat.zero_le _)) (Zz hr (Nat.zero_le _)) hE
 exact ⟨h.dt.kept g (ne _ _ _ _ _ h.dt (by decide)),h.fr.kept g (ne _ _ _ _ _ h.fr (by decide)),h.cl,fun k f u hf hv=>(h.each k f u hf hv).kept g (ne _ _ _ _ _ (h.each k f u hf hv) (by decide)),h.dis⟩
theorem Ymh {w w':World} {base b0 size n:Nat} {v:Value} {dl:List Int} {rs:List Rec} {xs:List Value} (h:Ylx w base dl rs) (hr:w.ownsRow b0 25 size v n xs) (g:w.grownBy w' v.ownBlock):Ylx w' base dl rs :=
 ⟨fun i r hi=>Ynt (h.own i r hi) hr g,fun i r hi=>⟨(h.lo i r hi).1,Nat.le_trans (h.lo i r hi).2.1 g.size,(h.lo i r hi).2.2⟩,h.ord⟩
def Xfa (r:Rec):Prop:=r.fs.length<=64/\(∀ f∈r.fs,1<=f.2.2.2.length/\f.2.2.2.length<=4096)/\r.cv.length=r.fs.length
structure Yqp (wL wr:World) (mem:Int) (dl:List Int) (v:Value) (k:Nat) (rs:List Rec):Prop where
 len:rs.length=2*k
 own:wr.ownsRow wL.heap.size 25 3 v (2*k) (Zga mem rs)
 told:Ylx wr wL.heap.size dl rs
 ok:∀ r∈rs,Xfa r
 gr:wL.grownBy wr none
theorem Ybu (wL:World) (mem:Int) (dl:List Int):Yqp wL wL mem dl (.slice none 0 0) 0 [] :=
 ⟨rfl,World.ownsRow_nil _ _ _ _,Ymi _ _ _,fun r h=>absurd h (by simp),Zc _ _⟩
theorem Yex {wL wr w1 w2 w3 w4 w5:World} {mem:Int} {dl:List Int} {v v' D1 F1 D2 F2:Value} {k:Nat} {rs:List Rec} {fs1 fs2:List FnP} {cv1 cv2:List Value} (T:Yqp wL wr mem dl v k rs)
 (g1:wr.grownBy w1 none) (o1:Zas w1 wr.heap.size D1 F1 dl fs1 cv1) (g2:w1.grownBy w2 none) (g3:w2.grownBy w3 none) (o3:Zas w3 w2.heap.size D2 F2 dl fs2 cv2) (g4:w3.grownBy w4 none)
 (s1:fs1.length<=64/\∀ f∈fs1,1<=f.2.2.2.length/\f.2.2.2.length<=4096) (s2:fs2.length<=64/\∀ f∈fs2,1<=f.2.2.2.length/\f.2.2.2.length<=4096)
 (own':w5.ownsRow wL.heap.size 25 3 v' (2*k+2) (Zga mem rs++[.int .i64 mem,D1,F1,.int .i64 mem,D2,F2])) (g5:w4.grownBy w5 v.ownBlock):∃ rs',Yqp wL w5 mem dl v' (k+1) rs':=by
 have g14:=Za g1 (Za g2 (Za g3 g4))
 have T1:=Ztg T.told T.gr.size g1 o1
 have T3:=Ztg (Zic T1 g2) (Nat.le_trans T.gr.size (Nat.le_trans g1.size g2.size)) g3 o3
 have T5:=Ymh (Zic T3 g4) (T.own.kept g14 (Classical.em _)) g5
 refine ⟨_,by simp [T.len];omega,?_,T5,fun r hr => ?_,Yas T.own (Nat.le_refl _) T.gr g14 g5⟩
 · rw [Zgr,Zgr]
   have e:2*(k+1)=2*k+2:=by omega
   rw [e,List.append_assoc]
   exact own'
 · rcases List.mem_append.1 hr with hr|hr
   · rcases List.mem_append.1 hr with hr|hr
     · exact T.ok r hr
     · simp at hr;subst hr;exact ⟨s1.1,s1.2,o1.cl⟩
   · simp at hr;subst hr;exact ⟨s2.1,s2.2,o3.cl⟩
theorem Ytz (w:World) (x0 x1 x2 x3 x4 x5:Value) (t:TypeId):Rd (w.alloc (.cells #[x0,x1,x2,x3,x4,x5] t)) (some ⟨w.heap.size,0,none⟩) [x0,x1,x2,x3,x4,x5]:=fun _=>⟨w.heap.size,0,rfl,fun j u hj=>by
 rw [Nat.zero_add]
 have h:=heap_alloc_new w (.cells #[x0,x1,x2,x3,x4,x5] t)
 match j,hj with
 | 0,hj=>injection hj with hj;subst hj;exact Cq _ _ 0 _ _ _ h
 | 1,hj=>injection hj with hj;subst hj;exact Cq _ _ 1 _ _ _ h
 | 2,hj=>injection hj with hj;subst hj;exact Cq _ _ 2 _ _ _ h
 | 3,hj=>injection hj with hj;subst hj;exact Cq _ _ 3 _ _ _ h
 | 4,hj=>injection hj with hj;subst hj;exact Cq _ _ 4 _ _ _ h
 | 5,hj=>injection hj with hj;subst hj;exact Cq _ _ 5 _ _ _ h⟩
theorem Ytm (a b:Int) (p q p' q':Option Addr) (n k m l n' k' m' l':Nat):∀ u∈[Value.int .i64 a,.slice p n k,.slice q m l,.int .i64 b,.slice p' n' k',.slice q' m' l'],u.oneCell'=true:=by
 intro u hu
 simp only [List.mem_cons,List.not_mem_nil,or_false] at hu
 rcases hu with rfl|rfl|rfl|rfl|rfl|rfl <;> rfl
theorem Yni:Try.prog.underlying 55=some (.slice 25):=by kernel_rfl
theorem Ygq:(Try.prog.info? 25).map (fun i=>(i.zero,i.size,i.bytes))=some (some (.agg #[.int .i64 0,.slice none 0 0,.slice none 0 0]),3,56):=by kernel_rfl
theorem Yph {w w':World} {mem:Int} {dl:List Int} {fs:List FnP} {e:Ending} (h:Zjq w mem dl fs e w'):(∃ v,e = .returned v)/\w.grownBy w' none:=by
 obtain ⟨g,⟨err,f,n,he,_⟩|⟨hs,V,ho,hm⟩⟩:=h
 · exact ⟨⟨_,he⟩,g⟩
 · cases hq:Jk fs hs V with
   | none=>rw [hq] at hm;exact ⟨⟨_,hm⟩,g⟩
   | some x =>
     obtain ⟨⟨f,n⟩,what,y⟩:=x
     rw [hq] at hm
     exact ⟨⟨_,hm⟩,g⟩
theorem Ysw {w:World} {base b0 A n c K k:Nat} {dl:List Int} {rs:List Rec} {xs:List Value} (h:Ylx w base dl rs) (hr:w.ownsRow b0 25 3 (.slice (some ⟨A,0,none⟩) n c) K xs) (hb:base<=b0) (hk:Yly A rs.length (nth dl rs) k):base<=k/\k<w.heap.size:=by
 rcases hk with rfl|⟨i,hi,hk⟩
 · have:=hr.lt k rfl
   omega
 · have hri:=List.getElem?_eq_getElem hi
   have e:nth dl rs i=(rs[i]).p dl:=by unfold nth;rw [hri]
   rw [e] at hk
   have a:=h.lo i _ hri
   have:=a.2.2 k hk
   omega
theorem Ygu {w:World} {base cF:Nat} {D:Value} {q:Option Addr} {dl:List Int} {fs:List FnP} {cv:List Value} {f:FnP} (h:Zas w base D (.slice q fs.length cF) dl fs cv) (hf:fs[0]? = some f) (h1:1<=f.2.2.2.length) :
 ∃ (gF gC cC:Nat) (x y:Int),q=some ⟨gF,0,none⟩/\gF<w.heap.size/\w.cell? ⟨gF,3,none⟩=some (.slice (some ⟨gC,0,none⟩) f.2.2.2.length cC)/\gC<w.heap.size/\base<=gC/\w.cell? ⟨gC,0,none⟩=some (.int .i64 x)/\w.cell? ⟨gC,1,none⟩=some (.int .i64 y)/\w.frozen? ⟨gC,0,none⟩=false/\w.frozen? ⟨gC,1,none⟩=false/\(∀ (b:Nat) (cs:Array Value),w.heap[b]? = some (.cells cs 25 (0,0))->b≠gC) /\
   Zas ((w.setCell ⟨gC,0,none⟩ (.int .i64 4)).setCell ⟨gC,1,none⟩ (.int .i64 0)) base D (.slice q fs.length cF) dl (fs.set 0 (Zv f (f.2.2.2.set 0 (4,0)))) cv:=by
 have hl:=(List.getElem?_eq_some_iff.1 hf).1
 obtain ⟨gF,cap,eF,hgF,hcF⟩:=Zx h.fr (by omega)
 obtain ⟨v,hv⟩:∃ v,cv[0]? = some v:=⟨_,List.getElem?_eq_getElem (by rw [h.cl];exact hl)⟩
 have ho:=h.each 0 f v hf hv
 obtain ⟨gC,cC,eC,hgC,hcC⟩:=Zx ho (by omega)
 subst eC
 injection eF with eF _ _
 subst eF
 obtain ⟨-,-,-,q3⟩:=Jj fs cv 0 f _ hf hv
 obtain ⟨⟨x,y⟩,hxy⟩:∃ z,f.2.2.2[0]? = some z:=⟨_,List.getElem?_eq_getElem (by omega)⟩
 obtain ⟨c0,c1⟩:=Xy _ 0 x y hxy
 have k3:=hcF 3 _ (by simpa using q3) (by omega)
 have k0:=hcC 0 _ (by simpa using c0) (by omega)
 have k1:=hcC 1 _ (by simpa using c1) (by omega)
 obtain ⟨s1,g1⟩:=ho.stored 0 (.int .i64 4)
 obtain ⟨s2,g2⟩:=s1.stored 1 (.int .i64 0)
 have g:w.grownBy ((w.setCell ⟨gC,0,none⟩ (.int .i64 4)).setCell ⟨gC,1,none⟩ (.int .i64 0)) (some gC):=Za g1 g2
 have e2:=Zsm f.2.2.2 0 4 0
 simp only [Nat.zero_mul,Nat.zero_add] at e2
 have ne:∀ (v2:Value) (n:Nat) (xs:List Value) (E:TypeId) (sz:Nat),w.ownsRow base E sz v2 n xs->E≠49->v2.ownBlock=none\/v2.ownBlock≠some gC:=fun v2 n xs E sz hh hE=>Xq hh ho hE
 have hset:∀ (i:Nat) (a:FnP),(fs.set 0 (Zv f (f.2.2.2.set 0 (4,0))))[i]? = some a->(i=0/\a=Zv f (f.2.2.2.set 0 (4,0)))\/(i≠0/\fs[i]? = some a):=fun i a ha=>by
  by_cases e:i=0
  · subst e
    rw [List.getElem?_set_self hl] at ha
    injection ha with ha
    exact Or.inl ⟨rfl,ha.symm⟩
  · rw [List.getElem?_set_ne (Ne.symm e)] at ha
    exact Or.inr ⟨e,ha⟩
 refine ⟨gF,gC,cC,x,y,rfl,hgF,k3,hgC,(ho.lt gC rfl).1,k0,k1,Ye ho 0,Ye ho 1,fun b cs hb e=>Yp ho hb (by decide) (by rw [e];rfl),⟨h.dt.kept g (ne _ _ _ _ _ h.dt (by decide)),?_,by rw [List.length_set];exact h.cl,fun i a u ha hu => ?_,h.dis⟩⟩
 · have e:Xn (fs.set 0 (Zv f (f.2.2.2.set 0 (4,0)))) cv=Xn fs cv:=Zhh _ _ _ (by simp) fun i a b ha hb=>by
    rcases hset i a ha with ⟨rfl,rfl⟩|⟨_,ha2⟩
    · rw [hf] at hb;injection hb with hb;subst hb;exact ⟨rfl,rfl,rfl⟩
    · rw [ha2] at hb;injection hb with hb;subst hb;exact ⟨rfl,rfl,rfl⟩
   rw [e,List.length_set]
   exact h.fr.kept g (ne _ _ _ _ _ h.fr (by decide))
 · rcases hset i a ha with ⟨rfl,rfl⟩|⟨hi,ha2⟩
   · rw [hv] at hu;injection hu with hu;subst hu
     show ((w.setCell ⟨gC,0,none⟩ (.int .i64 4)).setCell ⟨gC,1,none⟩ (.int .i64 0)).ownsRow base _ 2 _ (f.2.2.2.set 0 (4,0)).length (Yc (f.2.2.2.set 0 (4,0)))
     rw [List.length_set,<- e2]
     exact s2
   · refine (h.each i a u ha2 hu).kept g ?_
     cases e1:u.ownBlock with
     | none=>exact Or.inl rfl
     | some b=>exact Or.inr fun e3=>h.dis i 0 u _ b hi hu hv e1 (by injection e3 with e3;rw [e3];rfl)
def Zue (fs:List FnP) (f:FnP):List FnP:=fs.set 0 (Zv f (f.2.2.2.set 0 (4,0)))
theorem Zxl {mem:Int} {nd:Nat} {fs:List FnP} {f:FnP} (hf:fs[0]? = some f) (h1:∀ g∈fs,1<=g.2.2.2.length/\g.2.2.2.length<=4096) (hr:∀ g∈fs,Jl g.2.2.2):(Zue fs f).length=fs.length/\(∀ g∈Zue fs f,g.2.2.2.length<=4096)/\(∀ g∈Zue fs f,Jl g.2.2.2)/\¬ Tk mem nd (Zue fs f):=by
 have hl:=(List.getElem?_eq_some_iff.1 hf).1
 have hfm:=List.mem_of_getElem? hf
 refine ⟨by simp [Zue],fun g hg => ?_,fun g hg => ?_,Yuf (c:=[]) (f:=Zv f (f.2.2.2.set 0 (4,0))) ?_ ?_⟩
 · rcases List.mem_or_eq_of_mem_set hg with hg|rfl
   · exact (h1 g hg).2
   · show (f.2.2.2.set 0 (4,0)).length<=4096
     rw [List.length_set];exact (h1 f hfm).2
 · rcases List.mem_or_eq_of_mem_set hg with hg|rfl
   · exact hr g hg
   · intro x hx
     rcases List.mem_or_eq_of_mem_set hx with hx|rfl
     · exact hr f hfm x hx
     · exact ⟨by decide,by decide⟩
 · unfold Zue
   exact List.getElem?_set_self hl
 · exact List.getElem?_set_self (by have:=(h1 f hfm).1;omega)
theorem Xbk {w w':World} {b b':Nat} {o:Obj} (h:w.heap[b']? = some o) (s:Sp (fun k=>k=b) w w') (hne:b'≠b):w'.heap[b']? = some o:=by
 rw [s.block b' (Gs h) hne];exact h
theorem Ybd:∀ {c:List Ins},(∀ x∈c,∃ s,Ja x.1=some s/\Zrp s.2.1.toNat x.2=true)->Zoj c=0
 | [],_=>rfl
 | x::r,h=>by
   obtain ⟨s,h1,h2⟩:=h x (List.mem_cons_self ..)
   unfold Zoj
   rw [h1]
   simp only []
   rw [if_pos h2]
   exact Ybd fun y hy=>h y (List.mem_cons_of_mem _ hy)
section
variable {S s:Int} {k m:Nat} {C c:List Ins}
theorem Yru (L:Lg S s k m C c) {x:Ins} (hx:x∈c):(∃ a,x=(3,a))\/x=(20,0)\/x=(0,0)\/(∃ t:Nat,x=(14,(t:Int))/\t<c.length)\/x=(18,0)\/x=(4,0):=by
 obtain ⟨p,hp⟩:=List.getElem?_of_mem hx
 have hpl:=(List.getElem?_eq_some_iff.1 hp).1
 rcases Yvh L hpl with ⟨_,hc⟩|⟨j,hj,e,hc⟩|⟨j,hj,e,hc⟩|⟨i,y,e,hC,hc⟩
 · rw [hp] at hc;injection hc with hc;exact Or.inl ⟨_,hc⟩
 · rw [hp] at hc;injection hc with hc;exact Or.inl ⟨_,hc⟩
 · rw [hp] at hc;injection hc with hc;exact Or.inr (Or.inl hc)
 · rw [hp] at hc;injection hc with hc
   subst hc
   rcases L.op i x hC with h|⟨h1,h2,h3⟩|h|h
   · exact Or.inr (Or.inr (Or.inl h))
   · obtain ⟨op,a⟩:=x
     simp only [] at h1 h2 h3
     subst h1
     obtain ⟨t,rfl⟩:=Int.eq_ofNat_of_zero_le (show 0<=a by omega)
     exact Or.inr (Or.inr (Or.inr (Or.inl ⟨t,rfl,by omega⟩)))
   · exact Or.inr (Or.inr (Or.inr (Or.inr (Or.inl h))))
   · exact Or.inr (Or.inr (Or.inr (Or.inr (Or.inr h))))
theorem Xao (L:Lg S s k m C c):Tk 0 0 [(0,0,1,c)]:=by
 have hl:=Yak L
 have hn:=L.ne
 have h4:=L.len
 refine ⟨?_,⟨_,rfl,rfl,rfl⟩,fun fn hf => ?_,fun fn hf => ?_⟩
 · have he:Zoj c=0:=Ybd fun x hx=>by
    rcases Yru L hx with ⟨a,rfl⟩|rfl|rfl|⟨t,rfl,ht⟩|rfl|rfl
    · exact ⟨_,rfl,rfl⟩
    · exact ⟨_,rfl,rfl⟩
    · exact ⟨_,rfl,rfl⟩
    · refine ⟨_,rfl,?_⟩
      show (decide (0<=(t:Int)) && decide ((t:Int)<4096))=true
      simp
      omega
    · exact ⟨_,rfl,rfl⟩
    · exact ⟨_,rfl,rfl⟩
   unfold Zaz
   rw [if_neg (by simp)]
   unfold Ydi
   have hf:fnE (0,0,1,c)=0:=by
    unfold fnE
    rw [if_neg (by simp only [];omega)]
    exact he
   rw [if_pos hf]
   rfl
 · obtain rfl:fn=(0,0,1,c):=by simpa using hf
   intro x hx
   rcases Yru L hx with ⟨a,rfl⟩|rfl|rfl|⟨t,rfl,ht⟩|rfl|rfl
   · rfl
   · rfl
   · rfl
   · unfold opE
     rw [if_pos (Or.inl rfl),if_neg (by simp only [];omega)]
   · rfl
   · rfl
 · obtain rfl:fn=(0,0,1,c):=by simpa using hf
   exact ⟨_,Yit L⟩
theorem Yoj (L:Lg S s k m C c) {hs:Nat->List Int} {V:List Bool} (ho:OkP 0 0 [(0,0,1,c)] hs V):∀ p,p<c.length->(hB (hs 0) p=true ↔ Reach c p):=by
 obtain ⟨st,hr,hi,e⟩:=ho.2.2.2.1 0 _ rfl
 intro p hp
 have:=Zcv (hs:=hs) (Xao L) (f:=0) rfl hr (Yit L) p hp
 rw [e] at this
 unfold hB
 constructor
 · intro h
   have h0:0<=(hs 0).getD p 0:=by simpa using h
   by_cases r:Reach c p
   · exact r
   · rw [this.2 r] at h0;omega
 · intro r
   have h1:=(this.1 r).1
   have h2:=(this.1 r).2
   rw [h1]
   simpa using h2
end
end Go.Proofs.Ythlkflagancdfaa.OT
