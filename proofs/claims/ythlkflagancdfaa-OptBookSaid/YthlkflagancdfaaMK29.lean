/-
  Part of a proof: contracts of functions and lemmas, each stated by its own theorem. Conditions: as each theorem states.
-/
import Derived.Test.YthlkflagancdfaaMK28
import Derived.Test.YthlkflagancdfaaMK18
import Derived.Deep.Cut
import Derived.Outline
import Derived.RegionTactic
set_option linter.unusedSimpArgs false
set_option linter.unusedVariables false
set_option maxRecDepth 100000
set_option maxHeartbeats 16000000
namespace Go.Proofs.Ythlkflagancdfaa.CK
open Go.RowKit Go.Great Go.Maps
def Zoh (wr:World) (mem:Int) (vd vF:Value) (bx:Nat):World:=(wr.alloc (.map #[] 0)).alloc (.cells #[.int .i64 mem,vd,vF,.pointer (some ⟨bx,0,none⟩),.map (some wr.heap.size)] 71)
theorem Znb (wr:World) (mem:Int) (vd vF:Value) (bx:Nat):wr.grownBy (Zoh wr mem vd vF bx) none:=Za (Ga _ _ _) (Ga _ _ _)
structure RnS (w wr:World) (bx:Nat) (fs:List FnP) (vH vT vL:Value) (gH gT gL cH cT cL:Nat) (gh:Nat->Nat) (hs:Nat->List Int):Prop where
 eH:vH = .slice (some ⟨gH,0,none⟩) fs.length cH
 eT:vT = .slice (some ⟨gT,0,none⟩) fs.length cT
 eL:vL = .slice (some ⟨gL,0,none⟩) fs.length cL
 lH:bx<gH/\gH<wr.heap.size
 lT:bx<gT/\gT<wr.heap.size
 lL:bx<gL/\gL<wr.heap.size
 lg:∀ (f:Nat) (fn:FnP),fs[f]? = some fn->bx<gh f/\gh f<wr.heap.size/\wr.cell? ⟨gH,f,none⟩=some (.slice (some ⟨gh f,0,none⟩) fn.2.2.2.length fn.2.2.2.length)/\∀ i:Nat,i<fn.2.2.2.length->wr.cell? ⟨gh f,i,none⟩=some (.int .i64 ((hs f).getD i 0))
section
variable {w wr:World} {mem:Int} {pd:Option Addr} {nd cd:Nat} {pF:Option Addr} {cF B:Nat} {fs:List FnP} {bx:Nat} {vH vT vL:Value} {gh:Nat->Nat} {tops:Nat->Int} {hs:Nat->List Int} {lv:Nat->Value} {ln:Nat->Nat}
theorem Zxx {fn:FnP} {f:Nat} (h:fs[f]? = some fn):Zwr fs f=fn.2.2.2.length:=by unfold Zwr;rw [h]
theorem Zmq {α:Type} {φ:Nat->α} {n f:Nat} (h:f<n):((List.range n).map φ)[f]? = some (φ f):=by
 rw [List.getElem?_map,List.getElem?_range h];rfl
theorem Yyn (H:RnW w wr mem pd nd cd pF cF fs bx fs.length fs.length fs.length fs.length vH vT vL gh tops hs lv ln) (hok:Zjp fs):∃ gH gT gL cH cT cL,RnS w wr bx fs vH vT vL gH gT gL cH cT cL gh hs:=by
 have hn:=hok.n1
 obtain ⟨gH,cH,eH,lH,hH⟩:=Zx H.oH (by omega)
 obtain ⟨gT,cT,eT,lT,hT⟩:=Zx H.oT (by omega)
 obtain ⟨gL,cL,eL,lL,hL⟩:=Zx H.oL (by omega)
 refine ⟨gH,gT,gL,cH,cT,cL,eH,eT,eL,⟨(H.oH.lt gH (by rw [eH];rfl)).1,lH⟩,⟨(H.oT.lt gT (by rw [eT];rfl)).1,lT⟩,⟨(H.oL.lt gL (by rw [eL];rfl)).1,lL⟩,fun f fn hfn => ?_⟩
 have hf:=(List.getElem?_eq_some_iff.1 hfn).1
 have hr:=H.rows f hf
 obtain ⟨s,h1,h2,h3,h4⟩:=H.ht f fn hf hfn
 have hlen:(hs f).length=fn.2.2.2.length:=by rw [<- h3];exact h2.hl
 refine ⟨(hr.lt (gh f) rfl).1,(hr.lt (gh f) rfl).2,?_,fun i hi => ?_⟩
 · rw [hH f _ (Zmq hf) (by omega),Zxx hfn]
 · rw [hr.cellAt i (by rw [Zxx hfn];omega),List.getElem?_map,List.getD_eq_getElem?_getD,List.getElem?_eq_getElem (by omega:i<(hs f).length)]
   rfl
theorem Xam {gH gT gL cH cT cL:Nat} (H:RnW w wr mem pd nd cd pF cF fs bx fs.length fs.length fs.length fs.length vH vT vL gh tops hs lv ln) (hok:Zjp fs) (S:RnS w wr bx fs vH vT vL gH gT gL cH cT cL gh hs) (hF:Yl w B pF fs) (hB:B<=w.heap.size) :
 LkH (Zoh wr mem (.slice pd nd cd) (.slice pF fs.length cF) bx) (wr.heap.size+1) bx wr.heap.size B mem pd nd cd pF cF fs gH gT gL cH cT cL hs tops ln:=by
 have g:=Znb wr mem (.slice pd nd cd) (.slice pF fs.length cF) bx
 have hxl:=(Gs H.xb)
 have sz:=H.b.gr.size
 have hbl:=H.bxl
 have hz:(Zoh wr mem (.slice pd nd cd) (.slice pF fs.length cF) bx).heap.size=wr.heap.size+2:=by simp [Zoh]
 have x:=Zb H.xb g (by simp)
 rw [S.eH,S.eT,S.eL] at x
 have kp:∀ {b o:Nat} {v:Value},wr.cell? ⟨b,o,none⟩=some v->(Zoh wr mem (.slice pd nd cd) (.slice pF fs.length cF) bx).cell? ⟨b,o,none⟩=some v:=fun h=>g.cell h (by simp)
 refine ⟨Yr _ _ _,x,Zep (Yib wr hok.nf) (Ga _ _ none) (by simp),by omega,by omega,by omega,Zq (Zq hF H.b.gr (by simp)) g (by simp),by omega,by omega,by omega,⟨by have:=S.lH;omega,by have:=S.lT;omega,fun f ar lo r c hfn => ?_,fun f hf => ?_,fun f ar lo r c hfn => ?_⟩,⟨by have:=S.lL;omega,fun f hf => ?_⟩,fun f ar lo r c hfn => ?_,fun f ar lo r c hfn hl => ?_⟩
 · obtain ⟨h1,h2,h3,h4⟩:=S.lg f _ hfn
   have hf:=(List.getElem?_eq_some_iff.1 hfn).1
   obtain ⟨s,r1,r2,r3,r4⟩:=H.ht f _ hf hfn
   refine ⟨gh f,c.length,kp h3,by omega,fun i hi=>⟨kp (h4 i hi),?_⟩⟩
   have:=r2.rng i hi
   rw [r3] at this
   omega
 · obtain ⟨⟨ar,lo,r,c⟩,hfn⟩:∃ fn,fs[f]? = some fn:=⟨_,List.getElem?_eq_getElem hf⟩
   obtain ⟨s,r1,r2,r3,r4⟩:=H.ht f _ hf hfn
   obtain ⟨g2,c2,e2,l2,h2⟩:=Zx H.oT (by have:=hok.n1;omega)
   rw [S.eT] at e2
   injection e2 with e2 _ _
   injection e2 with e2
   injection e2 with e2 _ _
   subst e2
   have:=r2.t0
   have:=r2.t1
   exact ⟨kp (h2 f _ (Zmq hf) (by omega)),by rw [<- r4];omega,by rw [<- r4];omega⟩
 · have:=hok.args _ (List.mem_of_getElem? hfn)
   simp only [] at this
   omega
 · obtain ⟨⟨ar,lo,r,c⟩,hfn⟩:∃ fn,fs[f]? = some fn:=⟨_,List.getElem?_eq_getElem hf⟩
   obtain ⟨p,cc,h1,h2⟩:=H.lp f _ hf hfn
   obtain ⟨g2,c2,e2,l2,h3⟩:=Zx H.oL (by have:=hok.n1;omega)
   rw [S.eL] at e2
   injection e2 with e2 _ _
   injection e2 with e2
   injection e2 with e2 _ _
   subst e2
   refine ⟨p,cc,?_⟩
   rw [<- h1]
   exact kp (h3 f _ (Zmq hf) (by omega))
 · have hf:=(List.getElem?_eq_some_iff.1 hfn).1
   obtain ⟨s,r1,r2,r3,r4⟩:=H.ht f _ hf hfn
   have:=Zbl hok (List.mem_of_getElem? hfn) r1
   rw [r3] at this
   exact this
 · have hf:=(List.getElem?_eq_some_iff.1 hfn).1
   obtain ⟨p,cc,h1,h2⟩:=H.lp f _ hf hfn
   exact h2 hl
theorem Yyp {w':World} {P:Nat->Prop} (H:RnB w wr mem pd nd cd pF cF fs) (g:Sp P wr w') (hP:∀ k,k<wr.heap.size->P k->w.heap.size+3<=k):RnB w w' mem pd nd cd pF cF fs:=by
 have sz:=H.sz
 have mv:∀ {b:Nat} {o:Obj},b<w.heap.size+3->wr.heap[b]? = some o->w'.heap[b]? = some o:=fun hb h=>by
  rw [g.block _ (by omega) (fun e=>by have:=hP _ (by omega) e;omega)];exact h
 refine ⟨⟨g.os.trans H.gr.os,g.tape.trans H.gr.tape,g.output.trans H.gr.output,Nat.le_trans H.gr.size g.size,fun b hb hr => ?_⟩,mv (by omega) H.pb,mv (by omega) H.f2,mv (by omega) H.f3,Nat.le_trans H.sz g.size⟩
 rw [g.block b (by omega) (fun e=>by have:=hP _ (by omega) e;omega)]
 exact H.gr.block b hb hr
theorem Ytp {gH gT gL cH cT cL:Nat} {w8:World} {e:Ending} (H:RnW w wr mem pd nd cd pF cF fs bx fs.length fs.length fs.length fs.length vH vT vL gh tops hs lv ln) (hok:Zjp fs) (S:RnS w wr bx fs vH vT vL gH gT gL cH cT cL gh hs)
 (hA:Zza (Zoh wr mem (.slice pd nd cd) (.slice pF fs.length cF) bx) bx wr.heap.size fs.length (.slice (some ⟨gH,0,none⟩) fs.length cH) (.slice (some ⟨gT,0,none⟩) fs.length cT) (.slice (some ⟨gL,0,none⟩) fs.length cL) (Zon fs (Znt fs hs)) e w8) :
 ∃ (gV:Nat) (V:List Bool) (ce co:Int),RnB w w8 mem pd nd cd pF cF fs/\w8.heap[bx]? = some (.cells #[.slice (some ⟨gH,0,none⟩) fs.length cH,.slice (some ⟨gT,0,none⟩) fs.length cT,.slice (some ⟨gL,0,none⟩) fs.length cL,.slice (some ⟨gV,0,none⟩) fs.length fs.length,.int .i64 ce,.int .i64 co] 35 (0,0)) /\
   Ywt w (Zwq w8 (w.heap.size+1) (w.heap.size+1+1) (.slice (some ⟨gH,0,none⟩) fs.length cH) (.slice (some ⟨gT,0,none⟩) fs.length cT) (.slice (some ⟨gL,0,none⟩) fs.length cL) (.slice (some ⟨gV,0,none⟩) fs.length fs.length) (.int .i64 ce) (.int .i64 co) (.int .i64 0) (.int .i64 0) (.int .i64 0)) fs
    (.agg #[.slice (some ⟨gH,0,none⟩) fs.length cH,.slice (some ⟨gT,0,none⟩) fs.length cT,.slice (some ⟨gL,0,none⟩) fs.length cL,.slice (some ⟨gV,0,none⟩) fs.length fs.length,.int .i64 ce,.int .i64 co]) gH cH gT cT gL cL gV ce co gh hs V:=by
 obtain ⟨-,g8,gV,V,ce,co,x8,r8,hV⟩:=hA
 have g:=Znb wr mem (.slice pd nd cd) (.slice pF fs.length cF) bx
 have sz:=H.b.sz
 have hbl:=H.bxl
 have hxl:=(Gs H.xb)
 have szl:=g.size
 have hbm:wr.heap.size<(Zoh wr mem (.slice pd nd cd) (.slice pF fs.length cF) bx).heap.size:=by
  have hz:(Zoh wr mem (.slice pd nd cd) (.slice pF fs.length cF) bx).heap.size=wr.heap.size+2:=by simp [Zoh]
  omega
 have b8:=Yyp (Js H.b g (fun k e=>by cases e)) g8 (fun k hk e=>by rcases e with e|e <;> omega)
 have mv:∀ {b o:Nat} {v:Value},bx<b->b<wr.heap.size->wr.cell? ⟨b,o,none⟩=some v->∀ {F0 F1 F2 F3 F4 F5 G0 G1 G2:Value},(Zwq w8 (w.heap.size+1) (w.heap.size+1+1) F0 F1 F2 F3 F4 F5 G0 G1 G2).cell? ⟨b,o,none⟩=some v:=fun h1 h2 h=>by
  intro F0 F1 F2 F3 F4 F5 G0 G1 G2
  rw [Zbi (Zoz (by omega) (by omega)),Zbi (g8.block _ (by omega) (fun e=>by rcases e with e|e <;> omega))]
  exact g.cell h (by simp)
 refine ⟨gV,V,ce,co,b8,x8,⟨rfl,fun f fn hfn => ?_,fun f fn hfn => ?_,fun f hf => ?_,hV,⟨by have:=S.lH;omega,by have:=(r8.lt gV rfl).1;omega⟩⟩⟩
 · obtain ⟨h1,h2,h3,h4⟩:=S.lg f fn hfn
   exact ⟨by omega,mv S.lH.1 S.lH.2 h3,fun i hi=>mv h1 h2 (h4 i hi)⟩
 · have hf:=(List.getElem?_eq_some_iff.1 hfn).1
   obtain ⟨s,r1,r2,r3,r4⟩:=H.ht f fn hf hfn
   exact ⟨s,r1,r2,r3⟩
 · have hlv:=(r8.lt gV rfl)
   have hlen:V.length=fs.length:=hV.1
   rw [Zbi (Zoz (by omega) (by omega)),r8.cellAt f (by omega),List.getElem?_map,List.getD_eq_getElem?_getD,List.getElem?_eq_getElem (by omega:f<V.length)]
   rfl
end
theorem Zml {w W:World} {mem:Int} {pd:Option Addr} {nd cd:Nat} {pF:Option Addr} {cF:Nat} {fs:List FnP} (R5:RnB w W mem pd nd cd pF cF fs) :
 RnW w (W.alloc (.cells #[.slice none 0 0,.slice none 0 0,.slice none 0 0,.slice none 0 0,.int .i64 0,.int .i64 0] 35)) mem pd nd cd pF cF fs W.heap.size 0 0 0 0 (.slice none 0 0) (.slice none 0 0) (.slice none 0 0) (fun _=>0) (fun _=>0) (fun _=>[]) (fun _=>undef) (fun _=>0) :=
 ⟨Js R5 (Ga _ _ none) (fun k e=>by cases e),heap_alloc_new _ _,R5.sz,World.ownsRow_nil _ _ _ _,World.ownsRow_nil _ _ _ _,World.ownsRow_nil _ _ _ _,(fun q hq=>by cases hq),fun f hf=>absurd hf (Nat.not_lt_zero _),fun f hf=>absurd hf (Nat.not_lt_zero _),fun f fn hf=>absurd hf (Nat.not_lt_zero _),fun f fn hf=>absurd hf (Nat.not_lt_zero _)⟩
theorem Xdf (mem:Int) (nd:Nat) (fs:List FnP) (pd pF:Option Addr) (cd cF B:Nat) (w W:World) (hB:B<=w.heap.size) (hF:Yl w B pF fs) (hp:Zaz mem nd fs=0) (hfo:Zcm fs) (hops:Zyy fs) (hok:Zjp fs) (R5:RnB w W mem pd nd cd pF cF fs)
 (a:Act) (ha:Xfh w.heap.size a) (K:Act->World->Prop) (hK:∀ a w',Code.wp Try.prog (Zzp Try.f9 9) (bodyPost Try.prog Try.f9 (Zkj w mem nd fs)) a w'->K a w') :
 Code.wp Try.prog (Ycl Try.f9 9) (Exit.then K (bodyPost Try.prog Try.f9 (Zkj w mem nd fs))) a W:=by
 rw [Yyo ha]
 generalize (fun i=>a.tmps.getD i undef)=t
 clear ha
 have HF:=Hq hF
 have HP:=Hq hp
 have HFO:=Hq hfo
 have HOP:=Hq hops
 have OK:=Hq hok
 have h64:=hok.nf
 have hn1:=hok.n1
 have RW0:=Hq (Zml R5)
 have hbx3:=R5.sz
 have m2:=Cq _ _ 2 _ _ _ (Zml R5).b.pb
 have mq:=(Array.getElem?_eq_some_iff.1 (Zml R5).b.pb).1
 clear hF hp hfo hops hok R5
 unfold rnF
 generalize t 0=u,t 4=u,t 5=u,t 6=u,t 7=u,t 8=u,t 9=u,t 10=u,t 11=u,t 12=u,t 13=u,t 14=u,t 15=u,t 16=u,t 17=u,t 18=u,t 19=u,t 20=u,t 21=u,t 22=u,t 23=u,t 24=u,t 25=u,t 26=u,t 27=u,t 28=u,t 29=u,t 30=u,t 31=u,t 32=u,t 33=u,t 34=u,t 35=u,t 36=u,t 37=u,t 38=u,t 39=u,t 40=u,t 41=u,t 42=u,t 43=u,t 44=u,t 45=u,t 46=u,t 47=u,t 48=u,t 49=u,t 50=u,t 51=u,t 52=u,t 53=u,t 54=u,t 55=u,t 56=u,t 57=u,t 58=u,t 59=u,t 60=u,t 61=u,t 62=u,t 63=u,t 64=u,t 65=u,t 66=u,t 67=u,t 68=u,t 69=u,t 70=u,t 71=u,t 72=u,t 73=u,t 74=u,t 75=u,t 76=u,t 77=u,t 78=u,t 79=u,t 80=u,t 81=u,t 82=u,t 83=u,t 84=u,t 85=u,t 86=u,t 87=u,t 88=u,t 89=u
 clear t
 conv=>arg 2;whnf
 go_wp2
 try clear K
 conv=>arg 2;whnf
 generalize W.heap.size=bx at *
 generalize W.alloc (.cells #[.slice none 0 0,.slice none 0 0,.slice none 0 0,.slice none 0 0,.int .i64 0,.int .i64 0] 35)=W1 at *
 go_wp2
 clear m2 mq
 go_loopw [45] (fun i wr=>∃ (k:Nat) (vH vT vL:Value) (gh:Nat->Nat) (tops:Nat->Int) (hs:Nat->List Int) (lv:Nat->Value) (ln:Nat->Nat),i = .int .i64 k/\k<=fs.length/\RnW w wr mem pd nd cd pF cF fs bx k k k k vH vT vL gh tops hs lv ln) (fun i _=>fs.length - (intOf i).toNat)
 case atStart=>exact ⟨0,_,_,_,_,_,_,_,_,rfl,Nat.zero_le _,RW0.out⟩
 case round =>
  obtain ⟨k,vH,vT,vL,gh,tops,hs,lv,ln,rfl,hk,hW⟩:=hrel
  obtain ⟨wo,hwo⟩:∃ wo,wo=wr:=⟨_,rfl⟩
  subst hwo
  clear RW0
  have HW:=Hq hW
  have hpb:=hW.b.pb
  have m0:=Cq _ _ 0 _ _ _ hpb
  have m1:=Cq _ _ 1 _ _ _ hpb
  have m2:=Cq _ _ 2 _ _ _ hpb
  have mq:=(Gs hpb)
  have hxl:=(Gs hW.xb)
  clear hpb
  by_cases hlt:(k:Int)<(fs.length:Int)
  · obtain ⟨⟨ar,lo,r,c⟩,hfn⟩:∃ fn,fs[k]? = some fn:=⟨_,List.getElem?_eq_getElem (by omega)⟩
    have HFN:=Hq hfn
    have HLEN:=Hq (Zxx hfn)
    obtain ⟨hc1,hc2⟩:=OK.out.len _ (List.mem_of_getElem? hfn)
    simp only [] at hc1 hc2
    have hBo:B<=wo.heap.size:=Nat.le_trans hB hW.b.gr.size
    have HT:=Hq (Zyc mem (.slice pd nd cd) fs pF cF B k (ar,lo,r,c) wo ⟨_,_,_,rfl⟩ hBo (Zq HF.out hW.b.gr (by simp)) hfn OK.out)
    clear hW hfn
    go_upto_region 14 with (go_at_call 24;refine HT.out.mono ?_;rintro e w1 ⟨g1,hres⟩;rcases hres with ⟨s,g,hr,hi,rfl,ho⟩|⟨s,pl,err,hr,hbad,rfl⟩ <;> (try unfold Zpt))
    · have hlow:=(ho.lt g rfl).1
      have RW1:=Hq (Ytv (Zei HW.out g1) HFN.out hr hi (by rw [HLEN.out];exact Zz ho (by omega)) (fun e=>by have:=(HW.out.oT.lt g e).2;omega))
      have RW2:=Hq (Zei RW1.out (Ga w1 (.cells #[.int .i64 0,.int .i64 0,.int .i64 0] 39) none))
      have hb10:=heap_alloc_new w1 (.cells #[.int .i64 0,.int .i64 0,.int .i64 0] 39)
      have k0:=Cq _ _ 0 _ _ _ hb10
      have q10:=(Gs hb10)
      have hz1:=g1.size
      have hh0:0<=s.h.getD 0 0:=by have:=(Zbl OK.out (List.mem_of_getElem? HFN.out) hr).1;omega
      have HH0:=Hq hh0
      have hlh:s.h.length=c.length:=hi.hl
      have HLH:=Hq hlh
      clear RW1 hb10 m0 m1 m2 mq hr hi ho g1 HT HW hh0 hlh
      generalize w1.alloc (.cells #[.int .i64 0,.int .i64 0,.int .i64 0] 39)=W2 at *
      generalize w1.heap.size=b10 at *
      have x2:=RW2.out.xb
      have c0:=Cq _ _ 0 _ _ _ x2
      have q2:=(Gs x2)
      clear x2
      obtain ⟨ii,ii0,ii1,ii2,ii3⟩:=info_parts Zuz
      obtain ⟨gh',hgh⟩:∃ x,x=Yeu gh k g:=⟨_,rfl⟩
      obtain ⟨tops',htops⟩:∃ x,x=Yeu tops k s.top:=⟨_,rfl⟩
      obtain ⟨hs',hhs⟩:∃ x,x=Yeu hs k s.h:=⟨_,rfl⟩
      rw [<- hgh,<- htops,<- hhs] at RW2
      have E1:=Hq (show gh' k=g by rw [hgh];exact Jq _ _ _)
      have E2:=Hq (show tops' k=s.top by rw [htops];exact Jq _ _ _)
      have E3:=Hq (show hs' k=s.h by rw [hhs];exact Jq _ _ _)
      clear hgh htops hhs
      have hE:bx+1<=(W2.alloc (.cells #[.slice (some ⟨g,0,none⟩) c.length c.length] 32)).heap.size:=by simp;omega
      go_upto_region 17 with (at_builtin;refine wpList_append_own_at _ rfl _ _ 31 rfl (bx+1) 32 ii (.slice none 0 0) 1 24 Yan ii0 ii1 ii2 ii3 rfl (by decide) vH k _ rfl (RW2.out.oH.alloc _) ⟨W2.heap.size,0,none⟩ 1 1 [.slice (some ⟨g,0,none⟩) c.length c.length] rfl rfl (Zgl W2 _ _) (Zun _ _ _) (by unfold maxLen;omega) (by omega) hE ?_;intro v3 w5 hown3 hgr3 hnil3 hat3;have OW3:=Hq hown3;have GR3:=Hq hgr3;have HAT3:=Hq hat3;have x5:=Zb (Zb RW2.out.xb (Ga W2 (.cells #[.slice (some ⟨g,0,none⟩) c.length c.length] 32) none) (by simp)) hgr3 (Zfb RW2.out.oH (Nat.lt_succ_self _));have y0:=Cq _ _ 0 _ _ _ x5;have z0:=frozen_of_row _ _ 0 _ _ x5;have q5:=(Gs x5);obtain ⟨p3,k3,hv3⟩:=Zp hown3;subst hv3;clear hown3 hgr3 hnil3 hat3 x5)
      have RW3:=Hq (Xdn RW2.out (Ga W2 (.cells #[.slice (some ⟨g,0,none⟩) c.length c.length] 32) none) (by rw [E1.out,HLEN.out];exact OW3.out) GR3.out HAT3.out)
      have hz3:=RW2.out.b.gr.size
      have hz5:=GR3.out.size
      have hz2:bx<W2.heap.size:=q2
      clear RW2 OW3 GR3 HAT3 c0 k0 q10 y0 z0 q5 q2
      obtain ⟨W5,hW5⟩:∃ W5,W5=w5.setCell ⟨bx,0,none⟩ (.slice p3 (k+1) k3):=⟨_,rfl⟩
      rw [<- hW5] at RW3 ⊢
      clear hW5
      have x5:=RW3.out.xb
      have c1:=Cq _ _ 1 _ _ _ x5
      have q5:=(Gs x5)
      clear x5
      obtain ⟨ji,ji0,ji1,ji2,ji3⟩:=info_parts Zao
      have hE5:bx+1<=(W5.alloc (.cells #[.int .i64 s.top] 3)).heap.size:=by simp;omega
      go_upto_region 18 with (at_builtin;refine wpList_append_own_at _ rfl _ _ 32 rfl (bx+1) 3 ji (.int .i64 0) 1 8 Zbv ji0 ji1 ji2 ji3 rfl (by decide) vT k _ rfl (RW3.out.oT.alloc _) ⟨W5.heap.size,0,none⟩ 1 1 [.int .i64 s.top] rfl rfl (Zgl W5 _ _) (Zcq _ _) (by unfold maxLen;omega) (by omega) hE5 ?_;intro v4 w7 hown4 hgr4 hnil4 hat4;have OW4:=Hq hown4;have GR4:=Hq hgr4;have HAT4:=Hq hat4;have x7:=Zb (Zb RW3.out.xb (Ga W5 (.cells #[.int .i64 s.top] 3) none) (by simp)) hgr4 (Zfb RW3.out.oT (Nat.lt_succ_self _));have y1:=Cq _ _ 1 _ _ _ x7;have z1:=frozen_of_row _ _ 1 _ _ x7;have q7:=(Gs x7);obtain ⟨p4,k4,hv4⟩:=Zp hown4;subst hv4;clear hown4 hgr4 hnil4 hat4 x7)
      have RW4:=Hq (Xdl RW3.out (Ga W5 (.cells #[.int .i64 s.top] 3) none) (by rw [E2.out];exact OW4.out) GR4.out HAT4.out)
      clear RW3 OW4 GR4 HAT4 c1 y1 z1 q7 q5 hz3 hz5 hz2
      obtain ⟨W8,hW8⟩:∃ W8,W8=w7.setCell ⟨bx,1,none⟩ (.slice p4 (k+1) k4):=⟨_,rfl⟩
      rw [<- hW8] at RW4 ⊢
      clear hW8
      rename_i K hK
      have LPS:=Yih mem (.slice pd nd cd) fs pF cF B k (ar,lo,r,c) g s.h W8.drew ⟨_,_,_,rfl⟩ (Nat.le_trans hB RW4.out.b.gr.size) (Zq HF.out (Ze RW4.out.b.gr) (by simp)) HFN.out OK.out (fun i hi=>by
       have hr:=RW4.out.rows k (Nat.lt_succ_self k)
       rw [E1.out,HLEN.out,E3.out] at hr
       have hl:=HLH.out
       have:=hr.cellAt i (by simp only [] at hi ⊢;omega)
       rw [List.getElem?_map,List.getElem?_eq_getElem (by simp only [] at hi;omega:i<s.h.length)] at this
       rw [List.getD_eq_getElem?_getD,List.getElem?_eq_getElem (by simp only [] at hi;omega:i<s.h.length)]
       exact this) HH0.out
      refine Ymv W8 (bx+1) bx w.heap.size k k g c.length fs.length cF mem _ _ _ vL pF c s.h _ LPS RW4.out.xb RW4.out.b.pb ⟨Nat.lt_succ_self _,by have:=(Gs RW4.out.xb);omega⟩ RW4.out.oL (by omega) _ rfl rfl rfl rfl rfl _ ?_
      intro lvv v7 N6 ws RK
      have RL:=Xdm RW4.out HFN.out (by rw [E3.out];exact RK)
      obtain ⟨nL,RL⟩:=RL
      have RL2:=Hq RL
      clear RL RK LPS RW4
      refine hK _ _ ?_
      simp only [Zay,rq,rqv,Act.put,List.setIfInBounds_toArray,List.set_cons_zero,List.set_cons_succ]
      clear hK K
      go_wp2
      refine ⟨⟨k+1,_,_,_,_,_,_,_,_,by go_num,by omega,RL2.out⟩,by simp [intOf];omega⟩
    · have hne:err≠0:=by
       obtain ⟨-,-,h|h⟩:=hbad
       · exact h.1
       · omega
      have RB:=Hq (show Zfx mem nd fs err k pl from ⟨hne,Or.inr (Or.inr (Or.inr ⟨HP.out,HFO.out,HOP.out,_,s,HFN.out,hr,hbad⟩))⟩)
      have hbb:(err == 0)=false:=by simp [hne]
      have hb5:=heap_alloc_new w1 (.cells #[.int .i64 err,.int .i64 k,.int .i64 pl] 39)
      have R1:=(Zei HW.out g1).b
      have hs4:=R1.sz
      have R5:=Hq (Js R1 (Ga w1 (.cells #[.int .i64 err,.int .i64 k,.int .i64 pl] 39) none) (fun k e=>by cases e))
      clear R1 hr hbad HT g1 m0 m1 m2 mq hne HW
      generalize hb:w1.heap.size=b5 at *
      clear hb
      generalize w1.alloc (.cells #[.int .i64 err,.int .i64 k,.int .i64 pl] 39)=W5 at *
      have k0:=Cq _ _ 0 _ _ _ hb5
      have k1:=Cq _ _ 1 _ _ _ hb5
      have k2:=Cq _ _ 2 _ _ _ hb5
      have q5:=(Gs hb5)
      have x2:=R5.out.f2
      have x3:=R5.out.f3
      have v0:=Cq _ _ 0 _ _ _ x2
      have v1:=Cq _ _ 1 _ _ _ x2
      have v2:=Cq _ _ 2 _ _ _ x2
      have v3:=Cq _ _ 3 _ _ _ x2
      have v4:=Cq _ _ 4 _ _ _ x2
      have v5:=Cq _ _ 5 _ _ _ x2
      have j0:=Cq _ _ 0 _ _ _ x3
      have j1:=Cq _ _ 1 _ _ _ x3
      have j2:=Cq _ _ 2 _ _ _ x3
      have z0:=frozen_of_row _ _ 0 _ _ x2
      have z1:=frozen_of_row _ _ 1 _ _ x2
      have z2:=frozen_of_row _ _ 2 _ _ x2
      have z3:=frozen_of_row _ _ 3 _ _ x2
      have z4:=frozen_of_row _ _ 4 _ _ x2
      have z5:=frozen_of_row _ _ 5 _ _ x2
      have y0:=frozen_of_row _ _ 0 _ _ x3
      have y1:=frozen_of_row _ _ 1 _ _ x3
      have y2:=frozen_of_row _ _ 2 _ _ x3
      have q2:=(Gs x2)
      have q3:=(Gs x3)
      have n1:¬ b5=w.heap.size+1:=by omega
      have n2:¬ b5=w.heap.size+1+1:=by omega
      have n3:¬ w.heap.size+1=b5:=by omega
      have n4:¬ w.heap.size+1+1=b5:=by omega
      clear x2 x3 hb5
      have E9:=Zip (F0 := .slice none 0 0) (F1 := .slice none 0 0) (F2 := .slice none 0 0) (F3 := .slice none 0 0) (F4 := .int .i64 0) (F5 := .int .i64 0) (G0 := .int .i64 err) (G1 := .int .i64 k) (G2 := .int .i64 pl) R5.out
      obtain ⟨w9,hw9⟩:∃ w9,w9=Zwq W5 (w.heap.size+1) (w.heap.size+1+1) (.slice none 0 0) (.slice none 0 0) (.slice none 0 0) (.slice none 0 0) (.int .i64 0) (.int .i64 0) (.int .i64 err) (.int .i64 k) (.int .i64 pl):=⟨_,rfl⟩
      rw [<- hw9] at E9
      unfold Zwq at hw9
      have EE:=Hq E9
      have HW9:=Hq hw9
      clear E9 hw9
      go_wp2
      go_region
      all_goals
       rw [<- HW9.out]
       clear k0 k1 k2 v0 v1 v2 v3 v4 v5 j0 j1 j2 z0 z1 z2 z3 z4 z5 y0 y1 y2 q2 q3 n1 n2 n3 n4
       go_wp2
       exact Zkf rfl rfl rfl EE.out.2.1 EE.out.2.2 ⟨Ze EE.out.1,Or.inl ⟨_,_,_,rfl,RB.out⟩⟩
  · have hkn:k=fs.length:=by omega
    subst hkn
    obtain ⟨gH,gT,gL,cH,cT,cL,S⟩:=Yyn hW OK.out
    have LKH:=Hq (Ypb _ _ _ _ _ _ _ _ _ _ _ _ _ _ _ _ _ _ _ _ _ (Xam hW OK.out S HF.out hB) OK.out)
    unfold Zoh at LKH
    have HS:=Hq S
    clear hW S
    have hmm := @run_makeMap Try.prog
    go_wp2_with (go_at_call 26;refine LKH.out.mono ?_;rintro e w8 hA;obtain ⟨v8,hv8⟩:=hA.1;subst hv8;have FIN:=Ytp HW.out OK.out HS.out hA;clear hA;obtain ⟨gV,V,ce,co,hR8,hx8,hO8⟩:=FIN;have R8:=Hq hR8;have O8:=Hq hO8;have x2:=hR8.f2;have x3:=hR8.f3;have i0:=Cq _ _ 0 _ _ _ hx8;have i1:=Cq _ _ 1 _ _ _ hx8;have i2:=Cq _ _ 2 _ _ _ hx8;have i3:=Cq _ _ 3 _ _ _ hx8;have i4:=Cq _ _ 4 _ _ _ hx8;have i5:=Cq _ _ 5 _ _ _ hx8;have q1:=(Gs hx8);have v0:=Cq _ _ 0 _ _ _ x2;have v1:=Cq _ _ 1 _ _ _ x2;have v2:=Cq _ _ 2 _ _ _ x2;have v3:=Cq _ _ 3 _ _ _ x2;have v4:=Cq _ _ 4 _ _ _ x2;have v5:=Cq _ _ 5 _ _ _ x2;have j0:=Cq _ _ 0 _ _ _ x3;have j1:=Cq _ _ 1 _ _ _ x3;have j2:=Cq _ _ 2 _ _ _ x3;have z0:=frozen_of_row _ _ 0 _ _ x2;have z1:=frozen_of_row _ _ 1 _ _ x2;have z2:=frozen_of_row _ _ 2 _ _ x2;have z3:=frozen_of_row _ _ 3 _ _ x2;have z4:=frozen_of_row _ _ 4 _ _ x2;have z5:=frozen_of_row _ _ 5 _ _ x2;have y0:=frozen_of_row _ _ 0 _ _ x3;have y1:=frozen_of_row _ _ 1 _ _ x3;have y2:=frozen_of_row _ _ 2 _ _ x3;have q2:=(Gs x2);have q3:=(Gs x3);clear hR8 hx8 hO8 x2 x3)
    exact Zkf rfl rfl rfl (Zip R8.out).2.1 (Zip R8.out).2.2 ⟨(Zip R8.out).1,Or.inr ⟨HP.out,HFO.out,HOP.out,_,_,_,_,_,_,_,_,_,_,_,_,_,rfl,O8.out⟩⟩
theorem Xdg (mem:Int) (nd:Nat) (fs:List FnP) (pd pF:Option Addr) (cd cF B:Nat) (w:World) (hB:B<=w.heap.size) (hF:Yl w B pF fs) (hn:nd<=9223372036854775807) (hp:Zaz mem nd fs=0) (hfo:Zcm fs) :
 Calls Try.prog 9 #[.agg #[.int .i64 mem,.slice pd nd cd,.slice pF fs.length cF]] w (Zkj w mem nd fs):=by
 obtain ⟨t1,t2,t3⟩:=Xl w (.cells #[.int .i64 mem,.slice pd nd cd,.slice pF fs.length cF] 25) (.cells #[.slice none 0 0,.slice none 0 0,.slice none 0 0,.slice none 0 0,.int .i64 0,.int .i64 0] 35) (.cells #[.int .i64 0,.int .i64 0,.int .i64 0] 39)
 have g3:=Xm w (.cells #[.int .i64 mem,.slice pd nd cd,.slice pF fs.length cF] 25) (.cells #[.slice none 0 0,.slice none 0 0,.slice none 0 0,.slice none 0 0,.int .i64 0,.int .i64 0] 35) (.cells #[.int .i64 0,.int .i64 0,.int .i64 0] 39)
 have PC:=Hq (Zkb mem nd fs pd pF cd cF B _ (Nat.le_trans hB g3.size) (Zq hF g3 (by simp)) hn)
 rw [hp] at PC
 have R3:=Hq (show RnB w _ mem pd nd cd pF cF fs from ⟨g3,t1,t2,t3,by simp⟩)
 obtain ⟨hl1,hl2,hl3⟩:=Zuc hp
 have hz:(0:Int)<(fs.length:Int):=by omega
 have hfo2:=hfo
 obtain ⟨⟨ar,lo,r,c⟩,hfn,h1,h2⟩:=hfo2
 simp only [] at h1 h2
 subst h1
 subst h2
 have HF:=Hq hF
 obtain ⟨bF,oF,hpF,hbF,hcF⟩:=hF (by omega)
 obtain ⟨e0,e1,e2,-⟩:=hcF 0 0 lo 1 c hfn
 simp only [Nat.zero_mul,Nat.add_zero] at e0 e1 e2
 have E0:=Hq e0
 have E2:=Hq e2
 have hbF2:bF<w.heap.size:=by omega
 have HP:=Hq hp
 have HFO:=Hq hfo
 have OPS:=Hq (fun (W:World) (hg:w.grownBy W none)=>Zxn mem (.slice pd nd cd) fs pF cF B W ⟨_,_,_,rfl⟩ (Nat.le_trans hB hg.size) (Zq hF hg (by simp)) hl2 (fun fn hm=>(hl3 fn hm).2))
 subst hpF
 clear t1 t2 t3 g3 hF hp hcF hfn e0 e1 e2 hfo hl1 hl3
 go_enter Try.func9,Try.ntmps9
 go_upto_region 7 with (first
  | (go_at_call 22;refine PC.out.mono ?_;rintro e w2 ⟨rfl,g2⟩;have R2:=Hq (Js R3.out g2 (fun k e=>by cases e));have s1:=R2.out.pb;have m0:=Cq _ _ 0 _ _ _ s1;have m1:=Cq _ _ 1 _ _ _ s1;have m2:=Cq _ _ 2 _ _ _ s1;have s1q:=(Gs s1);have n0:=R2.out.gr.cell E0.out (by simp);have n2:=R2.out.gr.cell E2.out (by simp);have nq:=Nat.lt_of_lt_of_le hbF2 R2.out.gr.size;clear g2 s1)
  | (go_at_call 23;refine (OPS.out _ R2.out.gr).mono ?_;rintro e w3 ⟨g3,err,f,n,rfl,ho⟩;have R4:=Hq (Js R2.out g3 (fun k e=>by cases e));have HO:=Hq ho;clear g3 ho m0 m1 m2 s1q n0 n2 nq))
 have hb5:=heap_alloc_new w3 (.cells #[.int .i64 err,.int .i64 f,.int .i64 n] 39)
 have R5:=Hq (Js R4.out (Ga w3 (.cells #[.int .i64 err,.int .i64 f,.int .i64 n] 39) none) (fun k e=>by cases e))
 have hs4:=R4.out.sz
 generalize hb:w3.heap.size=b5 at *
 clear hb R4
 generalize w3.alloc (.cells #[.int .i64 err,.int .i64 f,.int .i64 n] 39)=W at *
 have HB5:=Hq hb5
 have k0:=Cq _ _ 0 _ _ _ hb5
 have k1:=Cq _ _ 1 _ _ _ hb5
 have k2:=Cq _ _ 2 _ _ _ hb5
 have q5:=(Gs hb5)
 clear hb5
 rcases HO.out with ⟨rfl,rfl,rfl,hok⟩|⟨hne,hbad⟩
 · have PO:=Hq (Zkc HP.out (fun fn hm=>hok fn hm))
   have HOK:=Hq hok
   clear k1 k2 hok
   go_upto_region 9 with fail
   rename_i K hK
   exact Xdf mem nd fs pd _ cd cF B w W hB HF.out HP.out HFO.out HOK.out PO.out R5.out _ ⟨rfl,rfl,rfl,rfl,rfl⟩ K hK
 · have hbb:(err == 0)=false:=by simp [hne]
   have RB:=Hq (show Zfx mem nd fs err f n from ⟨hne,Or.inr (Or.inr (Or.inl ⟨HP.out,HFO.out,HO.out⟩))⟩)
   have x2:=R5.out.f2
   have x3:=R5.out.f3
   have v0:=Cq _ _ 0 _ _ _ x2
   have v1:=Cq _ _ 1 _ _ _ x2
   have v2:=Cq _ _ 2 _ _ _ x2
   have v3:=Cq _ _ 3 _ _ _ x2
   have v4:=Cq _ _ 4 _ _ _ x2
   have v5:=Cq _ _ 5 _ _ _ x2
   have j0:=Cq _ _ 0 _ _ _ x3
   have j1:=Cq _ _ 1 _ _ _ x3
   have j2:=Cq _ _ 2 _ _ _ x3
   have z0:=frozen_of_row _ _ 0 _ _ x2
   have z1:=frozen_of_row _ _ 1 _ _ x2
   have z2:=frozen_of_row _ _ 2 _ _ x2
   have z3:=frozen_of_row _ _ 3 _ _ x2
   have z4:=frozen_of_row _ _ 4 _ _ x2
   have z5:=frozen_of_row _ _ 5 _ _ x2
   have y0:=frozen_of_row _ _ 0 _ _ x3
   have y1:=frozen_of_row _ _ 1 _ _ x3
   have y2:=frozen_of_row _ _ 2 _ _ x3
   have q2:=(Gs x2)
   have q3:=(Gs x3)
   have n1:¬ b5=w.heap.size+1:=by omega
   have n2:¬ b5=w.heap.size+1+1:=by omega
   have n3:¬ w.heap.size+1=b5:=by omega
   have n4:¬ w.heap.size+1+1=b5:=by omega
   clear x2 x3 hne hbad
   go_wp2
   have E9:=Zip (F0 := .slice none 0 0) (F1 := .slice none 0 0) (F2 := .slice none 0 0) (F3 := .slice none 0 0) (F4 := .int .i64 0) (F5 := .int .i64 0) (G0 := .int .i64 err) (G1 := .int .i64 f) (G2 := .int .i64 n) R5.out
   obtain ⟨w9,hw9⟩:∃ w9,w9=Zwq W (w.heap.size+1) (w.heap.size+1+1) (.slice none 0 0) (.slice none 0 0) (.slice none 0 0) (.slice none 0 0) (.int .i64 0) (.int .i64 0) (.int .i64 err) (.int .i64 f) (.int .i64 n):=⟨_,rfl⟩
   rw [<- hw9] at E9
   unfold Zwq at hw9
   have EE:=Hq E9
   have HW9:=Hq hw9
   clear E9 hw9
   go_region
   all_goals
    rw [<- HW9.out]
    clear k0 k1 k2 v0 v1 v2 v3 v4 v5 j0 j1 j2 z0 z1 z2 z3 z4 z5 y0 y1 y2 q2 q3 n1 n2 n3 n4
    go_wp2
    exact Zkf rfl rfl rfl EE.out.2.1 EE.out.2.2 ⟨Ze EE.out.1,Or.inl ⟨_,_,_,rfl,RB.out⟩⟩
theorem Ygf (mem:Int) (nd:Nat) (fs:List FnP) (pd pF:Option Addr) (cd cF B:Nat) (w:World) (hB:B<=w.heap.size) (hF:Yl w B pF fs) (hn:nd<=9223372036854775807) :
 Calls Try.prog 9 #[.agg #[.int .i64 mem,.slice pd nd cd,.slice pF fs.length cF]] w (Zkj w mem nd fs):=by
 by_cases hp:Zaz mem nd fs=0
 · by_cases hfo:Zcm fs
   · exact Xdg mem nd fs pd pF cd cF B w hB hF hn hp hfo
   · exact Xdh mem nd fs pd pF cd cF B w hB hF hn hp hfo
 · exact Xdi mem nd fs pd pF cd cF B w hB hF hn hp
end Go.Proofs.Ythlkflagancdfaa.CK
namespace Go.Proofs.Ythlkflagancdfaa.OT
open Go.RowKit Go.Great
open Go.Proofs.Ythlkflagancdfaa.CK
def OkP (mem:Int) (nd:Nat) (fs:List FnP) (hs:Nat->List Int) (V:List Bool):Prop:=Zaz mem nd fs=0/\Zcm fs/\Zyy fs /\
 (∀ (f:Nat) (fn:FnP),fs[f]? = some fn->∃ s,HRun fs fn (hs0 fn.2.2.2.length) 0 s fn.2.2.2.length/\Zzb fn.2.2.2.length s/\s.h=hs f)/\Zon fs (Znt fs hs) V
def Ylw (fs:List FnP) (i n:Nat) (x:Jn):List FnP :=
 match fs[i]? with
 | some fn=>fs.set i (Zv fn (Xb fn.2.2.2 n x.long x.put))
 | none=>fs
noncomputable def Jk (fs:List FnP) (hs:Nat->List Int) (V:List Bool):Option ((Nat × Nat) × Int × List FnP) :=
 match Zbk hs V fs.length 0 with
 | some p=>some (p,1,Zam fs hs V)
 | none=>match Zed fs 0 with
   | some p=>some (p,3,Xp fs)
   | none=>match Zqs fs 0 with
     | some (i,n,x)=>some ((i,n),x.what,Ylw fs i n x)
     | none=>none
def Ysj (N:Nat):Prop:=N=31\/N=34\/N=55
theorem Znl {N:Nat} {fn:Func} (hf:Try.prog.funcs[N]? = some fn) (h1:(fn.name == "runtime.NumGoroutine")=false) (h2:fn.body.isNone=false) (args:Array Value) (W:World):(callFunc N args).run Try.prog W = .ok (.enter N args) W:=by
 have h1':fn.name≠"runtime.NumGoroutine" := by simpa using h1
 have h2':fn.body≠none:=by intro e;rw [e] at h2;cases h2
 unfold callFunc
 simp [Sem.run_bind,hf,h1',h2']
theorem Zma {N:Nat} (h:Ysj N) (args:Array Value) (W:World):(callFunc N args).run Try.prog W = .ok (.enter N args) W:=by
 rcases h with rfl|rfl|rfl
 · exact Znl Try.func31 (by kernel_rfl) (by kernel_rfl) args W
 · exact Znl Try.func34 (by kernel_rfl) (by kernel_rfl) args W
 · exact Znl Try.func55 (by kernel_rfl) (by kernel_rfl) args W
def Ybv:Value := .agg #[.int .i64 0,.int .i64 0,.int .i64 0,.nilFunc]
def Zdk (w:World) (mem:Int) (dl:List Int) (fs:List FnP) (e:Ending) (w':World):Prop:=w.grownBy w' none /\
 ((∃ err f n,e = .returned (.tuple #[Ybv,.bool false,.int .i64 152])/\Zfx mem dl.length fs err f n) \/
  (∃ hs V,OkP mem dl.length fs hs V/\match Jk fs hs V with
    | none=>e = .returned (.tuple #[Ybv,.bool false,.int .i64 0])
    | some ((f,n),what,fs')=>∃ (N:Nat) (caps:Array Value),Ysj N/\e = .returned (.tuple #[.agg #[.int .i64 f,.int .i64 n,.int .i64 what,.func (.func N) #[] caps],.bool true,.int .i64 0]) /\
       ∀ W,w'.grownBy W none->Calls Try.prog N caps W (Zfo W mem dl fs')))
def Zts (w:World) (b:Nat) (x0 x1 x2 x3:Value):World:=(((w.setCell ⟨b,0,none⟩ x0).setCell ⟨b,1,none⟩ x1).setCell ⟨b,2,none⟩ x2).setCell ⟨b,3,none⟩ x3
theorem Zpa {w0 w:World} {b:Nat} {x0 x1 x2 x3:Value} (h:w0.grownBy w none) (hb:w0.heap.size<=b):w0.grownBy (Zts w b x0 x1 x2 x3) none:=Zd (Zd (Zd (Zd h hb) hb) hb) hb
theorem Yge {w:World} {b:Nat} {x0 x1 x2 x3 y0 y1 y2 y3:Value} {t:TypeId} (h:w.heap[b]? = some (.cells #[y0,y1,y2,y3] t (0,0))):(Zts w b x0 x1 x2 x3).heap[b]? = some (.cells #[x0,x1,x2,x3] t (0,0)):=by
 unfold Zts
 rw [Zg (Zg (Zg (Zg h)))]
 rfl
theorem Zeg {w:World} {b k:Nat} {x0 x1 x2 x3:Value} (h:k≠b):(Zts w b x0 x1 x2 x3).heap[k]? = w.heap[k]? := by
 have s:∀ (X:World) (o:Nat) (v:Value),(X.setCell ⟨b,o,none⟩ v).heap[k]? = X.heap[k]? := fun X o v=>heap_setCell_other X _ k v (by intro e;exact h (by rw [e]))
 unfold Zts
 rw [s,s,s,s]
theorem Zgt {R:Ending->World->Prop} {a:Act} {W:World} {b:Nat} {x0 x1 x2 x3 y0 y1 y2 y3 v3 v4:Value} (h2:a.tmps.getD 2 undef = .pointer (some ⟨b,0,none⟩)) (h3:a.tmps.getD 3 undef=v3) (h4:a.tmps.getD 4 undef=v4) (hd:a.defers=[])
 (X:W.heap[b]? = some (.cells #[y0,y1,y2,y3] 59 (0,0))) (hR:R (.returned (.tuple #[.agg #[x0,x1,x2,x3],v3,v4])) (Zts W b x0 x1 x2 x3)) :
 bodyPost Try.prog Try.f21 R Exit.ret a (Zts W b x0 x1 x2 x3):=by
 refine bodyPost_ret (v := .tuple #[.agg #[x0,x1,x2,x3],v3,v4]) ?_ hd hR
 have XS:=Yge (x0:=x0) (x1:=x1) (x2:=x2) (x3:=x3) X
 have k0:=Cq _ _ 0 _ _ _ XS
 have k1:=Cq _ _ 1 _ _ _ XS
 have k2:=Cq _ _ 2 _ _ _ XS
 have k3:=Cq _ _ 3 _ _ _ XS
 have q0:=(Gs XS)
 generalize Zts W b x0 x1 x2 x3=W2 at *
 clear XS X hR
 rw [Zbu rfl,h2,h3,h4]
 go_simp
theorem Ydo {w w':World} {fs:List FnP} {F:Value} {gH cH gT cT gL cL gV:Nat} {ce co:Int} {gh:Nat->Nat} {hs:Nat->List Int} {V:List Bool} (h:Ywt w w' fs F gH cH gT cT gL cL gV ce co gh hs V):Zhx w' fs F gH cH gV gh hs V :=
 ⟨⟨_,_,_,_,_,_,_,_,h.f⟩,fun f fn hf=>(h.h f fn hf).2,h.v,fun f fn hf=>by
   obtain ⟨s,_,hi,e⟩:=h.r f fn hf
   rw [<- e];exact hi.hl⟩
structure Fi (w wx:World) (pv fv:Array Value) (bF:Nat) (fs:List FnP) (gH cH gV:Nat) (gh:Nat->Nat) (hs:Nat->List Int) (V:List Bool):Prop where
 x0:wx.heap[w.heap.size]? = some (.cells pv 25 (0,0))
 x1:∃ cs,wx.heap[w.heap.size+1]? = some (.cells cs 59 (0,0))
 xf:wx.heap[bF]? = some (.cells fv 35 (0,0))
 fa:Zhx wx fs (.agg fv) gH cH gV gh hs V
 gr:w.grownBy wx none
 lf:w.heap.size+1<bF
 lh:w.heap.size+1<gH/\w.heap.size+1<gV/\∀ f,f<fs.length->w.heap.size+1<gh f
theorem Zcl {w wx wy:World} {pv fv:Array Value} {bF:Nat} {fs:List FnP} {gH cH gV:Nat} {gh:Nat->Nat} {hs:Nat->List Int} {V:List Bool} (h:Fi w wx pv fv bF fs gH cH gV gh hs V) (g:wx.grownBy wy none):Fi w wy pv fv bF fs gH cH gV gh hs V :=
 ⟨Zb h.x0 g (by simp),by obtain ⟨cs,e⟩:=h.x1;exact ⟨cs,Zb e g (by simp)⟩,Zb h.xf g (by simp),Zcj h.fa g,Za h.gr g,h.lf,h.lh⟩
theorem Yax {w wx:World} {pv fv:Array Value} {bF:Nat} {fs:List FnP} {gH cH gV:Nat} {gh:Nat->Nat} {hs:Nat->List Int} {V:List Bool} {x0 x1 x2 x3 y0 y1 y2 y3:Value} (h:Fi w wx pv fv bF fs gH cH gV gh hs V) (hx:wx.heap[w.heap.size+1]? = some (.cells #[y0,y1,y2,y3] 59 (0,0))):Fi w (Zts wx (w.heap.size+1) x0 x1 x2 x3) pv fv bF fs gH cH gV gh hs V:=by
 have hl:=h.lf
 obtain ⟨l1,l2,l3⟩:=h.lh
 have hc:∀ {b o:Nat} {v:Value},b≠w.heap.size+1->wx.cell? ⟨b,o,none⟩=some v->(Zts wx (w.heap.size+1) x0 x1 x2 x3).cell? ⟨b,o,none⟩=some v:=fun hb hv=>by
  rw [Zbi (Zeg hb)];exact hv
 refine ⟨by rw [Zeg (by omega)];exact h.x0,⟨_,Yge hx⟩,by rw [Zeg (by omega)];exact h.xf,⟨h.fa.f,fun f fn hf => ?_,fun f hf=>hc (by omega) (h.fa.v f hf),h.fa.l⟩,Zpa h.gr (by omega),hl,h.lh⟩
 have hlt:=(List.getElem?_eq_some_iff.1 hf).1
 have:=l3 f hlt
 exact ⟨hc (by omega) (h.fa.h f fn hf).1,fun i hi=>hc (by omega) ((h.fa.h f fn hf).2 i hi)⟩
theorem Znk (mem:Int) (dl:List Int) (fs:List FnP) (pd pF:Option Addr) (cd cF B:Nat) (w:World) (hBw:B<=w.heap.size) (hF:Yl w B pF fs) (hD:Rd w pd (dl.map (Value.int .u8))) (hd:dl.length<=4194304) (hn:fs.length<=64) (hr:∀ f∈fs,Jl f.2.2.2) :
 Calls Try.prog 21 #[.agg #[.int .i64 mem,.slice pd dl.length cd,.slice pF fs.length cF]] w (Zdk w mem dl fs):=by
 have T0:=Hq (Xc w (.cells #[.int .i64 mem,.slice pd dl.length cd,.slice pF fs.length cF] 25) (.cells #[.int .i64 0,.int .i64 0,.int .i64 0,.nilFunc] 59))
 have T1:=Hq (Yr w (.cells #[.int .i64 mem,.slice pd dl.length cd,.slice pF fs.length cF] 25) (.cells #[.int .i64 0,.int .i64 0,.int .i64 0,.nilFunc] 59))
 have G0:=Hq (Za (Ga w (.cells #[.int .i64 mem,.slice pd dl.length cd,.slice pF fs.length cF] 25) none) (Ga _ (.cells #[.int .i64 0,.int .i64 0,.int .i64 0,.nilFunc] 59) none))
 have RN:=Hq (fun W (g:w.grownBy W none)=>Ygf mem dl.length fs pd pF cd cF B W (Nat.le_trans hBw g.size) (Zq hF g (by simp)) (by omega))
 have FF:=Hq hF
 have DD:=Hq hD
 clear hF hD
 go_enter Try.func21,Try.ntmps21
 go_wp2_with fail
 generalize (w.alloc (.cells #[.int .i64 mem,.slice pd dl.length cd,.slice pF fs.length cF] 25)).alloc (.cells #[.int .i64 0,.int .i64 0,.int .i64 0,.nilFunc] 59)=w2 at *
 refine (RN.out w2 G0.out).mono ?_
 rintro e w3 ⟨g3,(⟨err,f,n,rfl,hb⟩|⟨hp,hfo,hops,F,gH,cH,gT,cT,gL,cL,gV,ce,co,gh,hs,V,rfl,RK⟩)⟩
 · unfold Ykf
   have X0:=Hq (Zb T0.out g3 (by simp))
   have X1:=Hq (Zb T1.out g3 (by simp))
   have G3:=Hq (Za G0.out g3)
   have HB:=Hq hb
   have hne:(err != 0)=true:=by simp [hb.1]
   have l1:=(Gs X1.out)
   have Y1:=Hq (show ((w3.alloc (.cells #[.slice none 0 0,.slice none 0 0,.slice none 0 0,.slice none 0 0,.int .i64 0,.int .i64 0] 35)).alloc (.cells #[.int .i64 err,.int .i64 f,.int .i64 n] 39)).heap[w.heap.size+1]? = _ from Zb (Zb X1.out (Ga _ _ none) (by simp)) (Ga _ _ none) (by simp))
   have v0:=Cq _ _ 0 _ _ _ Y1.out
   have v1:=Cq _ _ 1 _ _ _ Y1.out
   have v2:=Cq _ _ 2 _ _ _ Y1.out
   have v3:=Cq _ _ 3 _ _ _ Y1.out
   have z0:=frozen_of_row _ _ 0 _ _ Y1.out
   have z1:=frozen_of_row _ _ 1 _ _ Y1.out
   have z2:=frozen_of_row _ _ 2 _ _ Y1.out
   have z3:=frozen_of_row _ _ 3 _ _ Y1.out
   clear g3 hb
   go_wp2
   show bodyPost Try.prog Try.f21 (Zdk w mem dl fs) Exit.ret _ (Zts _ (w.heap.size+1) _ _ _ _)
   refine Zgt rfl rfl rfl rfl (Zb (Zb X1.out (Ga _ _ none) (by simp)) (Ga _ _ none) (by simp)) ⟨Zpa (Za (Za G3.out (Ga _ _ none)) (Ga _ _ none)) (by omega),Or.inl ⟨err,f,n,rfl,HB.out⟩⟩
 · have FA:=Ydo RK
   have OP:=Hq (show OkP mem dl.length fs hs V from ⟨hp,hfo,hops,RK.r,RK.l⟩)
   have POH:=Hq (Zkc hp (fun fn hm=>hops fn hm))
   obtain rfl:=RK.f
   unfold Zpt
   have GQ:=Za (Ga w3 (.cells #[.slice (some ⟨gH,0,none⟩) fs.length cH,.slice (some ⟨gT,0,none⟩) fs.length cT,.slice (some ⟨gL,0,none⟩) fs.length cL,.slice (some ⟨gV,0,none⟩) fs.length fs.length,.int .i64 ce,.int .i64 co] 35) none) (Ga _ (.cells #[.int .i64 0,.int .i64 0,.int .i64 0] 39) none)
   have lw2:=(Gs T1.out)
   have hg3:=g3.size
   have X1:=Hq (Zb (Zb T1.out g3 (by simp)) GQ (by simp))
   have FI:=Hq (show Fi w _ #[.int .i64 mem,.slice pd dl.length cd,.slice pF fs.length cF] #[.slice (some ⟨gH,0,none⟩) fs.length cH,.slice (some ⟨gT,0,none⟩) fs.length cT,.slice (some ⟨gL,0,none⟩) fs.length cL,.slice (some ⟨gV,0,none⟩) fs.length fs.length,.int .i64 ce,.int .i64 co] w3.heap.size fs gH cH gV gh hs V from ⟨Zb (Zb T0.out g3 (by simp)) GQ (by simp),⟨_,X1.out⟩,Xc w3 (.cells #[.slice (some ⟨gH,0,none⟩) fs.length cH,.slice (some ⟨gT,0,none⟩) fs.length cT,.slice (some ⟨gL,0,none⟩) fs.length cL,.slice (some ⟨gV,0,none⟩) fs.length fs.length,.int .i64 ce,.int .i64 co] 35) (.cells #[.int .i64 0,.int .i64 0,.int .i64 0] 39),Zcj FA GQ,Za (Za G0.out g3) GQ,by omega,by have:=RK.lo.1;omega,by have:=RK.lo.2;omega,fun f hf=>by have:=(RK.h f _ (List.getElem?_eq_getElem hf)).1;omega⟩)
   have x0:=Hq (Zb T0.out g3 (by simp))
   have c0:=Cq _ _ 0 _ _ _ x0.out
   have c1:=Cq _ _ 1 _ _ _ x0.out
   have c2:=Cq _ _ 2 _ _ _ x0.out
   have l0:=(Gs x0.out)
   clear g3 FA GQ hp hfo hops RK lw2 hg3
   go_wp2_with fail
   clear c0 c1 c2 l0 x0
   generalize ((w3.alloc (.cells #[.slice (some ⟨gH,0,none⟩) fs.length cH,.slice (some ⟨gT,0,none⟩) fs.length cT,.slice (some ⟨gL,0,none⟩) fs.length cL,.slice (some ⟨gV,0,none⟩) fs.length fs.length,.int .i64 ce,.int .i64 co] 35)).alloc (.cells #[.int .i64 0,.int .i64 0,.int .i64 0] 39))=w4 at *
   generalize w3.heap.size=bF at *
   refine (Yqa _ mem pd pF dl.length fs.length cd cF fs _ gH cH gV gh hs V w4 rfl FI.out.fa hn (fun f hf=>(POH.out.len f hf).2)).mono ?_
   rintro e w5 ⟨rfl,g5⟩
   have FI5:=Hq (Zcl FI.out g5)
   have X5:=Hq (Zb X1.out g5 (by simp))
   clear g5
   have l5:=(Gs X5.out)
   have m5:w.heap.size<w5.heap.size:=by omega
   have c0:=Cq _ _ 0 _ _ _ FI5.out.x0
   have c1:=Cq _ _ 1 _ _ _ FI5.out.x0
   have c2:=Cq _ _ 2 _ _ _ FI5.out.x0
   cases hdd:Zbk hs V fs.length 0 with
   | some p =>
     obtain ⟨f,n⟩:=p
     have HDD:=Hq hdd
     clear hdd
     simp only [Zhq]
     go_upto_region 6 with fail
     have Y1:=Hq (Zb X5.out (Ga w5 (.cells #[.int .i64 f,.int .i64 n] 37) none) (by simp))
     have FY:=Hq (Zcl FI5.out (Ga w5 (.cells #[.int .i64 f,.int .i64 n] 37) none))
     have XS:=heap_alloc_new w5 (.cells #[.int .i64 f,.int .i64 n] 37)
     have s0:=Cq _ _ 0 _ _ _ XS
     have s1:=Cq _ _ 1 _ _ _ XS
     have sl:=(Gs XS)
     generalize w5.heap.size=b7 at *
     generalize w5.alloc (.cells #[.int .i64 f,.int .i64 n] 37)=w7 at *
     clear c0 c1 c2 XS l5 m5
     have v0:=Cq _ _ 0 _ _ _ Y1.out
     have v1:=Cq _ _ 1 _ _ _ Y1.out
     have v2:=Cq _ _ 2 _ _ _ Y1.out
     have v3:=Cq _ _ 3 _ _ _ Y1.out
     have z0:=frozen_of_row _ _ 0 _ _ Y1.out
     have z1:=frozen_of_row _ _ 1 _ _ Y1.out
     have z2:=frozen_of_row _ _ 2 _ _ Y1.out
     have z3:=frozen_of_row _ _ 3 _ _ Y1.out
     have l7:=(Gs Y1.out)
     go_wp2
     show bodyPost Try.prog Try.f21 (Zdk w mem dl fs) Exit.ret _ (Zts _ (w.heap.size+1) _ _ _ _)
     have FX:=Yax (x0 := .int .i64 f) (x1 := .int .i64 n) (x2 := .int .i64 1) (x3 := .func (.func 31) #[] #[.pointer (some ⟨w.heap.size,0,none⟩),.pointer (some ⟨bF,0,none⟩)]) FY.out Y1.out
     refine Zgt rfl rfl rfl rfl Y1.out ⟨FX.gr,Or.inr ⟨hs,V,OP.out,?_⟩⟩
     unfold Jk
     rw [HDD.out]
     refine ⟨_,_,Or.inl rfl,rfl,fun W g => ?_⟩
     have FW:=Zcl FX g
     exact Ydm mem dl fs pd pF cd cF B _ gH cH gV gh hs V W _ _ (Nat.le_trans hBw FW.gr.size) (Zq FF.out FW.gr (by simp)) (Ys DD.out FW.gr) hd hn (fun f hf=>Yqn POH.out hf) FW.fa FW.xf FW.x0
   | none =>
     have HDD:=Hq hdd
     simp only [Zhq]
     have HCK:=Hq (show ∀ f∈fs,Zhm f.2.2.2 from fun f hf=>Zvt POH.out hf (by
      obtain ⟨i,hi,e⟩:=List.getElem_of_mem hf
      have hfi:fs[i]? = some f:=by rw [List.getElem?_eq_getElem hi,e]
      obtain ⟨s,hrun,hinv,hsi⟩:=OP.out.2.2.2.1 i f hfi
      refine Ztl POH.out hf hrun fun n hn2 => ?_
      have:=(Zjh HDD.out i (Nat.zero_le _) (by omega)).2 n (by rw [<- hsi,hinv.hl];exact hn2)
      rw [hsi];exact this))
     clear hdd
     go_wp2_with fail
     have GA:=Ga w5 (.cells #[.int .i64 0,.int .i64 0] 37) none
     have FI5b:=Hq (Zcl FI5.out GA)
     have X5b:=Hq (Zb X5.out GA (by simp))
     generalize w5.alloc (.cells #[.int .i64 0,.int .i64 0] 37)=w5b at *
     clear GA c0 c1 c2 l5 m5
     refine (Zoe mem fs pd pF dl.length cd cF B w5b (Nat.le_trans hBw FI5b.out.gr.size) (Zq FF.out FI5b.out.gr (by simp)) hn HCK.out).mono ?_
     rintro e w6 ⟨rfl,g6⟩
     have FI6:=Hq (Zcl FI5b.out g6)
     have X6:=Hq (Zb X5b.out g6 (by simp))
     clear g6
     have l6:=(Gs X6.out)
     have m6:w.heap.size<w6.heap.size:=by omega
     have c0:=Cq _ _ 0 _ _ _ FI6.out.x0
     have c1:=Cq _ _ 1 _ _ _ FI6.out.x0
     have c2:=Cq _ _ 2 _ _ _ FI6.out.x0
     cases huu:Zed fs 0 with
     | some p =>
       obtain ⟨f,n⟩:=p
       have HUU:=Hq huu
       clear huu
       simp only [Zhq]
       go_upto_region 9 with fail
       have Y1:=Hq (Zb X6.out (Ga w6 (.cells #[.int .i64 f,.int .i64 n] 37) none) (by simp))
       have FY:=Hq (Zcl FI6.out (Ga w6 (.cells #[.int .i64 f,.int .i64 n] 37) none))
       have XS:=heap_alloc_new w6 (.cells #[.int .i64 f,.int .i64 n] 37)
       have s0:=Cq _ _ 0 _ _ _ XS
       have s1:=Cq _ _ 1 _ _ _ XS
       have sl:=(Gs XS)
       generalize w6.heap.size=b7 at *
       generalize w6.alloc (.cells #[.int .i64 f,.int .i64 n] 37)=w7 at *
       clear c0 c1 c2 XS l6 m6
       have v0:=Cq _ _ 0 _ _ _ Y1.out
       have v1:=Cq _ _ 1 _ _ _ Y1.out
       have v2:=Cq _ _ 2 _ _ _ Y1.out
       have v3:=Cq _ _ 3 _ _ _ Y1.out
       have z0:=frozen_of_row _ _ 0 _ _ Y1.out
       have z1:=frozen_of_row _ _ 1 _ _ Y1.out
       have z2:=frozen_of_row _ _ 2 _ _ Y1.out
       have z3:=frozen_of_row _ _ 3 _ _ Y1.out
       have l7:=(Gs Y1.out)
       go_wp2
       show bodyPost Try.prog Try.f21 (Zdk w mem dl fs) Exit.ret _ (Zts _ (w.heap.size+1) _ _ _ _)
       have FX:=Yax (x0 := .int .i64 f) (x1 := .int .i64 n) (x2 := .int .i64 3) (x3 := .func (.func 34) #[] #[.pointer (some ⟨w.heap.size,0,none⟩)]) FY.out Y1.out
       refine Zgt rfl rfl rfl rfl Y1.out ⟨FX.gr,Or.inr ⟨hs,V,OP.out,?_⟩⟩
       unfold Jk
       rw [HDD.out]
       simp only []
       rw [HUU.out]
       refine ⟨_,_,Or.inr (Or.inl rfl),rfl,fun W g => ?_⟩
       have FW:=Zcl FX g
       exact Ydl mem dl fs pd pF cd cF B W _ (Nat.le_trans hBw FW.gr.size) (Zq FF.out FW.gr (by simp)) (Ys DD.out FW.gr) hd hn HCK.out FW.x0
     | none =>
       have HUU:=Hq huu
       clear huu
       simp only [Zhq]
       go_wp2_with fail
       have GA:=Ga w6 (.cells #[.int .i64 0,.int .i64 0] 37) none
       have FI6b:=Hq (Zcl FI6.out GA)
       have X6b:=Hq (Zb X6.out GA (by simp))
       generalize w6.alloc (.cells #[.int .i64 0,.int .i64 0] 37)=w6b at *
       clear GA c0 c1 c2 l6 m6
       refine (Ytu mem fs pd pF dl.length cd cF B w6b (Nat.le_trans hBw FI6b.out.gr.size) (Zq FF.out FI6b.out.gr (by simp)) hn (fun f hf=>Ymz POH.out hf (hr f hf))).mono ?_
       rintro e w8 ⟨g8,hm⟩
       have FI8:=Hq (Zcl FI6b.out g8)
       have X8:=Hq (Zb X6b.out g8 (by simp))
       clear g8
       have l8:=(Gs X8.out)
       have m8:w.heap.size<w8.heap.size:=by omega
       cases hrr:Zqs fs 0 with
       | none =>
         rw [hrr] at hm
         simp only [] at hm
         subst hm
         have HRR:=Hq hrr
         clear hrr
         go_upto_region 11 with fail
         have Y1:=Hq (Zb X8.out (Ga w8 (.cells #[.int .i64 0,.int .i64 0,.int .i64 0,.nilFunc] 59) none) (by simp))
         have FY:=Hq (Zcl FI8.out (Ga w8 (.cells #[.int .i64 0,.int .i64 0,.int .i64 0,.nilFunc] 59) none))
         have XS:=heap_alloc_new w8 (.cells #[.int .i64 0,.int .i64 0,.int .i64 0,.nilFunc] 59)
         have s0:=Cq _ _ 0 _ _ _ XS
         have s1:=Cq _ _ 1 _ _ _ XS
         have s2:=Cq _ _ 2 _ _ _ XS
         have s3:=Cq _ _ 3 _ _ _ XS
         have sl:=(Gs XS)
         have GY:=Hq (Ga w8 (.cells #[.int .i64 0,.int .i64 0,.int .i64 0,.nilFunc] 59) none)
         generalize w8.heap.size=b7 at *
         generalize w8.alloc (.cells #[.int .i64 0,.int .i64 0,.int .i64 0,.nilFunc] 59)=w7 at *
         clear XS l8 m8
         have v0:=Cq _ _ 0 _ _ _ Y1.out
         have v1:=Cq _ _ 1 _ _ _ Y1.out
         have v2:=Cq _ _ 2 _ _ _ Y1.out
         have v3:=Cq _ _ 3 _ _ _ Y1.out
         have z0:=frozen_of_row _ _ 0 _ _ Y1.out
         have z1:=frozen_of_row _ _ 1 _ _ Y1.out
         have z2:=frozen_of_row _ _ 2 _ _ Y1.out
         have z3:=frozen_of_row _ _ 3 _ _ Y1.out
         have l7:=(Gs Y1.out)
         go_wp2
         show bodyPost Try.prog Try.f21 (Zdk w mem dl fs) Exit.ret _ (Zts _ (w.heap.size+1) _ _ _ _)
         have FX:=Yax (x0 := .int .i64 0) (x1 := .int .i64 0) (x2 := .int .i64 0) (x3 := .nilFunc) FY.out Y1.out
         refine Zgt rfl rfl rfl rfl Y1.out ⟨FX.gr,Or.inr ⟨hs,V,OP.out,?_⟩⟩
         unfold Jk
         rw [HDD.out]
         simp only []
         rw [HUU.out]
         simp only []
         rw [HRR.out]
         rfl
       | some q =>
         obtain ⟨f,n,x⟩:=q
         rw [hrr] at hm
         simp only [] at hm
         obtain ⟨b1,b6,b11,b13,q,k,rfl,r1,r6,r11,r13,hqk,hcb⟩:=hm
         have HRR:=Hq hrr
         have R1:=Hq r1
         have R6:=Hq r6
         have R11:=Hq r11
         have R13:=Hq r13
         have CB:=Hq hcb
         have HQK:=Hq hqk
         clear hrr r1 r6 r11 r13 hcb hqk
         go_upto_region 11 with fail
         have Y1:=Hq (Zb X8.out (Ga w8 (.cells #[.int .i64 f,.int .i64 n,.int .i64 x.what,.func (.func 55) #[] #[.pointer (some ⟨b1,0,none⟩),.pointer (some ⟨b6,0,none⟩),.pointer (some ⟨b11,0,none⟩),.pointer (some ⟨b13,0,none⟩)]] 59) none) (by simp))
         have FY:=Hq (Zcl FI8.out (Ga w8 (.cells #[.int .i64 f,.int .i64 n,.int .i64 x.what,.func (.func 55) #[] #[.pointer (some ⟨b1,0,none⟩),.pointer (some ⟨b6,0,none⟩),.pointer (some ⟨b11,0,none⟩),.pointer (some ⟨b13,0,none⟩)]] 59) none))
         have XS:=heap_alloc_new w8 (.cells #[.int .i64 f,.int .i64 n,.int .i64 x.what,.func (.func 55) #[] #[.pointer (some ⟨b1,0,none⟩),.pointer (some ⟨b6,0,none⟩),.pointer (some ⟨b11,0,none⟩),.pointer (some ⟨b13,0,none⟩)]] 59)
         have s0:=Cq _ _ 0 _ _ _ XS
         have s1:=Cq _ _ 1 _ _ _ XS
         have s2:=Cq _ _ 2 _ _ _ XS
         have s3:=Cq _ _ 3 _ _ _ XS
         have sl:=(Gs XS)
         have GY:=Hq (Ga w8 (.cells #[.int .i64 f,.int .i64 n,.int .i64 x.what,.func (.func 55) #[] #[.pointer (some ⟨b1,0,none⟩),.pointer (some ⟨b6,0,none⟩),.pointer (some ⟨b11,0,none⟩),.pointer (some ⟨b13,0,none⟩)]] 59) none)
         generalize w8.heap.size=b7 at *
         generalize w8.alloc (.cells #[.int .i64 f,.int .i64 n,.int .i64 x.what,.func (.func 55) #[] #[.pointer (some ⟨b1,0,none⟩),.pointer (some ⟨b6,0,none⟩),.pointer (some ⟨b11,0,none⟩),.pointer (some ⟨b13,0,none⟩)]] 59)=w7 at *
         clear XS l8 m8
         have v0:=Cq _ _ 0 _ _ _ Y1.out
         have v1:=Cq _ _ 1 _ _ _ Y1.out
         have v2:=Cq _ _ 2 _ _ _ Y1.out
         have v3:=Cq _ _ 3 _ _ _ Y1.out
         have z0:=frozen_of_row _ _ 0 _ _ Y1.out
         have z1:=frozen_of_row _ _ 1 _ _ Y1.out
         have z2:=frozen_of_row _ _ 2 _ _ Y1.out
         have z3:=frozen_of_row _ _ 3 _ _ Y1.out
         have l7:=(Gs Y1.out)
         go_wp2
         show bodyPost Try.prog Try.f21 (Zdk w mem dl fs) Exit.ret _ (Zts _ (w.heap.size+1) _ _ _ _)
         have FX:=Yax (x0 := .int .i64 f) (x1 := .int .i64 n) (x2 := .int .i64 x.what) (x3 := .func (.func 55) #[] #[.pointer (some ⟨b1,0,none⟩),.pointer (some ⟨b6,0,none⟩),.pointer (some ⟨b11,0,none⟩),.pointer (some ⟨b13,0,none⟩)]) FY.out Y1.out
         refine Zgt rfl rfl rfl rfl Y1.out ⟨FX.gr,Or.inr ⟨hs,V,OP.out,?_⟩⟩
         unfold Jk
         rw [HDD.out]
         simp only []
         rw [HUU.out]
         simp only []
         rw [HRR.out]
         refine ⟨_,_,Or.inr (Or.inr rfl),rfl,fun W g => ?_⟩
         have FW:=Zcl FX g
         obtain ⟨⟨ar,lo,r,c⟩,_,hfn,hnl,hmt⟩:=Zio HRR.out
         simp only [Nat.sub_zero] at hfn hnl hmt
         have hne:∀ {z:Nat} {cs:Array Value} {t:TypeId},w8.heap[z]? = some (.cells cs t (0,0))->t≠59->z≠w.heap.size+1:=fun h ht e=>by
          subst e
          rw [X8.out] at h
          injection h with h;injection h with _ h _
          exact ht h.symm
         have hmv:∀ {z:Nat} {cs:Array Value} {t:TypeId},w8.heap[z]? = some (.cells cs t (0,0))->t≠59->W.heap[z]? = some (.cells cs t (0,0)):=fun h ht=>by
          refine Zb ?_ g (by simp)
          rw [Zeg (hne h ht)]
          exact Zb h GY.out (by simp)
         have hcode:Xz W W.heap.size q x.put:=by
          have h7:=Zvr (w':=Zts w7 (w.heap.size+1) (.int .i64 f) (.int .i64 n) (.int .i64 x.what) (.func (.func 55) #[] #[.pointer (some ⟨b1,0,none⟩),.pointer (some ⟨b6,0,none⟩),.pointer (some ⟨b11,0,none⟩),.pointer (some ⟨b13,0,none⟩)])) (Xo CB.out GY.out (by simp)) (Zuu hmt) rfl Y1.out Y1.out (fun j _ h1 _=>Zeg h1)
          have hsz:b7<=W.heap.size:=Nat.le_trans (Nat.le_of_lt sl) (Nat.le_trans (Nat.le_of_eq (by unfold Zts;simp)) g.size)
          exact Zkh (Xo h7 g (by simp)) hsz
         have hrq:Ylw fs f n x=fs.set f (Zv (ar,lo,r,c) (Xb c n x.long x.put)):=by unfold Ylw;rw [hfn]
         rw [hrq]
         exact Yna mem dl fs pd pF q cd cF k B f n x.long x.what x.put ar lo r c W b1 b6 b11 b13 (Nat.le_trans hBw FW.gr.size) (Zq FF.out FW.gr (by simp)) (Ys DD.out FW.gr) hd hn (fun f hf=>(POH.out.len f hf).2) hfn (Zzq POH.out (List.mem_of_getElem? hfn) hnl hmt) hcode HQK.out (hmv R1.out (by decide)) (hmv R6.out (by decide)) (hmv R11.out (by decide)) (hmv R13.out (by decide))
def Zjq (w:World) (mem:Int) (dl:List Int) (fs:List FnP) (e:Ending) (w':World):Prop:=w.grownBy w' none /\
 ((∃ err f n,e = .returned (.tuple #[.agg #[.int .i64 0,.int .i64 0],.int .i64 0,.bool false])/\Zfx mem dl.length fs err f n) \/
  (∃ hs V,OkP mem dl.length fs hs V/\match Jk fs hs V with
    | none=>e = .returned (.tuple #[.agg #[.int .i64 0,.int .i64 0],.int .i64 0,.bool false])
    | some ((f,n),what,_)=>e = .returned (.tuple #[.agg #[.int .i64 f,.int .i64 n],.int .i64 what,.bool true])))
theorem Ykb {w w':World} {mem:Int} {dl:List Int} {fs:List FnP} {e:Ending} (h:Zdk w mem dl fs e w'):∃ (x0 x1 x2:Int) (x3:Value) (b:Bool) (er:Int),(x3 = .nilFunc\/∃ (N:Nat) (caps:Array Value),x3 = .func (.func N) #[] caps)/\e = .returned (.tuple #[.agg #[.int .i64 x0,.int .i64 x1,.int .i64 x2,x3],.bool b,.int .i64 er]) /\
 ∀ w9,w.grownBy w9 none->Zjq w mem dl fs (.returned (.tuple #[.agg #[.int .i64 x0,.int .i64 x1],.int .i64 x2,.bool b])) w9:=by
 obtain ⟨g,h⟩:=h
 rcases h with ⟨err,f,n,rfl,hb⟩|⟨hs,V,ho,hm⟩
 · exact ⟨0,0,0,.nilFunc,false,152,Or.inl rfl,rfl,fun w9 g9=>⟨g9,Or.inl ⟨err,f,n,rfl,hb⟩⟩⟩
 · cases hq:Jk fs hs V with
   | none =>
     rw [hq] at hm
     exact ⟨0,0,0,.nilFunc,false,0,Or.inl rfl,hm,fun w9 g9=>⟨g9,Or.inr ⟨hs,V,ho,by rw [hq]⟩⟩⟩
   | some p =>
     obtain ⟨⟨f,n⟩,what,fs'⟩:=p
     rw [hq] at hm
     obtain ⟨N,caps,_,rfl,_⟩:=hm
     exact ⟨f,n,what,_,true,0,Or.inr ⟨_,_,rfl⟩,rfl,fun w9 g9=>⟨g9,Or.inr ⟨hs,V,ho,by rw [hq]⟩⟩⟩
theorem Zrz (mem:Int) (dl:List Int) (fs:List FnP) (pd pF:Option Addr) (cd cF B:Nat) (w:World) (hBw:B<=w.heap.size) (hF:Yl w B pF fs) (hD:Rd w pd (dl.map (Value.int .u8))) (hd:dl.length<=4194304) (hn:fs.length<=64) (hr:∀ f∈fs,Jl f.2.2.2) :
 Calls Try.prog 11 #[.agg #[.int .i64 mem,.slice pd dl.length cd,.slice pF fs.length cF]] w (Zjq w mem dl fs):=by
 have T1:=Hq (Yr w (.cells #[.int .i64 mem,.slice pd dl.length cd,.slice pF fs.length cF] 25) (.cells #[.int .i64 0,.int .i64 0] 37))
 have G0:=Hq (Za (Ga w (.cells #[.int .i64 mem,.slice pd dl.length cd,.slice pF fs.length cF] 25) none) (Ga _ (.cells #[.int .i64 0,.int .i64 0] 37) none))
 have FA:=Hq (fun W (g:w.grownBy W none)=>Znk mem dl fs pd pF cd cF B W (Nat.le_trans hBw g.size) (Zq hF g (by simp)) (Ys hD g) hd hn hr)
 clear hF hD
 go_enter Try.func11,Try.ntmps11
 go_wp2_with fail
 generalize (w.alloc (.cells #[.int .i64 mem,.slice pd dl.length cd,.slice pF fs.length cF] 25)).alloc (.cells #[.int .i64 0,.int .i64 0] 37)=w2 at *
 refine (FA.out w2 G0.out).mono ?_
 intro e w3 hp
 have g3:=hp.1
 obtain ⟨x0,x1,x2,x3,b,er,hx3,rfl,hL⟩:=Ykb hp
 have X3:=Hq (Zb T1.out g3 (by simp))
 have G3:=Hq (Za G0.out g3)
 have HL:=Hq (show ∀ w9,w.grownBy w9 none->Zjq w mem dl fs (.returned (.tuple #[.agg #[.int .i64 x0,.int .i64 x1],.int .i64 x2,.bool b])) w9 from fun w9 g9=>⟨g9,(hL _ (Zc _ _)).2⟩)
 clear g3 hp hL
 rcases hx3 with rfl|⟨N,caps,rfl⟩
 · go_upto_region 2 with fail
   have GA:=Ga w3 (.cells #[.int .i64 x0,.int .i64 x1,.int .i64 x2,.nilFunc] 59) none
   have XS:=heap_alloc_new w3 (.cells #[.int .i64 x0,.int .i64 x1,.int .i64 x2,.nilFunc] 59)
   have Y1:=Hq (Zb X3.out GA (by simp))
   have G4:=Hq (Za G3.out GA)
   have l3:=(Gs X3.out)
   generalize w3.alloc (.cells #[.int .i64 x0,.int .i64 x1,.int .i64 x2,.nilFunc] 59)=w4 at *
   generalize w3.heap.size=b5 at *
   have s0:=Cq _ _ 0 _ _ _ XS
   have s1:=Cq _ _ 1 _ _ _ XS
   have s2:=Cq _ _ 2 _ _ _ XS
   have sl:=(Gs XS)
   have v0:=Cq _ _ 0 _ _ _ Y1.out
   have v1:=Cq _ _ 1 _ _ _ Y1.out
   have z0:=frozen_of_row _ _ 0 _ _ Y1.out
   have z1:=frozen_of_row _ _ 1 _ _ Y1.out
   have l4:=(Gs Y1.out)
   have n1:¬ b5=w.heap.size+1:=by omega
   have n2:¬ w.heap.size+1=b5:=by omega
   clear GA XS
   go_region
   all_goals
    go_wp2
    have hg:=Zd (Zd G4.out (o:=0) (v := .int .i64 x0) (show w.heap.size<=w.heap.size+1 by omega)) (o:=1) (v := .int .i64 x1) (show w.heap.size<=w.heap.size+1 by omega)
    have XE:=Zg (o:=1) (v := .int .i64 x1) (Zg (o:=0) (v := .int .i64 x0) Y1.out)
    have k0:=Cq _ _ 0 _ _ _ XE
    have k1:=Cq _ _ 1 _ _ _ XE
    have q0:=(Gs XE)
    refine bodyPost_ret (v := .tuple #[.agg #[.int .i64 x0,.int .i64 x1],.int .i64 x2,.bool b]) ?_ rfl (HL.out _ ?_)
    · rw [Zbu rfl]
      go_simp
    · exact Ze hg
 · go_upto_region 2 with fail
   have GA:=Ga w3 (.cells #[.int .i64 x0,.int .i64 x1,.int .i64 x2,.func (.func N) #[] caps] 59) none
   have XS:=heap_alloc_new w3 (.cells #[.int .i64 x0,.int .i64 x1,.int .i64 x2,.func (.func N) #[] caps] 59)
   have Y1:=Hq (Zb X3.out GA (by simp))
   have G4:=Hq (Za G3.out GA)
   have l3:=(Gs X3.out)
   generalize w3.alloc (.cells #[.int .i64 x0,.int .i64 x1,.int .i64 x2,.func (.func N) #[] caps] 59)=w4 at *
   generalize w3.heap.size=b5 at *
   have s0:=Cq _ _ 0 _ _ _ XS
   have s1:=Cq _ _ 1 _ _ _ XS
   have s2:=Cq _ _ 2 _ _ _ XS
   have sl:=(Gs XS)
   have v0:=Cq _ _ 0 _ _ _ Y1.out
   have v1:=Cq _ _ 1 _ _ _ Y1.out
   have z0:=frozen_of_row _ _ 0 _ _ Y1.out
   have z1:=frozen_of_row _ _ 1 _ _ Y1.out
   have l4:=(Gs Y1.out)
   have n1:¬ b5=w.heap.size+1:=by omega
   have n2:¬ w.heap.size+1=b5:=by omega
   clear GA XS
   go_region
   all_goals
    go_wp2
    have hg:=Zd (Zd G4.out (o:=0) (v := .int .i64 x0) (show w.heap.size<=w.heap.size+1 by omega)) (o:=1) (v := .int .i64 x1) (show w.heap.size<=w.heap.size+1 by omega)
    have XE:=Zg (o:=1) (v := .int .i64 x1) (Zg (o:=0) (v := .int .i64 x0) Y1.out)
    have k0:=Cq _ _ 0 _ _ _ XE
    have k1:=Cq _ _ 1 _ _ _ XE
    have q0:=(Gs XE)
    refine bodyPost_ret (v := .tuple #[.agg #[.int .i64 x0,.int .i64 x1],.int .i64 x2,.bool b]) ?_ rfl (HL.out _ ?_)
    · rw [Zbu rfl]
      go_simp
    · exact Ze hg
def Zud:Value := .agg #[.int .i64 0,.slice none 0 0,.slice none 0 0]
def Zcu (w:World) (mem:Int) (dl:List Int) (fs:List FnP) (e:Ending) (w':World):Prop:=∃ D F cv,e = .returned (.tuple #[.agg #[.int .i64 mem,D,F],.int .i64 0])/\w.grownBy w' none/\Zas w' w.heap.size D F dl fs cv
def Zsx (w:World) (mem:Int) (dl:List Int) (fs:List FnP) (e:Ending) (w':World):Prop :=
 (w.grownBy w' none/\∃ err f n,e = .returned (.tuple #[Zud,.int .i64 152])/\Zfx mem dl.length fs err f n) \/
 (∃ hs V,OkP mem dl.length fs hs V/\Zcu w mem dl (match Jk fs hs V with|none=>fs|some (_,_,fs')=>fs') e w')
theorem Ynx (mem:Int) (dl:List Int) (fs:List FnP) (pd pF:Option Addr) (cd cF B:Nat) (w:World) (hBw:B<=w.heap.size) (hF:Yl w B pF fs) (hD:Rd w pd (dl.map (Value.int .u8))) (hd:dl.length<=4194304) (hn:fs.length<=64) (hr:∀ f∈fs,Jl f.2.2.2) :
 Calls Try.prog 18 #[.agg #[.int .i64 mem,.slice pd dl.length cd,.slice pF fs.length cF]] w (Zsx w mem dl fs):=by
 have T0:=Hq (Xc w (.cells #[.int .i64 mem,.slice pd dl.length cd,.slice pF fs.length cF] 25) (.cells #[.int .i64 0,.slice none 0 0,.slice none 0 0] 25))
 have T1:=Hq (Yr w (.cells #[.int .i64 mem,.slice pd dl.length cd,.slice pF fs.length cF] 25) (.cells #[.int .i64 0,.slice none 0 0,.slice none 0 0] 25))
 have G0:=Hq (Za (Ga w (.cells #[.int .i64 mem,.slice pd dl.length cd,.slice pF fs.length cF] 25) none) (Ga _ (.cells #[.int .i64 0,.slice none 0 0,.slice none 0 0] 25) none))
 have FA:=Hq (fun W (g:w.grownBy W none)=>Znk mem dl fs pd pF cd cF B W (Nat.le_trans hBw g.size) (Zq hF g (by simp)) (Ys hD g) hd hn hr)
 have FF:=Hq hF
 have DD:=Hq hD
 clear hF hD
 go_enter Try.func18,Try.ntmps18
 go_wp2_with fail
 generalize (w.alloc (.cells #[.int .i64 mem,.slice pd dl.length cd,.slice pF fs.length cF] 25)).alloc (.cells #[.int .i64 0,.slice none 0 0,.slice none 0 0] 25)=w2 at *
 refine (FA.out w2 G0.out).mono ?_
 rintro e w3 ⟨g3,(⟨err,f,n,rfl,hb⟩|⟨hs,V,ho,hm⟩)⟩
 · have HB:=Hq hb
   clear hb
   unfold Ybv
   have X0:=Hq (Zb T0.out g3 (by simp))
   have X1:=Hq (Zb T1.out g3 (by simp))
   have G3:=Hq (Za G0.out g3)
   clear g3
   go_upto_region 2 with fail
   have GA:=Ga w3 (.cells #[.int .i64 0,.int .i64 0,.int .i64 0,.nilFunc] 59) none
   have XS:=Hq (heap_alloc_new w3 (.cells #[.int .i64 0,.int .i64 0,.int .i64 0,.nilFunc] 59))
   have Y0:=Hq (Zb X0.out GA (by simp))
   have Y1:=Hq (Zb X1.out GA (by simp))
   have G4:=Hq (Za G3.out GA)
   have l3:=Hq (Gs X1.out)
   generalize w3.alloc (.cells #[.int .i64 0,.int .i64 0,.int .i64 0,.nilFunc] 59)=w4 at *
   generalize w3.heap.size=b5 at *
   clear GA
   have v0:=Cq _ _ 0 _ _ _ Y1.out
   have v1:=Cq _ _ 1 _ _ _ Y1.out
   have v2:=Cq _ _ 2 _ _ _ Y1.out
   have z0:=frozen_of_row _ _ 0 _ _ Y1.out
   have z1:=frozen_of_row _ _ 1 _ _ Y1.out
   have z2:=frozen_of_row _ _ 2 _ _ Y1.out
   have l4:=(Gs Y1.out)
   go_wp2
   refine bodyPost_ret (v := .tuple #[Zud,.int .i64 152]) ?_ rfl (Or.inl ⟨Zd (Zd (Zd G4.out (by omega)) (by omega)) (by omega),err,f,n,rfl,HB.out⟩)
   rw [results_cell_tmp rfl]
   unfold Zud
   go_simp
 · have OP:=Hq ho
   clear ho
   cases hq:Jk fs hs V with
   | none =>
     rw [hq] at hm
     simp only [] at hm
     subst hm
     have HQ:=Hq hq
     clear hq
     unfold Ybv
     have X0:=Hq (Zb T0.out g3 (by simp))
     have X1:=Hq (Zb T1.out g3 (by simp))
     have G3:=Hq (Za G0.out g3)
     clear g3
     go_upto_region 2 with fail
     have GA:=Ga w3 (.cells #[.int .i64 0,.int .i64 0,.int .i64 0,.nilFunc] 59) none
     have XS:=Hq (heap_alloc_new w3 (.cells #[.int .i64 0,.int .i64 0,.int .i64 0,.nilFunc] 59))
     have Y0:=Hq (Zb X0.out GA (by simp))
     have Y1:=Hq (Zb X1.out GA (by simp))
     have G4:=Hq (Za G3.out GA)
     have l3:=Hq (Gs X1.out)
     generalize w3.alloc (.cells #[.int .i64 0,.int .i64 0,.int .i64 0,.nilFunc] 59)=w4 at *
     generalize w3.heap.size=b5 at *
     clear GA
     have c0:=Cq _ _ 0 _ _ _ Y0.out
     have c1:=Cq _ _ 1 _ _ _ Y0.out
     have c2:=Cq _ _ 2 _ _ _ Y0.out
     have l4:=(Gs Y0.out)
     go_wp2_with fail
     refine (Zib mem dl fs pd pF cd cF B w4 (Nat.le_trans hBw G4.out.size) (Zq FF.out G4.out (by simp)) (Ys DD.out G4.out) hd (by omega) (fun f hf=>by have:=((Zkc OP.out.1 (fun fn hm=>OP.out.2.2.1 fn hm)).len f hf).2;omega)).mono ?_
     rintro e w5 ⟨D,F,cv,rfl,g5,o5⟩
     obtain ⟨pD,pF5,cD5,cF5,rfl,rfl⟩:=Xa o5
     have X5:=Zb Y1.out g5 (by simp)
     have v0:=Cq _ _ 0 _ _ _ X5
     have v1:=Cq _ _ 1 _ _ _ X5
     have v2:=Cq _ _ 2 _ _ _ X5
     have z0:=frozen_of_row _ _ 0 _ _ X5
     have z1:=frozen_of_row _ _ 1 _ _ X5
     have z2:=frozen_of_row _ _ 2 _ _ X5
     have l5:=(Gs X5)
     have HX:=Hq X5
     have G5:=Hq (Za G4.out g5)
     have O5:=Hq (Jm o5 (show w.heap.size<=w4.heap.size from G4.out.size))
     clear X5 g5 o5
     go_wp2
     refine bodyPost_ret (v := .tuple #[.agg #[.int .i64 mem,.slice pD dl.length cD5,.slice pF5 (fs).length cF5],.int .i64 0]) ?_ rfl (Or.inr ⟨hs,V,OP.out,_,_,cv,rfl,Zd (Zd (Zd G5.out (by omega)) (by omega)) (by omega),by rw [HQ.out];exact Jh (mem:=mem) O5.out HX.out⟩)
     · rw [results_cell_tmp rfl]
       go_simp
   | some p =>
     obtain ⟨⟨f,n⟩,what,fs'⟩:=p
     rw [hq] at hm
     simp only [] at hm
     obtain ⟨N,caps,hN,rfl,hC⟩:=hm
     have EN:=Zma hN
     have HQ:=Hq hq
     have HC:=Hq hC
     clear hq hC
     have X0:=Hq (Zb T0.out g3 (by simp))
     have X1:=Hq (Zb T1.out g3 (by simp))
     have G3:=Hq (Za G0.out g3)
     clear g3
     go_upto_region 2 with fail
     have GA:=Ga w3 (.cells #[.int .i64 f,.int .i64 n,.int .i64 what,.func (.func N) #[] caps] 59) none
     have XS:=Hq (heap_alloc_new w3 (.cells #[.int .i64 f,.int .i64 n,.int .i64 what,.func (.func N) #[] caps] 59))
     have Y0:=Hq (Zb X0.out GA (by simp))
     have Y1:=Hq (Zb X1.out GA (by simp))
     have GAH:=Hq GA
     have G4:=Hq (Za G3.out GA)
     have l3:=Hq (Gs X1.out)
     generalize w3.alloc (.cells #[.int .i64 f,.int .i64 n,.int .i64 what,.func (.func N) #[] caps] 59)=w4 at *
     generalize w3.heap.size=b5 at *
     clear GA
     have c0:=Cq _ _ 0 _ _ _ XS.out
     have c1:=Cq _ _ 1 _ _ _ XS.out
     have c2:=Cq _ _ 2 _ _ _ XS.out
     have c3:=Cq _ _ 3 _ _ _ XS.out
     have l4:=(Gs XS.out)
     go_wp2_with fail
     refine (HC.out w4 GAH.out).mono ?_
     rintro e w5 ⟨D,F,cv,rfl,g5,o5⟩
     obtain ⟨pD,pF5,cD5,cF5,rfl,rfl⟩:=Xa o5
     have X5:=Zb Y1.out g5 (by simp)
     have v0:=Cq _ _ 0 _ _ _ X5
     have v1:=Cq _ _ 1 _ _ _ X5
     have v2:=Cq _ _ 2 _ _ _ X5
     have z0:=frozen_of_row _ _ 0 _ _ X5
     have z1:=frozen_of_row _ _ 1 _ _ X5
     have z2:=frozen_of_row _ _ 2 _ _ X5
     have l5:=(Gs X5)
     have HX:=Hq X5
     have G5:=Hq (Za G4.out g5)
     have O5:=Hq (Jm o5 (show w.heap.size<=w4.heap.size from G4.out.size))
     clear X5 g5 o5
     go_wp2
     refine bodyPost_ret (v := .tuple #[.agg #[.int .i64 mem,.slice pD dl.length cD5,.slice pF5 (fs').length cF5],.int .i64 0]) ?_ rfl (Or.inr ⟨hs,V,OP.out,_,_,cv,rfl,Zd (Zd (Zd G5.out (by omega)) (by omega)) (by omega),by rw [HQ.out];exact Jh (mem:=mem) O5.out HX.out⟩)
     · rw [results_cell_tmp rfl]
       go_simp
def szC (c:List Ins):Nat:=c.length+c.countP fun x=>jmp x.1
def szP (fs:List FnP):Nat:=(fs.map fun f=>szC f.2.2.2).sum
theorem Zqk (g:Int->Int) (c:List Ins):szC (reJ g c)=szC c:=by
 unfold szC reJ
 rw [List.length_map,List.countP_map]
 congr 2
 funext x
 simp only [Function.comp]
 by_cases e:jmp x.1=true
 · rw [if_pos e]
 · rw [if_neg e]
theorem Zha (a b:List Ins):szC (a++b)=szC a+szC b:=by
 unfold szC
 rw [List.length_append,List.countP_append]
 omega
theorem Yfq {c:List Ins} {n long:Nat} {put:List Ins} (h:szC put<szC ((c.drop n).take long)):szC (Xb c n long put)<szC c:=by
 unfold Xb
 rw [Zqk,Zha,Zha]
 have e:szC c=szC (c.take n)+(szC ((c.drop n).take long)+szC (c.drop (n+long))):=by
  rw [<- Zha,<- Zha,<- List.drop_drop,List.take_append_drop,List.take_append_drop]
 omega
theorem Zxe (c:List Ins):szC (Yh c)=szC c:=Zqk _ c
theorem Zxc (fs:List FnP):szP (Xp fs)=szP fs:=by
 unfold szP Xp
 rw [List.map_map]
 congr 1
 refine List.map_congr_left fun f _ => ?_
 exact Zxe _
theorem Zcz (fs:List FnP):(Xp fs).length=fs.length:=by simp [Xp]
theorem Zjm (fs:List FnP) (hs:Nat->List Int) (V:List Bool):(Zam fs hs V).length<=fs.length:=by
 unfold Zam
 rw [List.length_map]
 refine Nat.le_trans (List.length_filterMap_le _ _) ?_
 simp
theorem Ymy (fs:List FnP) (i n:Nat) (x:Jn):(Ylw fs i n x).length=fs.length:=by
 unfold Ylw
 split <;> simp
theorem Yth {c:List Ins} {n long:Nat} (h:n+long<=c.length):long<=szC ((c.drop n).take long):=by
 unfold szC
 rw [List.length_take,List.length_drop]
 omega
theorem Zdb {c:List Ins} {n long k:Nat} (h:n+long<=c.length) (hk:k<long) (hj:jmp (Zn c (n+k)).1=true):long+1<=szC ((c.drop n).take long):=by
 have hx:c[n+k]? = some (Zn c (n+k)):=by
  unfold Zn
  rw [List.getD_eq_getElem?_getD,List.getElem?_eq_getElem (by omega)]
  rfl
 have hm:Zn c (n+k)∈(c.drop n).take long:=by
  refine List.mem_of_getElem? (i:=k) ?_
  rw [List.getElem?_take_of_lt hk,List.getElem?_drop,hx]
 have hp:0<((c.drop n).take long).countP fun x=>jmp x.1:=List.countP_pos_iff.2 ⟨_,hm,hj⟩
 unfold szC
 rw [List.length_take,List.length_drop]
 omega
theorem Ytf {p:List Ins} (h:p.length<=1):szC p<=2:=by
 unfold szC
 have:=List.countP_le_length (p:=fun x:Ins=>jmp x.1) (l:=p)
 omega
theorem Zho {p:List Ins} (h:p.length<=1) (hj:∀ y∈p,jmp y.1=true->False):szC p<=1:=by
 unfold szC
 have:p.countP (fun x=>jmp x.1)=0:=List.countP_eq_zero.2 fun y hy e=>hj y hy e
 omega
theorem Yor {c:List Ins} {n L:Nat} {x:Jn} (hL:1<=L) (h:Zaj c n L=some x) (hn:n+x.long<=c.length):szC x.put<szC ((c.drop n).take x.long):=by
 obtain ⟨h1,_,h3⟩:=Zpi hL h
 have hr:=Yth hn
 rcases Zdg h with h|h|h|h
 · have hj:=Zwk h
   have h0:=Zho h3 hj
   unfold Zax at h
   simp only [] at h
   split at h
   · injection h with h;subst h
     have:szC ([]:List Ins)=0:=rfl
     simp only [] at hr ⊢
     omega
   · split at h
     · next e=>injection h with h;subst h;have:=Zdb hn (k:=0) h1 (by rw [Nat.add_zero,e.1];rfl);simp only [] at this h0 ⊢;omega
     split at h
     · next e=>injection h with h;subst h;have:=Zdb hn (k:=0) h1 e.1;simp only [] at this h0 ⊢;omega
     split at h
     · next e=>injection h with h;subst h;have:=Zdb hn (k:=0) h1 (by rw [Nat.add_zero,e.1];rfl);simp only [] at this h0 ⊢;omega
     · cases h
 · have h2:=Ytf h3
   unfold Zau at h
   simp only [] at h
   split at h
   · cases h
   split at h
   · next e =>
     have hj:jmp (Zn c (n+1)).1=true:=Zcc e
     split at h <;> (injection h with h;subst h;have:=Zdb hn (k:=1) (by simp) hj;simp only [] at this h2 ⊢;omega)
   split at h
   · split at h
     · injection h with h;subst h;have:=Zho h3 (by intro y hy h2;simp at hy;subst hy;simp [jmp] at h2);simp only [] at this hr ⊢;omega
     · cases h
   split at h
   · split at h
     · injection h with h;subst h;have:=Zho h3 (by intro y hy h2;simp at hy;subst hy;simp [jmp] at h2);simp only [] at this hr ⊢;omega
     · cases h
   split at h
   · next e =>
     have hj:jmp (Zn c (n+2)).1=true:=Zcc e.2.2.2
     injection h with h;subst h;have:=Zdb hn (k:=2) (by simp) hj;simp only [] at this h2 ⊢;omega
   split at h
   · injection h with h;subst h;have:=Zho h3 (by intro y hy;simp at hy);simp only [] at this hr ⊢;omega
   split at h
   · injection h with h;subst h;have:=Zho h3 (by intro y hy;simp at hy);simp only [] at this hr ⊢;omega
   · cases h
 · have h0:=Zho h3 (Zzu h)
   have h2:2<=x.long:=by
    unfold Zek at h
    simp only [] at h
    repeat' split at h
    all_goals first
     | (cases h;done)
     | (injection h with h;subst h;simp)
   omega
 · have h0:=Zho h3 (Zth h)
   have h2:2<=x.long:=by
    unfold Zce at h
    split at h
    · injection h with h;subst h;simp
    · cases h
   omega
theorem Ziy {α:Type} (l:List α) (b:Nat->Bool):∀ k,k<=l.length->(Xk l b k).Sublist (l.take k)
 | 0,_=>by simp [Xk]
 | k+1,h=>by
   obtain ⟨x,hx⟩:∃ x,l[k]? = some x:=⟨_,List.getElem?_eq_getElem (by omega)⟩
   rw [Jy l b k x hx,List.take_succ_eq_append_getElem (by omega)]
   have hx2:l[k]=x:=by rw [List.getElem?_eq_getElem (by omega)] at hx;injection hx
   rw [hx2]
   refine List.Sublist.append (Ziy l b k (by omega)) ?_
   cases b k <;> simp
theorem Zhp {b:Nat->Bool}:∀ {k n:Nat},n<k->b n=false->Yn b k<k
 | 0,n,h,_=>by omega
 | k+1,n,h,hb=>by
   unfold Yn
   by_cases e:n=k
   · subst e;rw [hb];have:=Zdm b n;simp;omega
   · have:=Zhp (k:=k) (n:=n) (by omega) hb
     split <;> omega
theorem Ytg {a b:List Ins} (h:a.Sublist b):szC a<=szC b:=by
 unfold szC
 have h1:=h.length_le
 have h2:=List.Sublist.countP_le (p:=fun x:Ins=>jmp x.1) h
 omega
theorem Yca {a b:List Ins} (h:a.Sublist b) (hl:a.length<b.length):szC a<szC b:=by
 unfold szC
 have h2:=List.Sublist.countP_le (p:=fun x:Ins=>jmp x.1) h
 omega
theorem Zzj (c:List Ins) (h:List Int):szC (Jf c h)<=szC c:=by
 unfold Jf
 rw [Zqk]
 refine Ytg ?_
 have:=Ziy c (hB h) c.length (Nat.le_refl _)
 rwa [List.take_length] at this
theorem Zxf {c:List Ins} {h:List Int} {n:Nat} (hn:n<c.length) (hh:hB h n=false):szC (Jf c h)<szC c:=by
 unfold Jf
 rw [Zqk]
 refine Yca ?_ ?_
 · have:=Ziy c (hB h) c.length (Nat.le_refl _)
   rwa [List.take_length] at this
 · rw [Yk _ _ _ (Nat.le_refl _)]
   exact Zhp hn hh
theorem Yfr (V:List Bool) (c:List Ins):szC (Zal V c)=szC c:=by
 unfold szC Zal
 rw [List.length_map,List.countP_map]
 congr 2
 funext x
 simp only [Function.comp]
 by_cases e:x.1=17
 · rw [if_pos e]
 · rw [if_neg e]
theorem Yte {fs:List FnP} {g:FnP->FnP} (h:∀ f∈fs,szC (g f).2.2.2=szC f.2.2.2):szP (fs.map g)=szP fs:=by
 unfold szP
 rw [List.map_map]
 congr 1
 exact List.map_congr_left fun f hf=>h f hf
theorem Zxh:∀ {a b:List Nat},a.Sublist b->a.sum<=b.sum
 | _,_,.slnil=>Nat.le_refl _
 | _,_,.cons x h=>by have:=Zxh h;simp;omega
 | _,_,.cons_cons x h=>by have:=Zxh h;simp;omega
theorem Ytd {a b:List FnP} (h:a.Sublist b):szP a<=szP b:=Zxh (h.map _)
theorem Zxd:∀ {fs:List FnP} {i:Nat} {f g:FnP},fs[i]? = some f->szP (fs.set i g)+szC f.2.2.2=szP fs+szC g.2.2.2
 | [],i,f,g,h=>by cases h
 | x::r,0,f,g,h=>by
   simp only [List.getElem?_cons_zero,Option.some.injEq] at h
   subst h
   simp [szP];omega
 | x::r,i+1,f,g,h=>by
   rw [List.getElem?_cons_succ] at h
   have:=Zxd (g:=g) h
   simp [szP] at this ⊢
   omega
theorem Ymo {fs:List FnP} {i n:Nat} {x:Jn} {fn:FnP} (hf:fs[i]? = some fn) (h:szC (Xb fn.2.2.2 n x.long x.put)<szC fn.2.2.2):szP (Ylw fs i n x)<szP fs:=by
 unfold Ylw
 rw [hf]
 simp only []
 have:=Zxd (g:=Zv fn (Xb fn.2.2.2 n x.long x.put)) hf
 have e:szC (Zv fn (Xb fn.2.2.2 n x.long x.put)).2.2.2=szC (Xb fn.2.2.2 n x.long x.put):=rfl
 rw [e] at this
 omega
end Go.Proofs.Ythlkflagancdfaa.OT
