/-
  Part of a proof: contracts of functions and lemmas, each stated by its own theorem. Conditions: as each theorem states.
-/
import Derived.Test.YthlkflagancdfaaMK26
import Derived.Test.YthlkflagancdfaaMK23
import Derived.Test.YthlkflagancdfaaMK24
import Derived.Test.YthlkflagancdfaaMK25
import Derived.Test.YthlkflagancdfaaMK22
import Derived.Deep.LoopGhost
import Derived.Deep.Cut
import Derived.Test.YthlkflagancdfaaMK13
set_option linter.unusedSimpArgs false
set_option linter.unusedVariables false
set_option maxRecDepth 100000
set_option maxHeartbeats 16000000
namespace Go.Proofs.Ythlkflagancdfaa.CK
open Go.RowKit Go.Great
theorem Yoy {w wr:World} {B:Nat} {fs:List FnP} {pF:Option Addr} {cF f:Nat} {ar lo r:Int} {c:List (Int × Int)} {gh:Nat} {h:List Int} {mem:Int} {pd:Option Addr} {nd cd R k:Nat} {A:LA} {vr vw:Value} {s:TS} {f1:Fr} (Kx:Act->World->Prop) (t:Nat->Value) (E:Yls w B fs pF f ar lo r c gh h)
 (hk:k=Jp c.length (nxL c h) s) (hI:Zlt c.length (nxL c h) s) (hm:4*s.met+Zac c.length s.num<=4*c.length) (hW:LpW w R A ⟨mem,.slice pd nd cd,.slice pF fs.length cF,f,.slice (some ⟨gh,0,none⟩) c.length c.length,c.length⟩ vr vw (Xr s) wr) (hS:s.S=f1::[]) (hd:f1.done=(nxL c h f1.at_).length) :
 Code.wp Try.prog Zgo (Exit.then (LNext w R A ⟨mem,.slice pd nd cd,.slice pF fs.length cF,f,.slice (some ⟨gh,0,none⟩) c.length c.length,c.length⟩ c h k) (Exit.inBlock 0 (Exit.then Kx (bodyPost Try.prog Try.f25 (Xf w c h))))) (lpF A c.length t) wr:=by
 obtain ⟨gw,cw,hv⟩:=Zht hW hS
 subst hv
 have hfr:f1.at_∈Xs s.S:=by rw [hS];simp [Xs]
 have hfm:f1.at_<c.length:=hI.lt _ hfr
 obtain ⟨L,hL2,hLl,hLe,NX'⟩:=Zxw E hW hfm
 have NX:=Hq NX'
 have hrb:=Zcf hI
 have hrl:([]:List Fr).length<4096:=by
  have h1:=E.l2
  have h2:=hrb.2
  rw [hS] at h2
  simp only [List.length_cons] at h2 ⊢
  omega
 have kw:=Zw hW.bw
 obtain ⟨-,hx0,hx1,hxz,sgw⟩:=Ycv hW hS
 have sgw7:∀ w7:World,wr.grownBy w7 none->gw<w7.heap.size:=fun w7 g=>Nat.lt_of_lt_of_le sgw g.size
 have HW:=Hq hW
 have HI:=Hq hI
 have HS:=Hq hS
 have HK:=Hq hk
 have HM:=Hq hm
 have EE:=Hq E
 have hwl:(Xr s).way.length=([]:List Fr).length+1:=(Xx hS).2.1
 have hlt:¬ (f1.done:Int)<(L.length:Int):=by omega
 have hlt2:decide ((f1.done:Int)<(L.length:Int))=false:=decide_eq_false hlt
 have hcap:=Zms (n:=([]:List Fr).length+1) (by have h:=hW.rw_;rw [hwl] at h;exact h)
 have HWL:=Hq hwl
 have hb:=Ymn hI hS
 have hrow:=Zzl hS
 have hnd:=hI.nd
 rw [hS] at hnd
 obtain ⟨nd1,nd2,nd3,nd4⟩:=Zhe hnd
 have hrl2:(Xr s).row.length<=4096:=by
  have h1:=E.l2
  have h2:=hrb.1
  show (Xs s.S).length<=4096
  omega
 have hlt3:∀ x∈f1.at_::f1.ex,x<c.length:=fun x hx=>hI.lt x (by rw [hS,Zcg];exact List.mem_append.2 (Or.inr hx))
 obtain ⟨rho,x,many,hrx,hmx⟩:∃ (rho:List Nat) (x:Nat) (many:Bool),(Xr s).row=rho++[x]/\((x:Int) != (f1.at_:Int))=many/\many = !f1.ex.isEmpty:=by
  rcases List.eq_nil_or_concat f1.ex with h0|⟨e,x,h0⟩
  · refine ⟨Xs ([]:List Fr),f1.at_,false,by rw [hrow,h0],by simp,by rw [h0];rfl⟩
  · rw [List.concat_eq_append] at h0
    refine ⟨Xs ([]:List Fr)++f1.at_::e,x,true,by rw [hrow,h0];simp,?_,by rw [h0];simp⟩
    have:x≠f1.at_:=fun h=>nd2 (by rw [h0,h];simp)
    simp only [bne_iff_ne,ne_eq]
    omega
 have HROW:=Hq hrow
 have HND:=Hq (List.nodup_cons.2 ⟨nd2,nd4⟩:(f1.at_::f1.ex).Nodup)
 have HLT3:=Hq hlt3
 have HRL2:=Hq hrl2
 have HMX:=Hq hmx.2
 have hmx:=hmx.1
 have hrho:rho.length<4096:=by rw [hrx] at hrl2;simp at hrl2;omega
 have HRX:=Hq hrx
 have HB:=Hq hb
 have HD:=Hq hd
 clear hW hI hS hk hm E hLe hrb NX' hLl hwl hfr hb hd hlt2 hrow nd1 nd2 nd3 nd4 hnd hlt3 hrl2 hrx
 simp only [List.length_cons,List.length_nil] at kw hx0 hx1 hcap HWL
 unfold lpF
 generalize t 0=u,t 1=u,t 2=u,t 3=u,t 4=u,t 5=u,t 6=u,t 16=u,t 17=u,t 18=u,t 19=u,t 20=u,t 21=u,t 22=u,t 23=u,t 24=u,t 25=u,t 26=u,t 27=u,t 28=u,t 29=u,t 30=u,t 31=u,t 32=u,t 33=u,t 34=u,t 35=u,t 36=u,t 37=u,t 38=u,t 39=u,t 40=u,t 41=u,t 42=u,t 43=u,t 44=u,t 45=u,t 46=u,t 47=u,t 48=u,t 49=u,t 50=u,t 51=u,t 52=u,t 53=u,t 54=u,t 55=u,t 56=u,t 57=u,t 58=u,t 59=u,t 60=u,t 61=u,t 62=u,t 63=u,t 64=u,t 65=u,t 66=u,t 67=u,t 68=u,t 69=u,t 70=u,t 71=u,t 72=u,t 73=u,t 74=u,t 75=u,t 76=u,t 77=u,t 78=u,t 79=u,t 80=u,t 81=u,t 82=u,t 83=u,t 84=u,t 85=u,t 86=u,t 87=u,t 88=u,t 89=u,t 90=u,t 91=u,t 92=u,t 93=u,t 94=u,t 95=u,t 96=u,t 97=u,t 98=u,t 99=u,t 100=u,t 101=u,t 102=u,t 103=u,t 104=u,t 105=u,t 106=u,t 107=u,t 108=u,t 109=u,t 110=u,t 111=u,t 112=u,t 113=u,t 114=u,t 115=u,t 116=u,t 117=u,t 118=u,t 119=u,t 120=u,t 121=u,t 122=u,t 123=u,t 124=u,t 125=u,t 126=u,t 127=u,t 128=u,t 129=u,t 130=u,t 131=u,t 132=u,t 133=u,t 134=u,t 135=u,t 136=u,t 137=u,t 138=u,t 139=u,t 140=u,t 141=u,t 142=u,t 143=u,t 144=u,t 145=u,t 146=u,t 147=u,t 148=u,t 149=u,t 150=u,t 151=u,t 152=u,t 153=u,t 154=u,t 155=u,t 156=u,t 157=u,t 158=u,t 159=u,t 160=u,t 161=u,t 162=u,t 163=u,t 164=u,t 165=u,t 166=u,t 167=u,t 168=u,t 169=u,t 170=u,t 171=u,t 172=u,t 173=u,t 174=u,t 175=u,t 176=u,t 177=u,t 178=u,t 179=u,t 180=u,t 181=u,t 182=u,t 183=u,t 184=u,t 185=u,t 186=u,t 187=u,t 188=u,t 189=u,t 190=u,t 191=u,t 192=u,t 193=u,t 194=u,t 195=u,t 196=u,t 197=u,t 198=u,t 199=u,t 200=u,t 201=u,t 202=u,t 203=u,t 204=u,t 205=u,t 206=u,t 207=u,t 208=u,t 209=u,t 210=u
 clear t
 conv=>arg 2;whnf
 go_upto_region 26 with (first
  | (go_at_call 40;refine NX.out.mono ?_;rintro e w7 ⟨v7,rfl,hg7,ho7⟩;obtain ⟨p7,k7,hv7⟩:=Zp ho7;subst hv7;have H7:=Hq (Xg HW.out hg7);have y0:=hg7.cell hx0 (by simp);have y1:=hg7.cell hx1 (by simp);have kw7:=Zw H7.out.bw;have zw7:=Zdi H7.out.bw;have swx:=World.block_lt_of_cell? _ _ kw7;have sgw8:=sgw7 w7 hg7;clear hx0 hx1 hxz sgw kw hg7 ho7))
 have hwg:gw≠A.w:=by have h1:=Yt H7.out (k:=gw) rfl;have h2:=H7.out.hi A.w (by simp [LA.all]);omega
 have H9:=Zxv H7.out (g:=gw) (c:=cw) (k:=0) (by rw [HWL.out];rfl) (by rw [HWL.out];omega)
 clear y0 y1  kw7 zw7 sgw8 H7 swx
 generalize w7.setCell ⟨A.w,0,none⟩ (.slice (some ⟨gw,0,none⟩) 0 cw)=w9 at H9  ⊢
 have kw9:=Zw H9.bw
 have hfi:(f1.at_:Int)<(c.length:Int):=by omega
 have H10:=H9
 clear H9
 obtain ⟨w10,hw10⟩:∃ w10,w10=w9:=⟨_,rfl⟩
 rw [<- hw10] at H10 kw9 ⊢
 clear hw10
 have cb11:w10.cell? ⟨A.gb,f1.at_,none⟩=some (.int .i64 ((s.back.getD f1.at_ 0:Nat):Int)):=(Zky H10 f1.at_ hfm).1
 have bb10:=Zw H10.bb
 have bn10:=Zw H10.bn
 have cn11:w10.cell? ⟨A.gn,f1.at_,none⟩=some (.int .i64 ((s.num.getD f1.at_ 0:Nat):Int)):=(Zux H10 f1.at_ hfm).1
 have sb10:=World.block_lt_of_cell? _ _ cb11
 have sn10:=World.block_lt_of_cell? _ _ cn11
 rw [HB.out] at cb11
 have HH10:=Hq H10
 clear H10
 generalize ((s.num.getD f1.at_ 0:Nat):Int)=yy at cn11 cb11
 go_wp2
 go_region
 clear cb11 cn11 bb10 bn10 sb10 sn10
 have H11:=Xg HH10.out (Ze (Zc _ none))
 clear HH10
 generalize w10.drew=w11 at H11 ⊢
 have hrr:=H11.rr
 have hrlen:(Xr s).row.length=rho.length+1:=by rw [HRX.out];simp
 obtain ⟨gr,cr,hv⟩:=Zan (by simp only [] at hrr;rw [hrlen] at hrr;exact hrr)
 subst hv
 have hrx:w11.cell? ⟨gr,rho.length,none⟩=some (.int .i64 x):=by
  have h1:=hrr
  simp only [] at h1
  rw [hrlen] at h1
  rw [h1.cellAt _ (by omega),HRX.out]
  simp [Zex]
 have br:=Zw H11.br
 have sgr:=World.block_lt_of_cell? _ _ hrx
 have HH11:=Hq H11
 clear H11 hrr hrlen
 go_wp2
 refine Zpl (rho:=Xs ([]:List Fr)) (ex:=f1.ex) (at_:=f1.at_) (many := !f1.ex.isEmpty) ⟨⟨rfl,rfl,rfl,rfl,rfl,rfl,rfl,rfl,rfl,rfl,rfl⟩,rfl,rfl⟩ HH11.out HROW.out HND.out HLT3.out EE.out.l2 HRL2.out ?_
 intro a' w' vr' S' hfr hW' hP
 show LNext w R A ⟨mem,.slice pd nd cd,.slice pF fs.length cF,f,.slice (some ⟨gh,0,none⟩) c.length c.length,c.length⟩ c h k a' w'
 obtain ⟨num',back',on',inn',row',way',met'⟩:=S'
 obtain ⟨⟨p1,p2,p3,p4⟩,p5,p6,p7',p8,p9⟩:=hP
 simp only [] at p1 p2 p3 p4 p5 p6 p7' p8 p9
 subst p1 p2 p3 p4 p5
 have hI1:=Yrb HI.out HS.out HD.out HB.out p6 p7' (fun x hx=>by rw [p8 x hx];simp only [List.mem_cons];rfl) (fun x hx=>by rw [p9 x hx];simp only [List.mem_cons];rfl)
 obtain ⟨s2,hs2⟩:∃ s2,s2={ s with back:=Zgf s.back (s.back.getD f1.at_ 0) ([]:List Fr),on:=on',inn:=inn',S:=([]:List Fr),fin:=f1.at_::s.fin }:=⟨_,rfl⟩
 rw [<- hs2] at hI1
 have e9:=Yie HS.out (Zgf s.back (s.back.getD f1.at_ 0) ([]:List Fr)) on' inn' (f1.at_::s.fin)
 rw [<- hs2] at e9
 have hm2:4*s2.met+Zac c.length s2.num<=4*c.length:=by rw [hs2];exact HM.out
 exact LNext.intro (Jp c.length (nxL c h) s2) (by rw [HK.out];exact hI1.2) hfr ⟨s2,_,_,rfl,hI1.1,hm2,by rw [<- e9];exact hW'⟩
theorem Xac {w wr:World} {fs:List FnP} {pF:Option Addr} {cF f:Nat} {c:List (Int × Int)} {gh:Nat} {h:List Int} {mem:Int} {pd:Option Addr} {nd cd R k:Nat} {A:LA} {vr vw:Value} {s:TS} (Kx:Act->World->Prop) (t:Nat->Value)
 (hW:LpW w R A ⟨mem,.slice pd nd cd,.slice pF fs.length cF,f,.slice (some ⟨gh,0,none⟩) c.length c.length,c.length⟩ vr vw (Xr s) wr) (hS:s.S=[]) (hx:∀ a',LFr A c.length a'->Kx a' wr) :
 Code.wp Try.prog Zgo (Exit.then (LNext w R A ⟨mem,.slice pd nd cd,.slice pF fs.length cF,f,.slice (some ⟨gh,0,none⟩) c.length c.length,c.length⟩ c h k) (Exit.inBlock 0 (Exit.then Kx (bodyPost Try.prog Try.f25 (Xf w c h))))) (lpF A c.length t) wr:=by
 have hn:=hW.rw_
 have hl0:(Xr s).way.length=0:=by simp [Xr,hS]
 rw [hl0] at hn
 obtain ⟨pw,cw,hv⟩:=Zp hn
 subst hv
 have kw:=Zw hW.bw
 have HX:=Hq hx
 clear hn hl0 hW hS hx
 unfold lpF
 generalize t 0=u,t 1=u,t 2=u,t 3=u,t 4=u,t 5=u,t 6=u,t 16=u,t 17=u,t 18=u,t 19=u,t 20=u,t 21=u,t 22=u,t 23=u,t 24=u,t 25=u,t 26=u,t 27=u,t 28=u,t 29=u,t 30=u,t 31=u,t 32=u,t 33=u,t 34=u,t 35=u,t 36=u,t 37=u,t 38=u,t 39=u,t 40=u,t 41=u,t 42=u,t 43=u,t 44=u,t 45=u,t 46=u,t 47=u,t 48=u,t 49=u,t 50=u,t 51=u,t 52=u,t 53=u,t 54=u,t 55=u,t 56=u,t 57=u,t 58=u,t 59=u,t 60=u,t 61=u,t 62=u,t 63=u,t 64=u,t 65=u,t 66=u,t 67=u,t 68=u,t 69=u,t 70=u,t 71=u,t 72=u,t 73=u,t 74=u,t 75=u,t 76=u,t 77=u,t 78=u,t 79=u,t 80=u,t 81=u,t 82=u,t 83=u,t 84=u,t 85=u,t 86=u,t 87=u,t 88=u,t 89=u,t 90=u,t 91=u,t 92=u,t 93=u,t 94=u,t 95=u,t 96=u,t 97=u,t 98=u,t 99=u,t 100=u,t 101=u,t 102=u,t 103=u,t 104=u,t 105=u,t 106=u,t 107=u,t 108=u,t 109=u,t 110=u,t 111=u,t 112=u,t 113=u,t 114=u,t 115=u,t 116=u,t 117=u,t 118=u,t 119=u,t 120=u,t 121=u,t 122=u,t 123=u,t 124=u,t 125=u,t 126=u,t 127=u,t 128=u,t 129=u,t 130=u,t 131=u,t 132=u,t 133=u,t 134=u,t 135=u,t 136=u,t 137=u,t 138=u,t 139=u,t 140=u,t 141=u,t 142=u,t 143=u,t 144=u,t 145=u,t 146=u,t 147=u,t 148=u,t 149=u,t 150=u,t 151=u,t 152=u,t 153=u,t 154=u,t 155=u,t 156=u,t 157=u,t 158=u,t 159=u,t 160=u,t 161=u,t 162=u,t 163=u,t 164=u,t 165=u,t 166=u,t 167=u,t 168=u,t 169=u,t 170=u,t 171=u,t 172=u,t 173=u,t 174=u,t 175=u,t 176=u,t 177=u,t 178=u,t 179=u,t 180=u,t 181=u,t 182=u,t 183=u,t 184=u,t 185=u,t 186=u,t 187=u,t 188=u,t 189=u,t 190=u,t 191=u,t 192=u,t 193=u,t 194=u,t 195=u,t 196=u,t 197=u,t 198=u,t 199=u,t 200=u,t 201=u,t 202=u,t 203=u,t 204=u,t 205=u,t 206=u,t 207=u,t 208=u,t 209=u,t 210=u
 clear t
 conv=>arg 2;whnf
 go_wp2
 exact HX.out _ ⟨rfl,rfl,rfl,rfl,rfl,rfl,rfl,rfl,rfl,rfl,rfl⟩
theorem Yow {w wr:World} {B:Nat} {fs:List FnP} {pF:Option Addr} {cF f:Nat} {ar lo r:Int} {c:List (Int × Int)} {gh:Nat} {h:List Int} {mem:Int} {pd:Option Addr} {nd cd R k:Nat} {A:LA} (Kx:Act->World->Prop) (E:Yls w B fs pF f ar lo r c gh h) {a:Act}
 (ha:LFr A c.length a) (hR:LpR w R A ⟨mem,.slice pd nd cd,.slice pF fs.length cF,f,.slice (some ⟨gh,0,none⟩) c.length c.length,c.length⟩ c h k wr) (hx:∀ a' w' s vr vw,LFr A c.length a'->Zlt c.length (nxL c h) s->s.S=[]->LpW w R A ⟨mem,.slice pd nd cd,.slice pF fs.length cF,f,.slice (some ⟨gh,0,none⟩) c.length c.length,c.length⟩ vr vw (Xr s) w'->Kx a' w') :
 Code.wp Try.prog Zgo (Exit.then (LNext w R A ⟨mem,.slice pd nd cd,.slice pF fs.length cF,f,.slice (some ⟨gh,0,none⟩) c.length c.length,c.length⟩ c h k) (Exit.inBlock 0 (Exit.then Kx (bodyPost Try.prog Try.f25 (Xf w c h))))) a wr:=by
 obtain ⟨s,vr,vw,hk,hI,hm,hW⟩:=hR
 rw [Yrs ha]
 rcases hS:s.S with _|⟨f1,r1⟩
 · exact Xac (gh:=gh) Kx _ hW hS fun a' ha'=>hx a' wr s vr vw ha' hI hS hW
 · have hfd:=hI.fr f1 (by rw [hS];simp)
   by_cases hlt:f1.done<(nxL c h f1.at_).length
   · have hM:(nxL c h f1.at_)[f1.done]? = some ((nxL c h f1.at_)[f1.done]):=List.getElem?_eq_getElem hlt
     by_cases h0:s.num.getD ((nxL c h f1.at_)[f1.done]) 0=0
     · exact Xae Kx _ E hk hI hm hW hS hM h0
     · cases hon:s.on.getD ((nxL c h f1.at_)[f1.done]) false with
       | false=>exact Yoz Kx _ E hk hI hm hW hS hM h0 hon
       | true =>
         by_cases hmf:(nxL c h f1.at_)[f1.done]=f1.at_
         · exact Yif Kx _ E hk hI hm hW hS hM h0 hon hmf
         · exact Yig Kx _ E hk hI hm hW hS hM h0 hon hmf
   · have hd:f1.done=(nxL c h f1.at_).length:=by omega
     rcases r1 with _|⟨up,r2⟩
     · exact Yoy Kx _ E hk hI hm hW hS hd
     · by_cases hb:s.back.getD f1.at_ 0=s.num.getD f1.at_ 0
       · exact Yox Kx _ E hk hI hm hW hS hd hb
       · exact Yuw Kx _ E hk hI hm hW hS hd hb
theorem Yuy {w wr:World} {B:Nat} {fs:List FnP} {pF:Option Addr} {cF f:Nat} {ar lo r:Int} {c:List (Int × Int)} {gh:Nat} {h:List Int} {mem:Int} {pd:Option Addr} {nd cd R k:Nat} {A:LA} (Kx:Act->World->Prop) (E:Yls w B fs pF f ar lo r c gh h) {a:Act}
 (ha:LFr A c.length a) (hR:LpR w R A ⟨mem,.slice pd nd cd,.slice pF fs.length cF,f,.slice (some ⟨gh,0,none⟩) c.length c.length,c.length⟩ c h k wr) (hx:∀ a' w' s vr vw,LFr A c.length a'->Zlt c.length (nxL c h) s->s.S=[]->LpW w R A ⟨mem,.slice pd nd cd,.slice pF fs.length cF,f,.slice (some ⟨gh,0,none⟩) c.length c.length,c.length⟩ vr vw (Xr s) w'->Kx a' w') :
 Code.wp Try.prog (Code.loop Zgo) (Exit.inBlock 0 (Exit.then Kx (bodyPost Try.prog Try.f25 (Xf w c h)))) a wr :=
 wp_loop_ghost (fun k a' w'=>LFr A c.length a'/\LpR w R A ⟨mem,.slice pd nd cd,.slice pF fs.length cF,f,.slice (some ⟨gh,0,none⟩) c.length c.length,c.length⟩ c h k w') k ⟨ha,hR⟩ fun k a1 w1 hI1=>Yow Kx E hI1.1 hI1.2 hx
theorem Yih (mem:Int) (vd:Value) (fs:List FnP) (pF:Option Addr) (cF B f:Nat) (fn:FnP) (gh:Nat) (h:List Int) (w:World) (hvd:∃ p n c,vd = .slice p n c) (hB:B<=w.heap.size) (hF:Yl w B pF fs) (hf:fs[f]? = some fn) (hok:Zjp fs)
 (hh:∀ i:Nat,i<fn.2.2.2.length->w.cell? ⟨gh,i,none⟩=some (.int .i64 (h.getD i 0))) (h0:0<=h.getD 0 0) :
 Calls Try.prog 25 #[.agg #[.int .i64 mem,vd,.slice pF fs.length cF],.int .i64 f,.slice (some ⟨gh,0,none⟩) fn.2.2.2.length fn.2.2.2.length] w (Xf w fn.2.2.2 h):=by
 obtain ⟨pd,nd,cd,rfl⟩:=hvd
 have hmem:=List.mem_of_getElem? hf
 have hf1:=(List.getElem?_eq_some_iff.1 hf).1
 have hnf:=hok.nf
 obtain ⟨hlen1,hlen2⟩:=hok.len fn hmem
 obtain ⟨ar,lo,r,c⟩:=fn
 simp only [] at hlen1 hlen2 hh
 obtain ⟨ii,ii0,ii1,ii2,ii3⟩:=info_parts Zao
 obtain ⟨bi,bi0,bi1,bi2,bi3⟩:=info_parts Zwj
 have hk1:ii.bytes*c.length<=281474976710656:=by rw [ii3];omega
 have hk2:bi.bytes*c.length<=281474976710656:=by rw [bi3];omega
 have hk3:c.length<=maxLen:=by unfold maxLen;omega
 have c0:=hh 0 (by omega)
 have s0:=World.block_lt_of_cell? _ _ c0
 go_enter Try.func25,Try.ntmps25
 go_wp2
 rename_i K hK
 have T3:=Xl w (.cells #[.int .i64 mem,.slice pd nd cd,.slice pF fs.length cF] 25) (.cells #[.int .i64 f] 3) (.cells #[.slice (some ⟨gh,0,none⟩) c.length c.length] 32)
 have g3:=Xm w (.cells #[.int .i64 mem,.slice pd nd cd,.slice pF fs.length cF] 25) (.cells #[.int .i64 f] 3) (.cells #[.slice (some ⟨gh,0,none⟩) c.length c.length] 32)
 have z3:(((w.alloc (.cells #[.int .i64 mem,.slice pd nd cd,.slice pF fs.length cF] 25)).alloc (.cells #[.int .i64 f] 3)).alloc (.cells #[.slice (some ⟨gh,0,none⟩) c.length c.length] 32)).heap.size=w.heap.size+3:=by simp
 generalize ((w.alloc (.cells #[.int .i64 mem,.slice pd nd cd,.slice pF fs.length cF] 25)).alloc (.cells #[.int .i64 f] 3)).alloc (.cells #[.slice (some ⟨gh,0,none⟩) c.length c.length] 32)=W at *
 obtain ⟨t1,t2,t3⟩:=T3
 have k3:W.cell? ⟨w.heap.size+1+1,0,none⟩=some (.slice (some ⟨gh,0,none⟩) c.length c.length):=Cq _ _ 0 _ _ _ t3
 generalize hnh:w.heap.size+1+1=nh at *
 have hz:gh<W.heap.size:=by omega
 have hnh2:nh<W.heap.size:=by omega
 clear c0 s0
 refine Je (n:=10) (J:=fun a0 l a1 w1=>∃ blk,RJ a0 211 10 lm (lmv gh c.length blk) l a1/\LMB gh c.length W.drew blk l w1) (by kernel_rfl) rfl (Zai (by kernel_rfl)) (fun l a1 w1 h=>by obtain ⟨_,_,h⟩:=h;exact h.sz) ⟨fun _=>0,Jd rfl,Yoq _⟩ ?step ?fin
 case step =>
  intro l a1 w' i hJJ hi hin
  obtain ⟨blk,hJ,hW⟩:=hJJ
  have hun:l.getD i false=false:=getD_both (mem_ready.1 hi).1
  have gW:W.grownBy w' none:=Za (Ze (Zc W none)) hW.g
  have e5:a1.tmps.getD 5 undef = .pointer (some ⟨nh,0,none⟩):=hJ.un 5 (fun i hi _=>Xal 5 (by decide) i hi)
  have h0:=gW.cell k3 (by simp)
  have hmk:=run_make_row' (P:=Try.prog) 32 3 (.int .i64 0) 8 Zbv Zao rfl .i64 .i64 c.length (by omega) (by omega)
  rcases Xak i hin with rfl|rfl|rfl|rfl|rfl|rfl|rfl|rfl|rfl|rfl
  · exact Zj (Zo hW hJ rfl (by rfl) rfl (by decide) (by decide) (Zrx _ (by decide)) (w':=w') (by simp [execOp,resolve,invoke,builtin,Act.eval,e5,h0,go_sem,lmv]) (Zlo hW (by decide) (by decide) (by decide) (by decide))) (fun a9 w9 h9=>⟨blk,h9⟩)
  · have e27:a1.tmps.getD 27 undef = .slice (some ⟨gh,0,none⟩) c.length c.length:=(Zu hJ hi 0 (by kernel_rfl))
    exact Zj (Zo hW hJ rfl (by rfl) rfl (by decide) (by decide) (Zrx _ (by decide)) (w':=w') (by simp [execOp,resolve,invoke,builtin,Act.eval,e27,go_sem,lmv]) (Zlo hW (by decide) (by decide) (by decide) (by decide))) (fun a9 w9 h9=>⟨blk,h9⟩)
  · have e28:a1.tmps.getD 28 undef = .int .i64 c.length:=(Zu hJ hi 1 (by kernel_rfl))
    exact Zj (Zdd (WS:=fun l w=>LMB gh c.length W.drew (Yee blk 2 w'.heap.size) l w) (Zbe hJ (Zru hun)) rfl (by rfl) rfl (by decide) (by decide) (Zrx _ (by decide)) (w':=w'.alloc (.cells (madeCells #[.int .i64 0] c.length) 3)) (by simp [execOp,Act.eval,e28,hmk,go_sem,lmv,Zcx]) (Zrw hW (by decide) (by decide) hun (by decide) (by decide) rfl)) (fun a9 w9 h9=>⟨_,h9⟩)
  · exact Zj (Zo hW hJ rfl (by rfl) rfl (by decide) (by decide) (Zrx _ (by decide)) (w':=w') (by simp [execOp,resolve,invoke,builtin,Act.eval,e5,h0,go_sem,lmv]) (Zlo hW (by decide) (by decide) (by decide) (by decide))) (fun a9 w9 h9=>⟨blk,h9⟩)
  · have e27:a1.tmps.getD 30 undef = .slice (some ⟨gh,0,none⟩) c.length c.length:=(Zu hJ hi 3 (by kernel_rfl))
    exact Zj (Zo hW hJ rfl (by rfl) rfl (by decide) (by decide) (Zrx _ (by decide)) (w':=w') (by simp [execOp,resolve,invoke,builtin,Act.eval,e27,go_sem,lmv]) (Zlo hW (by decide) (by decide) (by decide) (by decide))) (fun a9 w9 h9=>⟨blk,h9⟩)
  · have e28:a1.tmps.getD 31 undef = .int .i64 c.length:=(Zu hJ hi 4 (by kernel_rfl))
    exact Zj (Zdd (WS:=fun l w=>LMB gh c.length W.drew (Yee blk 5 w'.heap.size) l w) (Zbe hJ (Zru hun)) rfl (by rfl) rfl (by decide) (by decide) (Zrx _ (by decide)) (w':=w'.alloc (.cells (madeCells #[.int .i64 0] c.length) 3)) (by simp [execOp,Act.eval,e28,hmk,go_sem,lmv,Zcx]) (Zrw hW (by decide) (by decide) hun (by decide) (by decide) rfl)) (fun a9 w9 h9=>⟨_,h9⟩)
  · exact Zj (Zdd (WS:=fun l w=>LMB gh c.length W.drew (Yee blk 6 w'.heap.size) l w) (Zbe hJ (Zru hun)) rfl (by rfl) rfl (by decide) (by decide) (Zrx _ (by decide)) (w':=w'.alloc (.cells #[.slice none 0 0] 32)) (by simp [execOp,Act.eval,go_sem,lmv,Zcx]) (Zrw hW (by decide) (by decide) hun (by decide) (by decide) (Xen hW hun))) (fun a9 w9 h9=>⟨_,h9⟩)
  · exact Zj (Zdd (WS:=fun l w=>LMB gh c.length W.drew (Yee blk 7 w'.heap.size) l w) (Zbe hJ (Zru hun)) rfl (by rfl) rfl (by decide) (by decide) (Zrx _ (by decide)) (w':=w'.alloc (.cells #[.slice none 0 0] 32)) (by simp [execOp,Act.eval,go_sem,lmv,Zcx]) (Zrw hW (by decide) (by decide) hun (by decide) (by decide) (Xem hW hun))) (fun a9 w9 h9=>⟨_,h9⟩)
  · have e8:a1.tmps.getD 8 undef = .pointer (some ⟨blk 6,0,none⟩):=(Zu hJ hi 6 (by kernel_rfl))
    have e29:a1.tmps.getD 29 undef = .slice (some ⟨blk 2,0,none⟩) c.length c.length:=(Zu hJ hi 2 (by kernel_rfl))
    have hl2:l.getD 2 false=true:=Zl hi 2 (by kernel_rfl)
    have hl6:l.getD 6 false=true:=Zl hi 6 (by kernel_rfl)
    obtain ⟨v,hv⟩:=Yag c.length blk l
    have hb:=(hW.b 6 (by decide) hl6).2
    rw [hv] at hb
    have k0:=Cq _ _ 0 _ _ _ hb
    have z0:=frozen_of_row _ _ 0 _ _ hb
    refine Zgd rfl rfl rfl (w':=w'.setCell ⟨blk 6,0,none⟩ (.slice (some ⟨blk 2,0,none⟩) c.length c.length)) (by simp [execOp,Act.eval,e8,e29,k0,z0,go_sem]) ?_
    exact ⟨blk,Zmm hJ (by decide) (by decide),Yvb hW hl2 hl6⟩
  · have e9:a1.tmps.getD 9 undef = .pointer (some ⟨blk 7,0,none⟩):=(Zu hJ hi 7 (by kernel_rfl))
    have e32:a1.tmps.getD 32 undef = .slice (some ⟨blk 5,0,none⟩) c.length c.length:=(Zu hJ hi 5 (by kernel_rfl))
    have hl2:l.getD 5 false=true:=Zl hi 5 (by kernel_rfl)
    have hl6:l.getD 7 false=true:=Zl hi 7 (by kernel_rfl)
    obtain ⟨v,hv⟩:=Yaf c.length blk l
    have hb:=(hW.b 7 (by decide) hl6).2
    rw [hv] at hb
    have k0:=Cq _ _ 0 _ _ _ hb
    have z0:=frozen_of_row _ _ 0 _ _ hb
    refine Zgd rfl rfl rfl (w':=w'.setCell ⟨blk 7,0,none⟩ (.slice (some ⟨blk 5,0,none⟩) c.length c.length)) (by simp [execOp,Act.eval,e9,e32,k0,z0,go_sem]) ?_
    exact ⟨blk,Zmm hJ (by decide) (by decide),Yva hW hl2 hl6⟩
 intro l a1 w2 hJJ hl
 obtain ⟨blk,hJ,hW⟩:=hJJ
 have hput:=Zag hJ rfl hl (fun i j h1 h2 h3=>Zrx j h2 i h1 h3)
 subst hput
 have M2:=Hq (Yvc hW hl hk3)
 clear hJ hW hl
 refine hK _ _ ?_
 simp only [Zay,lm,lmv,Act.put,List.setIfInBounds_toArray,List.set_cons_zero,List.set_cons_succ]
 clear hK K
 generalize blk 2=gn at *
 generalize blk 5=gb at *
 generalize blk 6=bn at *
 generalize blk 7=bb at *
 have hE3:w.heap.size<=w2.heap.size:=by have:=M2.out.g.size;have e:W.drew.heap.size=W.heap.size:=rfl;omega
 have k2:=(Za (Ze (Zc W none)) M2.out.g).cell k3 (by simp)
 have s2:=World.block_lt_of_cell? _ _ k2
 have T1:=Hq t1
 have T2:=Hq t2
 have T3:=Hq t3
 have Z3:=Hq z3
 have GW:=Hq (Za (Ze (Zc W none)) M2.out.g)
 have HH:=Hq hh
 have S3:=Hq g3
 have hd0:decide (h.getD 0 0<0)=false:=decide_eq_false (by omega)
 have q0:(0:Int)<(c.length:Int):=by omega
 clear t1 t2 t3 z3 k3 hnh2 g3 hz
 go_upto_region 8 with (first
  | (refine wpList_make_full _ rfl _ _ 33 rfl w.heap.size 4 bi (.bool false) 1 Zst bi0 bi1 bi2 .i64 .i64 _ _ c.length rfl rfl rfl rfl hk2 hk3 hE3 ?_;intro w3 hr3 hg3;have R3:=Hq hr3;have G3:=Hq hg3;have k3:=hg3.cell k2 (by simp);have s3:=World.block_lt_of_cell? _ _ k3;have hs3:w2.heap.size<w3.heap.size:=(hr3.lt _ rfl).2;have hE4:w.heap.size<=(w3.alloc (.cells #[.slice (some ⟨w2.heap.size,0,none⟩) c.length c.length] 33)).heap.size:=(by simp;omega);clear hr3 hg3)
  | (refine wpList_make_full _ rfl _ _ 33 rfl w.heap.size 4 bi (.bool false) 1 Zst bi0 bi1 bi2 .i64 .i64 _ _ c.length rfl rfl rfl rfl hk2 hk3 hE4 ?_;intro w4 hr4 hg4;rw [World.size_alloc] at hr4;have R4:=Hq hr4;have G4:=Hq hg4;have k4:=(Za (Ga w3 _ none) hg4).cell k3 (by simp);have s4:=World.block_lt_of_cell? _ _ k4;have hs4:w3.heap.size+1<w4.heap.size:=(hr4.lt _ rfl).2;have LP0:=Hq (Yov S3.out Z3.out T1.out T2.out (by rw [hnh];exact T3.out) M2.out G3.out hg4 hs3 hs4 R3.out hr4);clear hr4 hg4))
 rename_i K hK
 clear k2 s2 k3 s3 k4 s4 R3 R4 G3 G4 M2 GW S3 T1 T2 T3 Z3 hk1 hk2 hk3 hE3 hE4
 have hwe:((w4.alloc (.cells #[.slice none 0 0] 32)).alloc (.cells #[.slice none 0 0] 88)).alloc (.cells #[.int .i64 0] 3)=we0 w4:=rfl
 rw [hwe]
 clear hwe
 generalize we0 w4=wE at *
 have hA:∃ A:LA,A=la0 w.heap.size gn gb bn bb w2.heap.size w3.heap.size w4.heap.size/\A.p=w.heap.size/\A.f=w.heap.size+1/\A.h=nh/\A.n=bn/\A.b=bb/\A.o=w3.heap.size/\A.r=w4.heap.size/\A.w=w4.heap.size+1/\A.m=w4.heap.size+1+1/\A.gn=gn/\A.gb=gb/\A.go=w2.heap.size/\A.gi=w3.heap.size+1:=⟨_,rfl,rfl,rfl,hnh,rfl,rfl,rfl,rfl,rfl,rfl,rfl,rfl,rfl,rfl⟩
 obtain ⟨A,hA,a1,a2,a3,a4,a5,a6,a7,a8,a9,a10,a11,a12,a13⟩:=hA
 rw [<- hA] at LP0
 rw [<- a9,<- a8,<- a7,<- a13,<- a6,<- a2,<- a1,<- a3,<- a4,<- a5]
 have k5:wE.cell? ⟨A.h,0,none⟩=some (.slice (some ⟨gh,0,none⟩) c.length c.length):=Zw LP0.out.bh
 have c5:=LP0.out.gr.cell (HH.out 0 (by omega)) (by simp)
 obtain ⟨z0,z0e⟩:∃ z,z=h.getD 0 0:=⟨_,rfl⟩
 rw [<- z0e] at c5 hd0
 clear z0e
 have EN:Calls Try.prog 42 #[.int .i64 0,.pointer (some ⟨A.m,0,none⟩),.pointer (some ⟨A.n,0,none⟩),.pointer (some ⟨A.b,0,none⟩),.pointer (some ⟨A.o,0,none⟩),.pointer (some ⟨A.r,0,none⟩),.pointer (some ⟨A.w,0,none⟩)] wE _:=Zvm w wE wE.heap.size A _ _ _ _ 0 LP0.out (by simp only [];omega) (by simp [ls0]) (by simp [ls0]) (by simp [ls0])
 have EN2:=Hq EN
 clear a1 a2 a3 a4 a5 a6 a7 a8 a9 a10 a11 a12 a13 hA EN
 generalize wE.heap.size=R at *
 go_wp2_with (go_at_call 42;refine EN2.out.mono ?_;rintro e w5 ⟨⟨v5,rfl⟩,vr5,vw5,H5,O5⟩)
 have LR:LpR w R A ⟨mem,.slice pd nd cd,.slice pF fs.length cF,f,.slice (some ⟨gh,0,none⟩) c.length c.length,c.length⟩ c h (Jp c.length (nxL c h) (ts0 c.length)) w5 :=
  ⟨_,_,_,rfl,(Yfo hlen1).1,(Yfo (next:=nxL c h) hlen1).2,H5⟩
 have LR2:=Hq LR
 clear LR H5 O5 EN2 LP0 k5 c5 hd0 hh
 have EE:Yls w B fs pF f ar lo r c gh h:=⟨hB,hF,hf,hnf,hlen1,hlen2,HH.out⟩
 rename_i K hK
 refine Yuy K EE ⟨rfl,rfl,rfl,rfl,rfl,rfl,rfl,rfl,rfl,rfl,rfl⟩ LR2.out ?_
 intro a1 wo s vr vw ha hI hS hW
 refine hK a1 wo ?_
 rw [Yrs ha]
 generalize (fun i=>a1.tmps.getD i undef)=t
 have HW:=Hq hW
 have HI:=Hq hI
 have HS:=Hq hS
 have kw:=Zw hW.bw
 clear hW hI hS hK K LR2 ha a1 EE
 unfold lpF
 generalize t 0=u,t 1=u,t 2=u,t 3=u,t 4=u,t 5=u,t 6=u,t 16=u,t 17=u,t 18=u,t 19=u,t 20=u,t 21=u,t 22=u,t 23=u,t 24=u,t 25=u,t 26=u,t 27=u,t 28=u,t 29=u,t 30=u,t 31=u,t 32=u,t 33=u,t 34=u,t 35=u,t 36=u,t 37=u,t 38=u,t 39=u,t 40=u,t 41=u,t 42=u,t 43=u,t 44=u,t 45=u,t 46=u,t 47=u,t 48=u,t 49=u,t 50=u,t 51=u,t 52=u,t 53=u,t 54=u,t 55=u,t 56=u,t 57=u,t 58=u,t 59=u,t 60=u,t 61=u,t 62=u,t 63=u,t 64=u,t 65=u,t 66=u,t 67=u,t 68=u,t 69=u,t 70=u,t 71=u,t 72=u,t 73=u,t 74=u,t 75=u,t 76=u,t 77=u,t 78=u,t 79=u,t 80=u,t 81=u,t 82=u,t 83=u,t 84=u,t 85=u,t 86=u,t 87=u,t 88=u,t 89=u,t 90=u,t 91=u,t 92=u,t 93=u,t 94=u,t 95=u,t 96=u,t 97=u,t 98=u,t 99=u,t 100=u,t 101=u,t 102=u,t 103=u,t 104=u,t 105=u,t 106=u,t 107=u,t 108=u,t 109=u,t 110=u,t 111=u,t 112=u,t 113=u,t 114=u,t 115=u,t 116=u,t 117=u,t 118=u,t 119=u,t 120=u,t 121=u,t 122=u,t 123=u,t 124=u,t 125=u,t 126=u,t 127=u,t 128=u,t 129=u,t 130=u,t 131=u,t 132=u,t 133=u,t 134=u,t 135=u,t 136=u,t 137=u,t 138=u,t 139=u,t 140=u,t 141=u,t 142=u,t 143=u,t 144=u,t 145=u,t 146=u,t 147=u,t 148=u,t 149=u,t 150=u,t 151=u,t 152=u,t 153=u,t 154=u,t 155=u,t 156=u,t 157=u,t 158=u,t 159=u,t 160=u,t 161=u,t 162=u,t 163=u,t 164=u,t 165=u,t 166=u,t 167=u,t 168=u,t 169=u,t 170=u,t 171=u,t 172=u,t 173=u,t 174=u,t 175=u,t 176=u,t 177=u,t 178=u,t 179=u,t 180=u,t 181=u,t 182=u,t 183=u,t 184=u,t 185=u,t 186=u,t 187=u,t 188=u,t 189=u,t 190=u,t 191=u,t 192=u,t 193=u,t 194=u,t 195=u,t 196=u,t 197=u,t 198=u,t 199=u,t 200=u,t 201=u,t 202=u,t 203=u,t 204=u,t 205=u,t 206=u,t 207=u,t 208=u,t 209=u,t 210=u
 clear t
 go_wp2
 go_loopw [23,199] (fun v i wr=>∃ k:Nat,i = .int .i64 k/\k<=c.length/\wr.ownsRow wo.heap.size 3 1 v ((List.range k).filter fun x=>s.inn.getD x false).length (Zex ((List.range k).filter fun x=>s.inn.getD x false))/\wo.grownBy wr none) (fun _ i _=>c.length - (intOf i).toNat)
 case atStart=>exact ⟨0,rfl,Nat.zero_le _,World.ownsRow_nil _ _ _ _,Zc _ _⟩
 case round =>
  obtain ⟨k,rfl,hk,hown,hg⟩:=hrel
  obtain ⟨pv,cv,hv⟩:=Zp hown
  subst hv
  have OV:=Hq hown
  have GV:=Hq hg
  by_cases hlt:(k:Int)<(c.length:Int)
  · have ci:=(Ypa HW.out k (by simp only [];omega)).1
    have ci2:=hg.cell ci (by simp)
    have hml:=List.length_filter_le (fun x=>s.inn.getD x false) (List.range k)
    rw [List.length_range] at hml
    have FR:=Hq (Zvl (fun x=>s.inn.getD x false) k)
    clear hown hg ci kw
    have ts:(Xr s).inn=s.inn:=rfl
    rw [ts] at ci2
    clear ts
    cases hb:s.inn.getD k false with
    | false =>
      rw [hb] at ci2
      have FR2:=FR.out
      rw [hb,if_neg (by decide)] at FR2
      have HQ:=Hq FR2
      clear FR FR2 hb
      generalize (List.range k).filter (fun x=>s.inn.getD x false)=M at *
      go_wp2
      refine ⟨⟨k+1,by go_num,by omega,?_,GV.out⟩,by simp [intOf];omega⟩
      rw [HQ.out]
      exact OV.out
    | true =>
      rw [hb] at ci2
      have FR2:=FR.out
      rw [hb,if_pos rfl] at FR2
      have HQ:=Hq FR2
      clear FR FR2 hb
      generalize (List.range k).filter (fun x=>s.inn.getD x false)=M at *
      have hc3:M.length+1<=maxLen:=by unfold maxLen;omega
      have hc4:(M.length+1)*8<=140737488355328:=by omega
      have hE:wo.heap.size<=(wr.alloc (.cells #[.int .i64 k] 3)).heap.size:=by have:=GV.out.size;simp;omega
      go_wp2_with (at_builtin;refine wpList_append_own_at _ rfl _ _ 32 rfl wo.heap.size 3 ii (.int .i64 0) 1 8 Zbv ii0 ii1 ii2 ii3 rfl (by decide) (.slice pv M.length cv) _ _ rfl (OV.out.alloc _) ⟨wr.heap.size,0,none⟩ 1 1 [.int .i64 k] rfl rfl (Zgl wr _ _) (Zcq _ _) hc3 hc4 hE ?_;intro v3 w6 hown3 hgr3 hnil3 hat3;obtain ⟨p3,k3,hv3⟩:=Zp hown3;subst hv3;have OW3:=Hq hown3;have GR3:=Hq hgr3;clear hown3 hgr3 hnil3 hat3)
      refine ⟨⟨k+1,by go_num,by omega,?_,Yw (Za GV.out (Ga _ _ none)) GR3.out fun q hq=>(OV.out.lt q hq).1⟩,by simp [intOf];omega⟩
      rw [HQ.out,List.length_append,Zhs]
      exact OW3.out
  · have hkn:k=c.length:=by omega
    subst hkn
    clear hown hg kw
    have gF:=Za HW.out.gr GV.out
    have hz:=HW.out.gr.size
    generalize hM:(List.range c.length).filter (fun x=>s.inn.getD x false)=M at *
    have HM:=Hq hM
    have GF:=Hq gF
    clear hM gF
    go_wp2
    go_ret
    exact ⟨_,M,rfl,GF.out,Zz OV.out hz,fun e=>Xcy (by omega) HI.out HS.out (Zyg (by rw [HM.out];exact e))⟩
structure WCh (n:Nat) (ix:List Nat) (D:List (Nat × Nat)) (ws:Nat->World) (l:Array Bool) (w:World):Prop where
 sz:l.size=n
 nd:ix.Nodup
 lt:∀ i∈ix,i<n
 at_:∃ m,m<=ix.length/\w=ws m/\(∀ j,j<m->l.getD (ix.getD j 0) false=true)/\∀ j,m<=j->j<ix.length->l.getD (ix.getD j 0) false=false
 x:∀ p∈D,l.getD p.1 false=true->l.getD p.2 false=true
section
variable {n:Nat} {ix:List Nat} {D:List (Nat × Nat)} {ws:Nat->World} {l:Array Bool} {w:World}
theorem Yer (n:Nat) {ix:List Nat} (D:List (Nat × Nat)) (ws:Nat->World) (hd:ix.Nodup) (hlt:∀ i∈ix,i<n):WCh n ix D ws (Array.replicate n false) (ws 0) :=
 ⟨by simp,hd,hlt,⟨0,Nat.zero_le _,rfl,fun j hj=>absurd hj (Nat.not_lt_zero _),fun j _ _=>getD_replicate_false _ _⟩,fun p _ h=>(by rw [getD_replicate_false] at h;cases h)⟩
theorem Yja {j:Nat} (h:j<ix.length):ix.getD j 0∈ix:=by
 rw [List.getD_eq_getElem?_getD,List.getElem?_eq_getElem h]
 exact List.getElem_mem h
theorem Xaq (hd:ix.Nodup) {i j:Nat} (hi:i<ix.length) (hj:j<ix.length) (h:ix.getD i 0=ix.getD j 0):i=j:=by
 rw [List.getD_eq_getElem?_getD,List.getElem?_eq_getElem hi,List.getD_eq_getElem?_getD,List.getElem?_eq_getElem hj] at h
 rcases Nat.lt_trichotomy i j with e|e|e
 · exact absurd h (List.pairwise_iff_getElem.1 hd i j hi hj e)
 · exact e
 · exact absurd h.symm (List.pairwise_iff_getElem.1 hd j i hj hi e)
theorem Zgy {i:Nat} (h:WCh n ix D ws l w) (hin:i<n) (hi:i ∉ ix) (hp:∀ p∈D,p.1=i->l.getD p.2 false=true):WCh n ix D ws (l.setIfInBounds i true) w:=by
 obtain ⟨m,h1,h2,h3,h4⟩:=h.at_
 have g:∀ j,j<ix.length->(l.setIfInBounds i true).getD (ix.getD j 0) false=l.getD (ix.getD j 0) false:=fun j hj=>by
  rw [Yd l i _ (by rw [h.sz];exact hin),if_neg (show ¬ ix.getD j 0=i by intro e;exact hi (by rw [<- e];exact Yja hj))]
 exact ⟨by simp [h.sz],h.nd,h.lt,⟨m,h1,h2,fun j hj=>by rw [g j (by omega)];exact h3 j hj,fun j hj hjl=>by rw [g j hjl];exact h4 j hj hjl⟩,Yma h.sz hin h.x hp⟩
theorem Zor {k:Nat} (h:WCh n ix D ws l w) (hk:k<ix.length) (hun:l.getD (ix.getD k 0) false=false):∃ m,m<=k/\w=ws m:=by
 obtain ⟨m,h1,h2,h3,h4⟩:=h.at_
 refine ⟨m,?_,h2⟩
 rcases Nat.lt_or_ge k m with e|e
 · rw [h3 k e] at hun;cases hun
 · exact e
theorem Zjs {k:Nat} (h:WCh n ix D ws l w) (hk:k<ix.length) (hun:l.getD (ix.getD k 0) false=false) (hp:k=0\/l.getD (ix.getD (k - 1) 0) false=true):w=ws k:=by
 obtain ⟨m,h1,h2⟩:=Zor h hk hun
 rcases hp with hp|hp
 · have:m=k:=by omega
   rw [h2,this]
 · obtain ⟨m',h3,h4,h5⟩:=h.at_
   have:m'=k:=by
    rcases Nat.lt_trichotomy m' k with e|e|e
    · rw [h5.2 (k - 1) (by omega) (by omega)] at hp;cases hp
    · exact e
    · rw [h5.1 k e] at hun;cases hun
   rw [h4,this]
theorem Zlg {k i:Nat} (h:WCh n ix D ws l w) (hi:ix.getD k 0=i) (hk:k<ix.length) (hun:l.getD i false=false) (hp:k=0\/l.getD (ix.getD (k - 1) 0) false=true) (hq:∀ p∈D,p.1=i->l.getD p.2 false=true):WCh n ix D ws (l.setIfInBounds i true) (ws (k+1)):=by
 subst hi
 have hin:=h.lt _ (Yja hk)
 obtain ⟨m,h3,h4,h5,h6⟩:=h.at_
 have hm:m=k:=by
  rcases Nat.lt_trichotomy m k with e|e|e
  · rcases hp with hp|hp
    · omega
    · rw [h6 (k - 1) (by omega) (by omega)] at hp;cases hp
  · exact e
  · rw [h5 k e] at hun;cases hun
 subst hm
 have g:∀ j,j<ix.length->(l.setIfInBounds (ix.getD m 0) true).getD (ix.getD j 0) false=if j=m then true else l.getD (ix.getD j 0) false:=fun j hj=>by
  rw [Yd l _ _ (by rw [h.sz];exact hin)]
  by_cases e:j=m
  · subst e;rw [if_pos rfl,if_pos rfl]
  · rw [if_neg (fun e2=>e (Xaq h.nd hj hk e2)),if_neg e]
 refine ⟨by simp [h.sz],h.nd,h.lt,⟨m+1,hk,rfl,fun j hj => ?_,fun j hj hjl => ?_⟩,Yma h.sz hin h.x hq⟩
 · rw [g j (by omega)]
   split
   · rfl
   · exact h5 j (by omega)
 · rw [g j hjl,if_neg (by omega)]
   exact h6 j (by omega) hjl
theorem Ysn (h:WCh n ix D ws l w) (hl:∀ j,j<n->l.getD j false=true):w=ws ix.length:=by
 obtain ⟨m,h1,h2,h3,h4⟩:=h.at_
 rcases Nat.lt_or_ge m ix.length with e|e
 · have:=h4 m (Nat.le_refl _) e
   rw [hl _ (h.lt _ (Yja e))] at this
   cases this
 · rw [h2,show m=ix.length by omega]
theorem Ymg {ws':Nat->World} (h:WCh n ix D ws l w) (hk:0<ix.length) (hun:l.getD (ix.getD 0 0) false=false) (he:ws' 0=ws 0):WCh n ix D ws' l w:=by
 obtain ⟨m,h1,h2,h3,h4⟩:=h.at_
 have hm:m=0:=by
  rcases Nat.eq_zero_or_pos m with e|e
  · exact e
  · rw [h3 0 e] at hun;cases hun
 subst hm
 exact ⟨h.sz,h.nd,h.lt,⟨0,h1,by rw [he];exact h2,h3,h4⟩,h.x⟩
theorem Zte {k i:Nat} (h:WCh n ix D ws l w) (hp:(k,i)∈D) (hun:l.getD i false=false):l.getD k false=false:=by
 rcases Bool.eq_false_or_eq_true (l.getD k false) with e|e
 · have:=h.x (k,i) hp e;rw [hun] at this;cases this
 · exact e
end
open Go.Maps
def rq:Nat->Nat
 | 0=>72
 | 1=>73
 | 2=>74
 | 3=>75
 | 4=>76
 | 5=>77
 | 6=>78
 | 7=>79
 | 8=>80
 | 9=>1009
 | _=>5000
theorem Zog:∀ i,i<10->∀ j,j<10->j≠i->rq j≠rq i:=by decide
theorem Yyk (i:Nat) (h:i<10):i=0\/i=1\/i=2\/i=3\/i=4\/i=5\/i=6\/i=7\/i=8\/i=9:=by omega
theorem Ztw (j:Nat) (hj:j∈[1,6,7,8]):∀ i,i<10->rq i≠j:=by revert j;decide
def rqv (bx f gh n nf cF:Nat) (mem:Int) (vd:Value) (pF:Option Addr) (vL lvv v7:Value) (N6:Nat):Nat->Value
 | 0 => .pointer (some ⟨bx,2,none⟩)
 | 1=>vL
 | 2 => .agg #[.int .i64 mem,vd,.slice pF nf cF]
 | 3 => .int .i64 f
 | 4 => .slice (some ⟨gh,0,none⟩) n n
 | 5=>lvv
 | 6 => .slice (some ⟨N6,0,none⟩) 1 1
 | 7=>v7
 | 8 => .pointer (some ⟨bx,2,none⟩)
 | 9=>undef
 | _=>undef
theorem Xdj {bx f gh n nf cF:Nat} {mem:Int} {vd:Value} {pF:Option Addr} {vL lvv v7 lvv' v7':Value} {N6 N6':Nat} (l:Array Bool) (h5:l.getD 5 false=false) (h6:l.getD 6 false=false) (h7:l.getD 7 false=false) :
 ∀ i,i<10->l.getD i false=true->rq i<90->rqv bx f gh n nf cF mem vd pF vL lvv' v7' N6' i=rqv bx f gh n nf cF mem vd pF vL lvv v7 N6 i:=by
 intro i hi hl _
 rcases Yyk i hi with rfl|rfl|rfl|rfl|rfl|rfl|rfl|rfl|rfl|rfl <;> first|rfl|(rw [h5] at hl;cases hl)|(rw [h6] at hl;cases hl)|(rw [h7] at hl;cases hl)
theorem Yan:Try.prog.underlying 31=some (.slice 32):=by kernel_rfl
theorem Zuz:(Try.prog.info? 32).map (fun i=>(i.zero,i.size,i.bytes))=some (some (.slice none 0 0),1,24):=by kernel_rfl
theorem Yvu (w:World) (p:Option Addr) (n c:Nat):(Instr.buildSlice 31 1 #[(0,.slice p n c)]).run Try.prog w = .ok (.slice (some ⟨w.heap.size,0,none⟩) 1 1) (w.alloc (.cells #[.slice p n c] 32)):=by kernel_rfl
structure RkF (W:World) (B bx k:Nat) (code:List (Int × Int)) (h:List Int) (vL:Value) (xs:List Value) (lvv v7:Value) (N6:Nat) (ws:Nat->World):Prop where
 lp:Xf W code h (.returned lvv) (ws 1)
 bs:(Instr.buildSlice 31 1 #[(0,lvv)]).run Try.prog (ws 1) = .ok (.slice (some ⟨N6,0,none⟩) 1 1) (ws 2)
 ap:(Builtin.append_ #[31,31] 31 #[vL,.slice (some ⟨N6,0,none⟩) 1 1]).run Try.prog (ws 2) = .ok v7 (ws 3)
 own:(ws 3).ownsRow B 32 1 v7 (k+1) (xs++[lvv])
 gr:W.grownBy (ws 3) vL.ownBlock
 loc:v7.ownBlock=vL.ownBlock\/∃ g,v7.ownBlock=some g/\W.heap.size<=g
 c3:(ws 3).cell? ⟨bx,2,none⟩=some vL
 z3:(ws 3).frozen? ⟨bx,2,none⟩=false
 c1:(ws 1).cell? ⟨bx,2,none⟩=some vL
 c2:(ws 2).cell? ⟨bx,2,none⟩=some vL
 e4:ws 4=(ws 3).setCell ⟨bx,2,none⟩ v7
theorem Ytw {W w2:World} {code:List (Int × Int)} {h:List Int} {e:Ending} (he:Xf W code h e w2):∃ lv,e = .returned lv/\Xf W code h (.returned lv) w2:=by
 obtain ⟨v,L,rfl,r⟩:=he
 exact ⟨v,rfl,v,L,rfl,r⟩
theorem Ync {W w2:World} {B bx k:Nat} {code:List (Int × Int)} {h:List Int} {vH vT vL lv:Value} {xs:List Value} (hx:Xf W code h (.returned lv) w2) (xb:W.heap[bx]? = some (.cells #[vH,vT,vL,.slice none 0 0,.int .i64 0,.int .i64 0] 35 (0,0))) (hbx:bx<W.heap.size) (hB:bx<B/\B<=W.heap.size)
 (oL:W.ownsRow B 32 1 vL k xs) (hkn:k<=64):∃ (v7:Value) (N6:Nat) (ws:Nat->World),ws 0=W/\ws 1=w2/\RkF W B bx k code h vL xs lv v7 N6 ws:=by
 obtain ⟨v,L,e,g,o,hL⟩:=hx
 injection e with e
 subst e
 obtain ⟨p,c,hv⟩:=Zp o
 subst hv
 obtain ⟨ii,ii0,ii1,ii2,ii3⟩:=info_parts Zuz
 have gA:=Ga w2 (.cells #[.slice p L.length c] 32) none
 have sz:=g.size
 obtain ⟨v7,w3,hap,hown,hgr,_,hloc⟩:=run_append_own_at (P:=Try.prog) (w:=w2.alloc (.cells #[.slice p L.length c] 32)) B 31 31 32 ii (.slice none 0 0) 1 24 Yan ii0 ii1 ii2 ii3 rfl (by decide) vL k xs (oL.kept (Za g gA) (Classical.em _)) ⟨w2.heap.size,0,none⟩ 1 1 [.slice p L.length c] rfl (Zgl w2 _ _) (Zun _ _ _) (by unfold maxLen;omega) (by omega) (by simp;omega)
 have nb:vL.ownBlock≠some bx:=Zfb oL hB.1
 have x1:=Zb xb g (by simp)
 have x2:=Zb x1 gA (by simp)
 have x3:=Zb x2 hgr nb
 refine ⟨v7,w2.heap.size,fun m=>match m with|0=>W|1=>w2|2=>w2.alloc (.cells #[.slice p L.length c] 32)|3=>w3|_=>w3.setCell ⟨bx,2,none⟩ v7,rfl,rfl,⟨⟨_,L,rfl,g,o,hL⟩,Yvu _ _ _ _,hap,hown,?_,?_,Cq _ _ 2 _ _ _ x3,frozen_of_row _ _ 2 _ _ x3,Cq _ _ 2 _ _ _ x1,Cq _ _ 2 _ _ _ x2,rfl⟩⟩
 · exact Za (Zfu (Za g gA)) hgr
 · rcases hloc with h|h
   · exact Or.inl h
   · exact Or.inr ⟨_,h,by simp;omega⟩
theorem Zbd {l:Array Bool} {i j:Nat} (e:(l.setIfInBounds i true).getD j false=true) (h:j≠i):l.getD j false=true:=by
 by_cases hi:i<l.size
 · rw [Yd l i j hi,if_neg h] at e;exact e
 · rw [Array.setIfInBounds_eq_of_size_le (by omega)] at e;exact e
theorem Xdk {W w':World} {B bx k:Nat} {code:List (Int × Int)} {h:List Int} {vH vT vL lvv v7:Value} {xs:List Value} {N6:Nat} {ws:Nat->World} {l:Array Bool} (hW:WCh 10 [5,6,7,9] [(7,1),(5,2),(6,5),(7,6),(9,7)] ws l w') (h7:l.getD 7 false=false) (hs0:ws 0=W) (hF:l.getD 5 false=true->RkF W B bx k code h vL xs lvv v7 N6 ws)
 (xb:W.heap[bx]? = some (.cells #[vH,vT,vL,.slice none 0 0,.int .i64 0,.int .i64 0] 35 (0,0))):w'.cell? ⟨bx,2,none⟩=some vL:=by
 have c0:=Cq _ _ 2 _ _ _ xb
 rcases Bool.eq_false_or_eq_true (l.getD 5 false) with e|e
 · have hf:=hF e
   obtain ⟨m,hm,rfl⟩:=Zor hW (k:=2) (by decide) h7
   rcases (by omega:m=0\/m=1\/m=2) with rfl|rfl|rfl
   · rw [hs0];exact c0
   · exact hf.c1
   · exact hf.c2
 · rw [Zjs hW (k:=0) (by decide) e (Or.inl rfl),hs0];exact c0
theorem Xci {l:Array Bool} (h:l.getD 2 false=true):∀ p∈([(7,1),(5,2),(6,5),(7,6),(9,7)]:List (Nat × Nat)),p.1=5->l.getD p.2 false=true:=by
 intro p hp e
 simp only [List.mem_cons,List.not_mem_nil,or_false] at hp
 rcases hp with rfl|rfl|rfl|rfl|rfl <;> simp only [] at e ⊢ <;> first|exact h|omega
theorem Xch {l:Array Bool} (h:l.getD 5 false=true):∀ p∈([(7,1),(5,2),(6,5),(7,6),(9,7)]:List (Nat × Nat)),p.1=6->l.getD p.2 false=true:=by
 intro p hp e
 simp only [List.mem_cons,List.not_mem_nil,or_false] at hp
 rcases hp with rfl|rfl|rfl|rfl|rfl <;> simp only [] at e ⊢ <;> first|exact h|omega
theorem Xcg {l:Array Bool} (h1:l.getD 1 false=true) (h6:l.getD 6 false=true):∀ p∈([(7,1),(5,2),(6,5),(7,6),(9,7)]:List (Nat × Nat)),p.1=7->l.getD p.2 false=true:=by
 intro p hp e
 simp only [List.mem_cons,List.not_mem_nil,or_false] at hp
 rcases hp with rfl|rfl|rfl|rfl|rfl <;> simp only [] at e ⊢ <;> first|exact h1|exact h6|omega
theorem Xcf {l:Array Bool} (h:l.getD 7 false=true):∀ p∈([(7,1),(5,2),(6,5),(7,6),(9,7)]:List (Nat × Nat)),p.1=9->l.getD p.2 false=true:=by
 intro p hp e
 simp only [List.mem_cons,List.not_mem_nil,or_false] at hp
 rcases hp with rfl|rfl|rfl|rfl|rfl <;> simp only [] at e ⊢ <;> first|exact h|omega
theorem Ymv (W0:World) (B bx bp k f gh n nf cF:Nat) (mem:Int) (vd vH vT vL:Value) (pF:Option Addr) (code:List (Int × Int)) (h:List Int) (xs:List Value) (CA:Calls Try.prog 25 #[.agg #[.int .i64 mem,vd,.slice pF nf cF],.int .i64 f,.slice (some ⟨gh,0,none⟩) n n] W0.drew (Xf W0.drew code h))
 (xb:W0.heap[bx]? = some (.cells #[vH,vT,vL,.slice none 0 0,.int .i64 0,.int .i64 0] 35 (0,0))) (pb:Yej W0 bp mem vd (.slice pF nf cF)) (hB:bx<B/\B<=W0.heap.size) (oL:W0.ownsRow B 32 1 vL k xs) (hkn:k<=64)
 (a:Act) (hs:a.tmps.size=90) (a1':a.tmps.getD 1 undef = .pointer (some ⟨bp,0,none⟩)) (a6':a.tmps.getD 6 undef = .pointer (some ⟨bx,0,none⟩)) (a7':a.tmps.getD 7 undef = .int .i64 f) (a8':a.tmps.getD 8 undef = .slice (some ⟨gh,0,none⟩) n n) (Q:Exit->Act->World->Prop)
 (hQ:∀ (lvv v7:Value) (N6:Nat) (ws:Nat->World),RkF W0.drew B bx k code h vL xs lvv v7 N6 ws->Q .normal (Zay a rq (rqv bx f gh n nf cF mem vd pF vL lvv v7 N6) 10) (ws 4)) :
 Code.wp Try.prog (Ycl Try.f9 18) Q a W0:=by
 have p0:=Cq W0.drew _ 0 _ _ _ pb
 have p1:=Cq W0.drew _ 1 _ _ _ pb
 have p2:=Cq W0.drew _ 2 _ _ _ pb
 have xb:W0.drew.heap[bx]? = some (.cells #[vH,vT,vL,.slice none 0 0,.int .i64 0,.int .i64 0] 35 (0,0)):=xb
 have hbx:bx<W0.drew.heap.size:=(Gs xb)
 have hB:bx<B/\B<=W0.drew.heap.size:=hB
 have oL:W0.drew.ownsRow B 32 1 vL k xs:=oL.kept (Ze (Zc W0 none)) (Classical.em _)
 have hW0:W0.drew=W0.drew:=rfl
 generalize hWd:W0.drew=W at *
 conv=>arg 2;whnf
 refine Je (n:=10) (J:=fun a0 l a1 w1=>∃ (lvv v7:Value) (N6:Nat) (ws:Nat->World),RJ a0 90 10 rq (rqv bx f gh n nf cF mem vd pF vL lvv v7 N6) l a1/\WCh 10 [5,6,7,9] [(7,1),(5,2),(6,5),(7,6),(9,7)] ws l w1/\ws 0=W/\(l.getD 5 false=true->RkF W B bx k code h vL xs lvv v7 N6 ws)) (by kernel_rfl) rfl (Zai (by kernel_rfl)) (fun l a1 w1 h=>by obtain ⟨_,_,_,_,_,h,_⟩:=h;exact h.sz)
  ⟨undef,undef,0,fun _=>W,Jd hs,by rw [hWd];exact Yer 10 _ (fun _=>W) (by decide) (by decide),rfl,fun e=>by rw [getD_replicate_false] at e;cases e⟩ ?step ?fin
 case step =>
  intro l a1 w' i hJJ hi hin
  obtain ⟨lvv,v7,N6,ws,hJ,hW,hs0,hF⟩:=hJJ
  have hun:l.getD i false=false:=getD_both (mem_ready.1 hi).1
  rcases Yyk i hin with rfl|rfl|rfl|rfl|rfl|rfl|rfl|rfl|rfl|rfl
  · have e6:a1.tmps.getD 6 undef = .pointer (some ⟨bx,0,none⟩):=(hJ.un 6 (fun i hi _=>Ztw 6 (by decide) i hi)).trans a6'
    exact Zj (Zo hW hJ rfl (by rfl) rfl (by decide) (by decide) (Zog _ (by decide)) (w':=w') (by simp [execOp,resolve,invoke,builtin,Act.eval,e6,go_sem,rqv]) (Zgy hW (by decide) (by decide) (Zy (by decide)))) (fun a9 w9 h9=>⟨lvv,v7,N6,ws,h9.1,h9.2,hs0,fun e=>hF (Zbd e (by decide))⟩)
  · have e72:a1.tmps.getD 72 undef = .pointer (some ⟨bx,2,none⟩):=(Zu hJ hi 0 (by kernel_rfl))
    have h0:=Xdk hW (Zte hW (by decide) hun) hs0 hF xb
    exact Zj (Zo hW hJ rfl (by rfl) rfl (by decide) (by decide) (Zog _ (by decide)) (w':=w') (by simp [execOp,Act.eval,e72,h0,go_sem,rqv]) (Zgy hW (by decide) (by decide) (Zy (by decide)))) (fun a9 w9 h9=>⟨lvv,v7,N6,ws,h9.1,h9.2,hs0,fun e=>hF (Zbd e (by decide))⟩)
  · have e1:a1.tmps.getD 1 undef = .pointer (some ⟨bp,0,none⟩):=(hJ.un 1 (fun i hi _=>Ztw 1 (by decide) i hi)).trans a1'
    have hw:=Zjs hW (k:=0) (by decide) (Zte hW (by decide) hun) (Or.inl rfl)
    rw [hs0] at hw
    exact Zj (Zo hW hJ rfl (by rfl) rfl (by decide) (by decide) (Zog _ (by decide)) (w':=w') (by rw [hw];simp [execOp,Act.eval,e1,p0,p1,p2,go_sem,rqv]) (Zgy hW (by decide) (by decide) (Zy (by decide)))) (fun a9 w9 h9=>⟨lvv,v7,N6,ws,h9.1,h9.2,hs0,fun e=>hF (Zbd e (by decide))⟩)
  · have e7:a1.tmps.getD 7 undef = .int .i64 f:=(hJ.un 7 (fun i hi _=>Ztw 7 (by decide) i hi)).trans a7'
    exact Zj (Zo hW hJ rfl (by rfl) rfl (by decide) (by decide) (Zog _ (by decide)) (w':=w') (by simp [execOp,resolve,invoke,builtin,Act.eval,e7,go_sem,rqv]) (Zgy hW (by decide) (by decide) (Zy (by decide)))) (fun a9 w9 h9=>⟨lvv,v7,N6,ws,h9.1,h9.2,hs0,fun e=>hF (Zbd e (by decide))⟩)
  · have e8:a1.tmps.getD 8 undef = .slice (some ⟨gh,0,none⟩) n n:=(hJ.un 8 (fun i hi _=>Ztw 8 (by decide) i hi)).trans a8'
    exact Zj (Zo hW hJ rfl (by rfl) rfl (by decide) (by decide) (Zog _ (by decide)) (w':=w') (by simp [execOp,resolve,invoke,builtin,Act.eval,e8,go_sem,rqv]) (Zgy hW (by decide) (by decide) (Zy (by decide)))) (fun a9 w9 h9=>⟨lvv,v7,N6,ws,h9.1,h9.2,hs0,fun e=>hF (Zbd e (by decide))⟩)
  · have e74:a1.tmps.getD 74 undef = .agg #[.int .i64 mem,vd,.slice pF nf cF]:=(Zu hJ hi 2 (by kernel_rfl))
    have e75:a1.tmps.getD 75 undef = .int .i64 f:=(Zu hJ hi 3 (by kernel_rfl))
    have e76:a1.tmps.getD 76 undef = .slice (some ⟨gh,0,none⟩) n n:=(Zu hJ hi 4 (by kernel_rfl))
    have l2:l.getD 2 false=true:=Zl hi 2 (by kernel_rfl)
    have hw:=Zjs hW (k:=0) (by decide) hun (Or.inl rfl)
    rw [hs0] at hw
    rw [hw]
    refine Jb rfl (by rfl) (by simp [execOp,resolve,invoke,Act.eval,e74,e75,e76,go_sem]) (CA.mono fun e w2 he => ?_)
    obtain ⟨lv,rfl,hx⟩:=Ytw he
    obtain ⟨v7',N6',ws',hs0',hs1',hF'⟩:=Ync hx xb hbx hB oL hkn
    subst hs1'
    exact ⟨lv,rfl,lv,v7',N6',ws',Zch (val:=rqv bx f gh n nf cF mem vd pF vL lv v7' N6') (Zbe hJ (Xdj l hun (Zte hW (by decide) hun) (Zte hW (k:=7) (i:=6) (by decide) (Zte hW (k:=6) (i:=5) (by decide) hun)))) (by decide) (by decide) (Zog _ (by decide)),Zlg (Ymg hW (by decide) hun (hs0'.trans hs0.symm)) rfl (by decide) hun (Or.inl rfl) (Xci l2),hs0',fun _=>hF'⟩
  · have e77:a1.tmps.getD 77 undef=lvv:=(Zu hJ hi 5 (by kernel_rfl))
    have f77:=e77
    rw [Array.getD_eq_getD_getElem?] at f77
    have l5:l.getD 5 false=true:=Zl hi 5 (by kernel_rfl)
    have hFF:=hF l5
    have hw:=Zjs hW (k:=1) (by decide) hun (Or.inr l5)
    exact Zj (Zo hW hJ rfl (by rfl) rfl (by decide) (by decide) (Zog _ (by decide)) (w':=ws 2) (by rw [hw];simp [execOp,Act.eval,e77,f77,hFF.bs,Result.andThen,rqv]) (Zlg hW rfl (by decide) hun (Or.inr l5) (Xch l5))) (fun a9 w9 h9=>⟨lvv,v7,N6,ws,h9.1,h9.2,hs0,fun e=>hF (Zbd e (by decide))⟩)
  · have e73:a1.tmps.getD 73 undef=vL:=(Zu hJ hi 1 (by kernel_rfl))
    have e78:a1.tmps.getD 78 undef = .slice (some ⟨N6,0,none⟩) 1 1:=(Zu hJ hi 6 (by kernel_rfl))
    have l6:l.getD 6 false=true:=Zl hi 6 (by kernel_rfl)
    have l1:l.getD 1 false=true:=Zl hi 1 (by kernel_rfl)
    have hFF:=hF (hW.x (6,5) (by decide) l6)
    have hw:=Zjs hW (k:=2) (by decide) hun (Or.inr l6)
    exact Zj (Zo hW hJ rfl (by rfl) rfl (by decide) (by decide) (Zog _ (by decide)) (w':=ws 3) (by rw [hw];simp [execOp,resolve,invoke,builtin,Act.eval,e73,e78,hFF.ap,Result.andThen,rqv]) (Zlg hW rfl (by decide) hun (Or.inr l6) (Xcg l1 l6))) (fun a9 w9 h9=>⟨lvv,v7,N6,ws,h9.1,h9.2,hs0,fun e=>hF (Zbd e (by decide))⟩)
  · have e6:a1.tmps.getD 6 undef = .pointer (some ⟨bx,0,none⟩):=(hJ.un 6 (fun i hi _=>Ztw 6 (by decide) i hi)).trans a6'
    exact Zj (Zo hW hJ rfl (by rfl) rfl (by decide) (by decide) (Zog _ (by decide)) (w':=w') (by simp [execOp,resolve,invoke,builtin,Act.eval,e6,go_sem,rqv]) (Zgy hW (by decide) (by decide) (Zy (by decide)))) (fun a9 w9 h9=>⟨lvv,v7,N6,ws,h9.1,h9.2,hs0,fun e=>hF (Zbd e (by decide))⟩)
  · have e80:a1.tmps.getD 80 undef = .pointer (some ⟨bx,2,none⟩):=(Zu hJ hi 8 (by kernel_rfl))
    have e79:a1.tmps.getD 79 undef=v7:=(Zu hJ hi 7 (by kernel_rfl))
    have l7:l.getD 7 false=true:=Zl hi 7 (by kernel_rfl)
    have hFF:=hF (hW.x (6,5) (by decide) (hW.x (7,6) (by decide) l7))
    have hw:=Zjs hW (k:=3) (by decide) hun (Or.inr l7)
    have k2:=hFF.c3
    have z2:=hFF.z3
    have e4:=hFF.e4
    obtain ⟨p7,c7,hv7⟩:=Zp hFF.own
    rw [hv7] at e79 e4
    exact Zj (Zdn hW hJ rfl rfl rfl (by decide) (by decide) (w':=ws 4) (by rw [hw,e4];simp [execOp,Act.eval,e79,e80,k2,z2,go_sem]) (Zlg hW rfl (by decide) hun (Or.inr l7) (Xcf l7))) (fun a9 w9 h9=>⟨lvv,v7,N6,ws,h9.1,h9.2,hs0,fun e=>hF (Zbd e (by decide))⟩)
 intro l a1 w9 hJJ hl
 obtain ⟨lvv,v7,N6,ws,hJ,hW,hs0,hF⟩:=hJJ
 have hput:=Zag hJ hs hl (fun i j h1 h2 h3=>Zog j h2 i h1 h3)
 subst hput
 rw [Ysn hW hl]
 exact hQ lvv v7 N6 ws (hF (hl 5 (by decide)))
end Go.Proofs.Ythlkflagancdfaa.CK
