/-
  Part of a proof: contracts of functions and lemmas, each stated by its own theorem. Conditions: as each theorem states.
-/
import Derived.Test.YthlkflagancdfaaMK23
set_option linter.unusedSimpArgs false
set_option linter.unusedVariables false
set_option maxRecDepth 100000
set_option maxHeartbeats 16000000
namespace Go.Proofs.Ythlkflagancdfaa.CK
open Go.RowKit Go.Great
theorem Yif {w wr:World} {B:Nat} {fs:List FnP} {pF:Option Addr} {cF f:Nat} {ar lo r:Int} {c:List (Int × Int)} {gh:Nat} {h:List Int} {mem:Int} {pd:Option Addr} {nd cd R k:Nat} {A:LA} {vr vw:Value} {s:TS} {f1:Fr} {r1:List Fr} (Kx:Act->World->Prop) (t:Nat->Value) (E:Yls w B fs pF f ar lo r c gh h)
 (hk:k=Jp c.length (nxL c h) s) (hI:Zlt c.length (nxL c h) s) (hm:4*s.met+Zac c.length s.num<=4*c.length) (hW:LpW w R A ⟨mem,.slice pd nd cd,.slice pF fs.length cF,f,.slice (some ⟨gh,0,none⟩) c.length c.length,c.length⟩ vr vw (Xr s) wr) (hS:s.S=f1::r1) {m:Nat} (hM:(nxL c h f1.at_)[f1.done]? = some m) (h0:s.num.getD m 0≠0) (hon:s.on.getD m false=true) (hmf:m=f1.at_) :
 Code.wp Try.prog Zgo (Exit.then (LNext w R A ⟨mem,.slice pd nd cd,.slice pF fs.length cF,f,.slice (some ⟨gh,0,none⟩) c.length c.length,c.length⟩ c h k) (Exit.inBlock 0 (Exit.then Kx (bodyPost Try.prog Try.f25 (Xf w c h))))) (lpF A c.length t) wr:=by
 have HMF:=Hq hmf
 clear hmf
 obtain ⟨gw,cw,hv⟩:=Zht hW hS
 subst hv
 have hfr:f1.at_∈Xs s.S:=by rw [hS];simp [Xs]
 have hfm:f1.at_<c.length:=hI.lt _ hfr
 obtain ⟨L,hL2,hLl,hLe,NX'⟩:=Zxw E hW hfm
 have NX:=Hq NX'
 have hrb:=Zcf hI
 have hrl:r1.length<4096:=by
  have h1:=E.l2
  have h2:=hrb.2
  rw [hS] at h2
  simp only [List.length_cons] at h2 ⊢
  omega
 have kw:=Zw hW.bw
 obtain ⟨-,hx0,hx1,hxz,sgw⟩:=Ycv hW hS
 have sgw7:∀ w7:World,wr.grownBy w7 none->gw<w7.heap.size:=fun w7 g=>Nat.lt_of_lt_of_le sgw g.size
 have HW:=Hq hW
 have HI:=Hq hI
 have HS:=Hq hS
 have HK:=Hq hk
 have HM:=Hq hm
 have EE:=Hq E
 have hwl:(Xr s).way.length=r1.length+1:=(Xx hS).2.1
 have hLm:=hLe _ _ hM
 have hlt:(f1.done:Int)<(L.length:Int):=by have:=(List.getElem?_eq_some_iff.1 hLm).1;omega
 have hLv:(L.map (Value.int .i64))[f1.done]? = some (.int .i64 m):=by rw [List.getElem?_map,hLm];rfl
 have HLV:=Hq hLv
 have hL0:0<L.length:=by omega
 have hL1:f1.done<L.length*1:=by omega
 have HMM:=Hq hM
 have HWL:=Hq hwl
 clear hW hI hS hk hm E hLm hLv hLe hrb NX' hM hLl hwl hfr
 unfold lpF
 generalize t 0=u,t 1=u,t 2=u,t 3=u,t 4=u,t 5=u,t 6=u,t 16=u,t 17=u,t 18=u,t 19=u,t 20=u,t 21=u,t 22=u,t 23=u,t 24=u,t 25=u,t 26=u,t 27=u,t 28=u,t 29=u,t 30=u,t 31=u,t 32=u,t 33=u,t 34=u,t 35=u,t 36=u,t 37=u,t 38=u,t 39=u,t 40=u,t 41=u,t 42=u,t 43=u,t 44=u,t 45=u,t 46=u,t 47=u,t 48=u,t 49=u,t 50=u,t 51=u,t 52=u,t 53=u,t 54=u,t 55=u,t 56=u,t 57=u,t 58=u,t 59=u,t 60=u,t 61=u,t 62=u,t 63=u,t 64=u,t 65=u,t 66=u,t 67=u,t 68=u,t 69=u,t 70=u,t 71=u,t 72=u,t 73=u,t 74=u,t 75=u,t 76=u,t 77=u,t 78=u,t 79=u,t 80=u,t 81=u,t 82=u,t 83=u,t 84=u,t 85=u,t 86=u,t 87=u,t 88=u,t 89=u,t 90=u,t 91=u,t 92=u,t 93=u,t 94=u,t 95=u,t 96=u,t 97=u,t 98=u,t 99=u,t 100=u,t 101=u,t 102=u,t 103=u,t 104=u,t 105=u,t 106=u,t 107=u,t 108=u,t 109=u,t 110=u,t 111=u,t 112=u,t 113=u,t 114=u,t 115=u,t 116=u,t 117=u,t 118=u,t 119=u,t 120=u,t 121=u,t 122=u,t 123=u,t 124=u,t 125=u,t 126=u,t 127=u,t 128=u,t 129=u,t 130=u,t 131=u,t 132=u,t 133=u,t 134=u,t 135=u,t 136=u,t 137=u,t 138=u,t 139=u,t 140=u,t 141=u,t 142=u,t 143=u,t 144=u,t 145=u,t 146=u,t 147=u,t 148=u,t 149=u,t 150=u,t 151=u,t 152=u,t 153=u,t 154=u,t 155=u,t 156=u,t 157=u,t 158=u,t 159=u,t 160=u,t 161=u,t 162=u,t 163=u,t 164=u,t 165=u,t 166=u,t 167=u,t 168=u,t 169=u,t 170=u,t 171=u,t 172=u,t 173=u,t 174=u,t 175=u,t 176=u,t 177=u,t 178=u,t 179=u,t 180=u,t 181=u,t 182=u,t 183=u,t 184=u,t 185=u,t 186=u,t 187=u,t 188=u,t 189=u,t 190=u,t 191=u,t 192=u,t 193=u,t 194=u,t 195=u,t 196=u,t 197=u,t 198=u,t 199=u,t 200=u,t 201=u,t 202=u,t 203=u,t 204=u,t 205=u,t 206=u,t 207=u,t 208=u,t 209=u,t 210=u
 clear t
 conv=>arg 2;whnf
 go_upto_region 18 with (first
  | (go_at_call 40;refine NX.out.mono ?_;rintro e w7 ⟨v7,rfl,hg7,ho7⟩;obtain ⟨p7,k7,hv7,hp7,hc7⟩:=Zx ho7 hL0;subst hv7;have H7:=Hq (Xg HW.out hg7);have y0:=hg7.cell hx0 (by simp);have y1:=hg7.cell hx1 (by simp);have z1:=Ye (Xg HW.out hg7).rw_ (r1.length*2+1);have sgw8:=sgw7 w7 hg7;have e7:=hc7 f1.done (.int .i64 m) HLV.out hL1;clear hx0 hx1 hxz sgw kw hg7 ho7 hc7))
 have hd1:(f1.done:Int)+1=((f1.done+1:Nat):Int):=by omega
 rw [hd1]
 obtain ⟨s1,hs1⟩:∃ s1,s1={ s with S:=⟨f1.at_,f1.done+1,f1.ex⟩::r1 }:=⟨_,rfl⟩
 have H8:=Zrs H7.out ((f1.done+1:Nat):Int) (by rw [HWL.out]) (Xx HS.out).2.2
 rw [Zrr HS.out,<- hs1] at H8
 have hS1:s1.S=⟨f1.at_,f1.done+1,f1.ex⟩::r1:=by rw [hs1]
 clear y0 y1 z1 hd1 H7 sgw8 e7
 generalize w7.setCell ⟨gw,r1.length*2+1,none⟩ (.int .i64 ((f1.done+1:Nat):Int))=w8 at H8 ⊢
 have hmn:m<c.length:=Zkn f1.at_ m (List.mem_of_getElem? HMM.out)
 obtain ⟨-,x0,x1,xz,xs⟩:=Ycv H8 hS1
 simp only [] at x0 x1
 have bn8:=Zw H8.bn
 have bo8:=Zw H8.bo
 have bb8:=Zw H8.bb
 obtain ⟨cn8,zn8⟩:=Zux H8 m hmn
 obtain ⟨co8,zo8⟩:=Ycw H8 m hmn
 have sn8:=World.block_lt_of_cell? _ _ cn8
 have so8:=World.block_lt_of_cell? _ _ co8
 have tn:(Xr s1).num=s.num:=by rw [hs1];rfl
 have to:(Xr s1).on=s.on:=by rw [hs1];rfl
 have tb:(Xr s1).back=s.back:=by rw [hs1];rfl
 rw [tn] at cn8
 rw [to] at co8
 have hmi:(m:Int)<(c.length:Int):=by omega
 have HH8:=Hq H8
 have HS1:=Hq hs1
 have hfr:f1.at_∈Xs s.S:=by rw [HS.out];simp [Xs]
 have hfn:=HI.out.num _ hfr
 have hb1:((s.num.getD m 0:Nat):Int)≠0:=by omega
 have hb2:(((s.num.getD m 0:Nat):Int) == 0)=false:=beq_eq_false_iff_ne.2 hb1
 rw [hon] at co8
 have cb8:=(Zky H8 f1.at_ hfm).1
 have zb8:=(Zky H8 f1.at_ hfm).2
 have sb8:=World.block_lt_of_cell? _ _ cb8
 rw [tb] at cb8
 have hfi:(f1.at_:Int)<(c.length:Int):=by omega
 have hI1:=Yrc HI.out (fun x _ y hy=>Zkn x y hy) HS.out HMM.out hon (inn':=s.inn.set f1.at_ true) (by rw [if_pos HMF.out])
 obtain ⟨s2,hs2⟩:∃ s2,s2={ s with back:=s.back.set f1.at_ (min (s.back.getD f1.at_ 0) (s.num.getD m 0)),inn:=s.inn.set f1.at_ true,S:=⟨f1.at_,f1.done+1,f1.ex⟩::r1 }:=⟨_,rfl⟩
 rw [<- hs2] at hI1
 have hm2:4*s2.met+Zac c.length s2.num<=4*c.length:=by rw [hs2];exact HM.out
 obtain ⟨s3,hs3⟩:∃ s3,s3={ s1 with back:=s1.back.set f1.at_ (min (s.back.getD f1.at_ 0) (s.num.getD m 0)) }:=⟨_,rfl⟩
 have tl:{ Xr s1 with back:=(Xr s1).back.set f1.at_ (min (s.back.getD f1.at_ 0) (s.num.getD m 0)) }=Xr s3:=by rw [hs3];rfl
 have HTL:=Hq tl
 have hS3:s3.S=⟨f1.at_,f1.done+1,f1.ex⟩::r1:=by rw [hs3,hs1]
 have e9:({ Xr s3 with inn:=(Xr s3).inn.set m true }:LS)=Xr s2:=by rw [hs2,hs3,hs1,HMF.out];rfl
 have HE9:=Hq e9
 have HS3:=Hq hS3
 have HI1:=Hq hI1
 have HM2:=Hq hm2
 clear H8 h0 hon hs1 hb1 hs2 hs3 tl e9 hI1 hm2 hS3
 generalize hz:((s.num.getD m 0:Nat):Int)=zz at cn8 hb2
 generalize hy:((s.back.getD f1.at_ 0:Nat):Int)=yy at cb8
 have HZ:=Hq hz
 have HY:=Hq hy
 clear hz hy
 go_wp2
 go_region
 clear x0 x1 xz xs bn8 bo8 bb8 cn8 zn8 co8 zo8 sn8 so8 cb8 zb8 sb8
 have hmin:min yy zz=((min (s.back.getD f1.at_ 0) (s.num.getD m 0):Nat):Int):=by rw [<- HZ.out,<- HY.out];omega
 rw [hmin]
 have H9:=Xg (Zna HH8.out f1.at_ (min (s.back.getD f1.at_ 0) (s.num.getD m 0))) (Ze (Zc _ none))
 rw [HTL.out] at H9
 generalize (w8.setCell ⟨A.gb,f1.at_,none⟩ (.int .i64 ((min (s.back.getD f1.at_ 0) (s.num.getD m 0):Nat):Int))).drew=w9 at H9 ⊢
 obtain ⟨-,x0,x1,xz,xs⟩:=Ycv H9 HS3.out
 simp only [] at x0 x1
 have ci9:=(Ypa H9 m hmn).1
 have zi9:=(Ypa H9 m hmn).2
 have si9:=World.block_lt_of_cell? _ _ ci9
 have h9:=Yrr H9 m true
 rw [HE9.out] at h9
 have HR:=Hq (show LpR w R A ⟨mem,.slice pd nd cd,.slice pF fs.length cF,f,.slice (some ⟨gh,0,none⟩) c.length c.length,c.length⟩ c h (Jp c.length (nxL c h) s2) (w9.setCell ⟨A.gi,m,none⟩ (.bool true)) from ⟨s2,_,_,rfl,HI1.out.1,HM2.out,h9⟩)
 have heq:((m:Int) == (f1.at_:Int))=true:=by simp [HMF.out]
 clear H9 h9
 go_wp2
 exact LNext.intro (Jp c.length (nxL c h) s2) (by rw [HK.out];exact HI1.out.2) ⟨rfl,rfl,rfl,rfl,rfl,rfl,rfl,rfl,rfl,rfl,rfl⟩ HR.out
end Go.Proofs.Ythlkflagancdfaa.CK
