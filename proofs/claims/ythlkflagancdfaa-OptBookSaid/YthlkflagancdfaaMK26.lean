/-
  Part of a proof: contracts of functions and lemmas, each stated by its own theorem. Conditions: as each theorem states.
-/
import Derived.Test.YthlkflagancdfaaMK23
set_option linter.unusedSimpArgs false
set_option linter.unusedVariables false
set_option maxRecDepth 100000
set_option maxHeartbeats 16000000
namespace Go.Proofs.Ythlkflagancdfaa.CK
open Go.RowKit Go.Great
theorem Yuw {w wr:World} {B:Nat} {fs:List FnP} {pF:Option Addr} {cF f:Nat} {ar lo r:Int} {c:List (Int × Int)} {gh:Nat} {h:List Int} {mem:Int} {pd:Option Addr} {nd cd R k:Nat} {A:LA} {vr vw:Value} {s:TS} {f1:Fr} (Kx:Act->World->Prop) (t:Nat->Value) (E:Yls w B fs pF f ar lo r c gh h)
 (hk:k=Jp c.length (nxL c h) s) (hI:Zlt c.length (nxL c h) s) (hm:4*s.met+Zac c.length s.num<=4*c.length) (hW:LpW w R A ⟨mem,.slice pd nd cd,.slice pF fs.length cF,f,.slice (some ⟨gh,0,none⟩) c.length c.length,c.length⟩ vr vw (Xr s) wr) {up:Fr} {r2:List Fr} (hS:s.S=f1::up::r2) (hd:f1.done=(nxL c h f1.at_).length) (hb:s.back.getD f1.at_ 0≠s.num.getD f1.at_ 0) :
 Code.wp Try.prog Zgo (Exit.then (LNext w R A ⟨mem,.slice pd nd cd,.slice pF fs.length cF,f,.slice (some ⟨gh,0,none⟩) c.length c.length,c.length⟩ c h k) (Exit.inBlock 0 (Exit.then Kx (bodyPost Try.prog Try.f25 (Xf w c h))))) (lpF A c.length t) wr:=by
 obtain ⟨gw,cw,hv⟩:=Zht hW hS
 subst hv
 have hfr:f1.at_∈Xs s.S:=by rw [hS];simp [Xs]
 have hfm:f1.at_<c.length:=hI.lt _ hfr
 obtain ⟨L,hL2,hLl,hLe,NX'⟩:=Zxw E hW hfm
 have NX:=Hq NX'
 have hrb:=Zcf hI
 have hrl:(up::r2).length<4096:=by
  have h1:=E.l2
  have h2:=hrb.2
  rw [hS] at h2
  simp only [List.length_cons] at h2 ⊢
  omega
 have kw:=Zw hW.bw
 obtain ⟨-,hx0,hx1,hxz,sgw⟩:=Ycv hW hS
 have sgw7:∀ w7:World,wr.grownBy w7 none->gw<w7.heap.size:=fun w7 g=>Nat.lt_of_lt_of_le sgw g.size
 have HW:=Hq hW
 have HI:=Hq hI
 have HS:=Hq hS
 have HK:=Hq hk
 have HM:=Hq hm
 have EE:=Hq E
 have hwl:(Xr s).way.length=(up::r2).length+1:=(Xx hS).2.1
 have hlt:¬ (f1.done:Int)<(L.length:Int):=by omega
 have hlt2:decide ((f1.done:Int)<(L.length:Int))=false:=decide_eq_false hlt
 have hcap:=Zms (n:=(up::r2).length+1) (by have h:=hW.rw_;rw [hwl] at h;exact h)
 have HWL:=Hq hwl
 obtain ⟨hy,hyl⟩:=Zos hS
 have hI1:=Yxz hI hS hd hb
 obtain ⟨s2,hs2⟩:∃ s2,s2={ s with back:=s.back.set up.at_ (min (s.back.getD up.at_ 0) (s.back.getD f1.at_ 0)),S:=⟨up.at_,up.done,up.ex++f1.at_::f1.ex⟩::r2 }:=⟨_,rfl⟩
 rw [<- hs2] at hI1
 have hm2:4*s2.met+Zac c.length s2.num<=4*c.length:=by rw [hs2];exact hm
 have e9:{ Xr s with back:=s.back.set up.at_ (min (s.back.getD up.at_ 0) (s.back.getD f1.at_ 0)),way:=(Xr s).way.take (r2.length+1) }=Xr s2:=by rw [hs2];exact Yuv hS _
 have hup:up.at_<c.length:=hI.lt _ (by rw [hS];simp [Xs])
 have hne0:up.at_≠f1.at_:=by
  have h1:=hI.nd
  rw [hS] at h1
  exact ((Zhe h1).2.2.1 up.at_ (by simp [Xs])).1
 have hyc:wr.cell? ⟨gw,r2.length*2,none⟩=some (.int .i64 up.at_):=by
  have h1:=hW.rw_
  rw [hwl] at h1
  rw [h1.cellAt _ (by simp;omega)]
  exact (Xy _ _ _ _ hy).1
 have HI1:=Hq hI1
 have HM2:=Hq hm2
 have HE9:=Hq e9
 have HNE:=Hq hne0
 have HB:=Hq hb
 have HYC:=Hq hyc
 have hr2:r2.length<4096:=by simp at hrl;omega
 clear hW hI hS hk hm E hLe hrb NX' hLl hwl hfr hI1 hm2 hs2 e9 hne0 hb hyc hy hyl hd hlt2
 simp only [List.length_cons] at kw hx0 hx1 hcap HWL
 unfold lpF
 generalize t 0=u,t 1=u,t 2=u,t 3=u,t 4=u,t 5=u,t 6=u,t 16=u,t 17=u,t 18=u,t 19=u,t 20=u,t 21=u,t 22=u,t 23=u,t 24=u,t 25=u,t 26=u,t 27=u,t 28=u,t 29=u,t 30=u,t 31=u,t 32=u,t 33=u,t 34=u,t 35=u,t 36=u,t 37=u,t 38=u,t 39=u,t 40=u,t 41=u,t 42=u,t 43=u,t 44=u,t 45=u,t 46=u,t 47=u,t 48=u,t 49=u,t 50=u,t 51=u,t 52=u,t 53=u,t 54=u,t 55=u,t 56=u,t 57=u,t 58=u,t 59=u,t 60=u,t 61=u,t 62=u,t 63=u,t 64=u,t 65=u,t 66=u,t 67=u,t 68=u,t 69=u,t 70=u,t 71=u,t 72=u,t 73=u,t 74=u,t 75=u,t 76=u,t 77=u,t 78=u,t 79=u,t 80=u,t 81=u,t 82=u,t 83=u,t 84=u,t 85=u,t 86=u,t 87=u,t 88=u,t 89=u,t 90=u,t 91=u,t 92=u,t 93=u,t 94=u,t 95=u,t 96=u,t 97=u,t 98=u,t 99=u,t 100=u,t 101=u,t 102=u,t 103=u,t 104=u,t 105=u,t 106=u,t 107=u,t 108=u,t 109=u,t 110=u,t 111=u,t 112=u,t 113=u,t 114=u,t 115=u,t 116=u,t 117=u,t 118=u,t 119=u,t 120=u,t 121=u,t 122=u,t 123=u,t 124=u,t 125=u,t 126=u,t 127=u,t 128=u,t 129=u,t 130=u,t 131=u,t 132=u,t 133=u,t 134=u,t 135=u,t 136=u,t 137=u,t 138=u,t 139=u,t 140=u,t 141=u,t 142=u,t 143=u,t 144=u,t 145=u,t 146=u,t 147=u,t 148=u,t 149=u,t 150=u,t 151=u,t 152=u,t 153=u,t 154=u,t 155=u,t 156=u,t 157=u,t 158=u,t 159=u,t 160=u,t 161=u,t 162=u,t 163=u,t 164=u,t 165=u,t 166=u,t 167=u,t 168=u,t 169=u,t 170=u,t 171=u,t 172=u,t 173=u,t 174=u,t 175=u,t 176=u,t 177=u,t 178=u,t 179=u,t 180=u,t 181=u,t 182=u,t 183=u,t 184=u,t 185=u,t 186=u,t 187=u,t 188=u,t 189=u,t 190=u,t 191=u,t 192=u,t 193=u,t 194=u,t 195=u,t 196=u,t 197=u,t 198=u,t 199=u,t 200=u,t 201=u,t 202=u,t 203=u,t 204=u,t 205=u,t 206=u,t 207=u,t 208=u,t 209=u,t 210=u
 clear t
 conv=>arg 2;whnf
 go_upto_region 26 with (first
  | (go_at_call 40;refine NX.out.mono ?_;rintro e w7 ⟨v7,rfl,hg7,ho7⟩;obtain ⟨p7,k7,hv7⟩:=Zp ho7;subst hv7;have H7:=Hq (Xg HW.out hg7);have y0:=hg7.cell hx0 (by simp);have y1:=hg7.cell hx1 (by simp);have kw7:=Zw H7.out.bw;have zw7:=Zdi H7.out.bw;have swx:=World.block_lt_of_cell? _ _ kw7;have sgw8:=sgw7 w7 hg7;have y2:=hg7.cell HYC.out (by simp);clear hx0 hx1 hxz sgw kw hg7 ho7))
 have hwg:gw≠A.w:=by have h1:=Yt H7.out (k:=gw) rfl;have h2:=H7.out.hi A.w (by simp [LA.all]);omega
 have y9:=(Zh w7 A.w 0 (.slice (some ⟨gw,0,none⟩) (r2.length+1) cw)).cell y2 (by intro e;injection e with e;exact hwg e)
 have H9:=Zxv H7.out (g:=gw) (c:=cw) (k:=r2.length+1) (by rw [HWL.out];rfl) (by rw [HWL.out];omega)
 clear y0 y1 y2 kw7 zw7 sgw8 H7 swx
 generalize w7.setCell ⟨A.w,0,none⟩ (.slice (some ⟨gw,0,none⟩) (r2.length+1) cw)=w9 at H9 y9 ⊢
 have kw9:=Zw H9.bw
 have bb9:=Zw H9.bb
 have sy9:=World.block_lt_of_cell? _ _ y9
 obtain ⟨cb9,zb9⟩:=Zky H9 f1.at_ hfm
 obtain ⟨cu9,zu9⟩:=Zky H9 up.at_ hup
 have sb9:=World.block_lt_of_cell? _ _ cb9
 have tb:({ Xr s with way:=(Xr s).way.take (r2.length+1) }:LS).back=s.back:=rfl
 rw [tb] at cb9 cu9
 clear tb
 have hfi:(f1.at_:Int)<(c.length:Int):=by omega
 have hui:(up.at_:Int)<(c.length:Int):=by omega
 have HH9:=Hq H9
 clear H9
 generalize hz:((s.back.getD f1.at_ 0:Nat):Int)=zz at cb9
 generalize hy:((s.back.getD up.at_ 0:Nat):Int)=yy at cu9
 have HZ:=Hq hz
 have HY:=Hq hy
 clear hz hy
 go_wp2
 go_region
 clear kw9 bb9 sy9 cb9 zb9 cu9 zu9 sb9 y9
 have hmin:min yy zz=((min (s.back.getD up.at_ 0) (s.back.getD f1.at_ 0):Nat):Int):=by rw [<- HZ.out,<- HY.out];omega
 rw [hmin]
 have H10:=Xg (Zna HH9.out up.at_ (min (s.back.getD up.at_ 0) (s.back.getD f1.at_ 0))) (Ze (Zc _ none))
 clear hmin HH9
 generalize (w9.setCell ⟨A.gb,up.at_,none⟩ (.int .i64 ((min (s.back.getD up.at_ 0) (s.back.getD f1.at_ 0):Nat):Int))).drew=w10 at H10 ⊢
 have bb10:=Zw H10.bb
 have bn10:=Zw H10.bn
 have cb10:=(Zky H10 f1.at_ hfm).1
 have cn10:=(Zux H10 f1.at_ hfm).1
 have sb10:=World.block_lt_of_cell? _ _ cb10
 have sn10:=World.block_lt_of_cell? _ _ cn10
 have tb:(s.back.set up.at_ (min (s.back.getD up.at_ 0) (s.back.getD f1.at_ 0))).getD f1.at_ 0=s.back.getD f1.at_ 0:=by
  rw [Yb _ _ _ _ _ (by rw [HI.out.l2];exact hup),if_neg (Ne.symm HNE.out)]
 have cb11:w10.cell? ⟨A.gb,f1.at_,none⟩=some (.int .i64 ((s.back.getD f1.at_ 0:Nat):Int)):=by rw [<- tb];exact cb10
 have cn11:w10.cell? ⟨A.gn,f1.at_,none⟩=some (.int .i64 ((s.num.getD f1.at_ 0:Nat):Int)):=cn10
 have hbn:(((s.back.getD f1.at_ 0:Nat):Int) != ((s.num.getD f1.at_ 0:Nat):Int))=true:=by
  have:=HB.out
  simp only [bne_iff_ne,ne_eq]
  omega
 have HR:=Hq (show LpR w R A ⟨mem,.slice pd nd cd,.slice pF fs.length cF,f,.slice (some ⟨gh,0,none⟩) c.length c.length,c.length⟩ c h (Jp c.length (nxL c h) s2) w10.drew from ⟨s2,_,_,rfl,HI1.out.1,HM2.out,by have h10:=Xg H10 (Ze (Zc _ none));rw [<- HE9.out];exact h10⟩)
 clear cb10 cn10 tb H10
 generalize ((s.back.getD f1.at_ 0:Nat):Int)=zz at cb11 hbn
 generalize ((s.num.getD f1.at_ 0:Nat):Int)=yy at cn11 hbn
 go_wp2
 go_region
 go_wp2
 exact LNext.intro (Jp c.length (nxL c h) s2) (by rw [HK.out];exact HI1.out.2) ⟨rfl,rfl,rfl,rfl,rfl,rfl,rfl,rfl,rfl,rfl,rfl⟩ HR.out
noncomputable def Yry:Code:=(Zci Zgo).getD .skip
def lpG (A:LA) (n at_:Nat) (many:Bool) (t:Nat->Value):Act:=⟨#[t 0,t 1,t 2,t 3,t 4,t 5,t 6,.func (.func 40) #[] #[.pointer (some ⟨A.h,0,none⟩),.pointer (some ⟨A.p,0,none⟩),.pointer (some ⟨A.f,0,none⟩)],.pointer (some ⟨A.n,0,none⟩),.pointer (some ⟨A.b,0,none⟩),.pointer (some ⟨A.o,0,none⟩),.slice (some ⟨A.gi,0,none⟩) n n,.pointer (some ⟨A.r,0,none⟩),.pointer (some ⟨A.w,0,none⟩),.pointer (some ⟨A.m,0,none⟩),.func (.func 42) #[] #[.pointer (some ⟨A.m,0,none⟩),.pointer (some ⟨A.n,0,none⟩),.pointer (some ⟨A.b,0,none⟩),.pointer (some ⟨A.o,0,none⟩),.pointer (some ⟨A.r,0,none⟩),.pointer (some ⟨A.w,0,none⟩)],t 16,t 17,t 18,.int .i64 (at_:Int),t 20,.bool many,t 22,t 23,t 24,t 25,t 26,t 27,t 28,t 29,t 30,t 31,t 32,t 33,t 34,t 35,t 36,t 37,t 38,t 39,t 40,t 41,t 42,t 43,t 44,t 45,t 46,t 47,t 48,t 49,t 50,t 51,t 52,t 53,t 54,t 55,t 56,t 57,t 58,t 59,t 60,t 61,t 62,t 63,t 64,t 65,t 66,t 67,t 68,t 69,t 70,t 71,t 72,t 73,t 74,t 75,t 76,t 77,t 78,t 79,t 80,t 81,t 82,t 83,t 84,t 85,t 86,t 87,t 88,t 89,t 90,t 91,t 92,t 93,t 94,t 95,t 96,t 97,t 98,t 99,t 100,t 101,t 102,t 103,t 104,t 105,t 106,t 107,t 108,t 109,t 110,t 111,t 112,t 113,t 114,t 115,t 116,t 117,t 118,t 119,t 120,t 121,t 122,t 123,t 124,t 125,t 126,t 127,t 128,t 129,t 130,t 131,t 132,t 133,t 134,t 135,t 136,t 137,t 138,t 139,t 140,t 141,t 142,t 143,t 144,t 145,t 146,t 147,t 148,t 149,t 150,t 151,t 152,t 153,t 154,t 155,t 156,t 157,t 158,t 159,t 160,t 161,t 162,t 163,t 164,t 165,t 166,t 167,t 168,t 169,t 170,t 171,t 172,t 173,t 174,t 175,t 176,t 177,t 178,t 179,t 180,t 181,t 182,t 183,t 184,t 185,t 186,t 187,t 188,t 189,t 190,t 191,t 192,t 193,t 194,t 195,t 196,t 197,t 198,t 199,t 200,t 201,t 202,t 203,t 204,t 205,t 206,t 207,t 208,t 209,t 210],[]⟩
structure LGr (A:LA) (n at_:Nat) (many:Bool) (a:Act):Prop where
 fr:LFr A n a
 s19:a.tmps.getD 19 undef = .int .i64 (at_:Int)
 s21:a.tmps.getD 21 undef = .bool many
theorem Xaf {A:LA} {n at_:Nat} {many:Bool} {a:Act} (H:LGr A n at_ many a):a=lpG A n at_ many (fun i=>a.tmps.getD i undef):=by
 refine Zki H.fr.sz H.fr.df fun j hj => ?_
 have hs:=H.fr.sz
 rw [hs] at hj
 unfold tm
 iterate 7 (rcases j with _|j;· rfl)
 rcases j with _|j
 · exact H.fr.s7
 rcases j with _|j
 · exact H.fr.s8
 rcases j with _|j
 · exact H.fr.s9
 rcases j with _|j
 · exact H.fr.s10
 rcases j with _|j
 · exact H.fr.s11
 rcases j with _|j
 · exact H.fr.s12
 rcases j with _|j
 · exact H.fr.s13
 rcases j with _|j
 · exact H.fr.s14
 rcases j with _|j
 · exact H.fr.s15
 iterate 3 (rcases j with _|j;· rfl)
 rcases j with _|j
 · exact H.s19
 iterate 1 (rcases j with _|j;· rfl)
 rcases j with _|j
 · exact H.s21
 iterate 189 (rcases j with _|j;· rfl)
 omega
def Yno (S:LS) (rho:List Nat) (x:Nat) (many:Bool):LS:={ S with row:=rho,on:=S.on.set x false,inn:=S.inn.set x (S.inn.getD x false || many) }
theorem Zpk {w wr:World} {R x at_:Nat} {A:LA} {C:LC} {vr vw:Value} {S:LS} {rho:List Nat} {many:Bool} (Q:Exit->Act->World->Prop) (t:Nat->Value) (hW:LpW w R A C vr vw S wr) (hr:S.row=rho++[x]) (hx:x<C.n) (hn:C.n<=4096) (hl:rho.length<4096)
 (hout:x=at_->∀ a' w' vr',LGr A C.n at_ many a'->LpW w R A C vr' vw (Yno S rho x many) w'->Q (.exit 3) a' w') (hgo:x≠at_->∀ a' w' vr',LGr A C.n at_ many a'->LpW w R A C vr' vw (Yno S rho x many) w'->Q .normal a' w') :
 Code.wp Try.prog Yry Q (lpG A C.n at_ many t) wr:=by
 have hrow:=hW.rr
 have hlen:S.row.length=rho.length+1:=by rw [hr];simp
 rw [hlen] at hrow
 obtain ⟨gr,cr,hv⟩:=Zan hrow
 subst hv
 have hcap:=Zms hrow
 have hrx:wr.cell? ⟨gr,rho.length,none⟩=some (.int .i64 x):=by
  rw [hrow.cellAt _ (by omega),hr]
  simp [Zex]
 have sgr:=World.block_lt_of_cell? _ _ hrx
 have br:=Zw hW.br
 have zr:=Zdi hW.br
 have srr:=World.block_lt_of_cell? _ _ br
 have bo:=Zw hW.bo
 obtain ⟨co,zo⟩:=Ycw hW x hx
 obtain ⟨ci,zi⟩:=Ypa hW x hx
 have so:=World.block_lt_of_cell? _ _ co
 have si:=World.block_lt_of_cell? _ _ ci
 have sbo:=World.block_lt_of_cell? _ _ bo
 have hrg:gr≠A.r:=by have h1:=Ji hW (k:=gr) rfl;have h2:=hW.hi A.r (by simp [LA.all]);omega
 have n1:A.o≠A.r:=Zi hW.nd 5 6 rfl rfl (by decide)
 have n2:A.go≠A.r:=Zi hW.nd 11 6 rfl rfl (by decide)
 have n3:A.gi≠A.r:=Zi hW.nd 12 6 rfl rfl (by decide)
 have n4:A.gi≠A.go:=Zi hW.nd 12 11 rfl rfl (by decide)
 have H1:=Yux hW (g:=gr) (c:=cr) (k:=rho.length) (by rw [hlen]) (by omega)
 have H2:=Xaa H1 x false
 have tk:S.row.take rho.length=rho:=by rw [hr];simp
 rw [tk] at H2
 have HH2:=Hq H2
 have hxi:(x:Int)<(C.n:Int):=by omega
 have hl2:(rho.length:Int)<4096:=by omega
 generalize hb:S.inn.getD x false=b at ci
 have h3:∀ v,v=(b || many)->LpW w R A C (.slice (some ⟨gr,0,none⟩) rho.length cr) vw (Yno S rho x many) (((wr.setCell ⟨A.r,0,none⟩ (.slice (some ⟨gr,0,none⟩) rho.length cr)).setCell ⟨A.go,x,none⟩ (.bool false)).setCell ⟨A.gi,x,none⟩ (.bool v)):=fun v hv=>by
  have:=Yrr HH2.out x v
  unfold Yno
  rw [hb,<- hv]
  exact this
 have HH3:=Hq h3
 have HO:=Hq hout
 have HG:=Hq hgo
 obtain ⟨mem,vd,vF,f,vh,n⟩:=C
 simp only [] at hx hn hxi
 clear hW hrow H1 H2 tk h3 hb hr hlen hout hgo
 unfold lpG
 generalize t 0=u,t 1=u,t 2=u,t 3=u,t 4=u,t 5=u,t 6=u,t 16=u,t 17=u,t 18=u,t 20=u,t 22=u,t 23=u,t 24=u,t 25=u,t 26=u,t 27=u,t 28=u,t 29=u,t 30=u,t 31=u,t 32=u,t 33=u,t 34=u,t 35=u,t 36=u,t 37=u,t 38=u,t 39=u,t 40=u,t 41=u,t 42=u,t 43=u,t 44=u,t 45=u,t 46=u,t 47=u,t 48=u,t 49=u,t 50=u,t 51=u,t 52=u,t 53=u,t 54=u,t 55=u,t 56=u,t 57=u,t 58=u,t 59=u,t 60=u,t 61=u,t 62=u,t 63=u,t 64=u,t 65=u,t 66=u,t 67=u,t 68=u,t 69=u,t 70=u,t 71=u,t 72=u,t 73=u,t 74=u,t 75=u,t 76=u,t 77=u,t 78=u,t 79=u,t 80=u,t 81=u,t 82=u,t 83=u,t 84=u,t 85=u,t 86=u,t 87=u,t 88=u,t 89=u,t 90=u,t 91=u,t 92=u,t 93=u,t 94=u,t 95=u,t 96=u,t 97=u,t 98=u,t 99=u,t 100=u,t 101=u,t 102=u,t 103=u,t 104=u,t 105=u,t 106=u,t 107=u,t 108=u,t 109=u,t 110=u,t 111=u,t 112=u,t 113=u,t 114=u,t 115=u,t 116=u,t 117=u,t 118=u,t 119=u,t 120=u,t 121=u,t 122=u,t 123=u,t 124=u,t 125=u,t 126=u,t 127=u,t 128=u,t 129=u,t 130=u,t 131=u,t 132=u,t 133=u,t 134=u,t 135=u,t 136=u,t 137=u,t 138=u,t 139=u,t 140=u,t 141=u,t 142=u,t 143=u,t 144=u,t 145=u,t 146=u,t 147=u,t 148=u,t 149=u,t 150=u,t 151=u,t 152=u,t 153=u,t 154=u,t 155=u,t 156=u,t 157=u,t 158=u,t 159=u,t 160=u,t 161=u,t 162=u,t 163=u,t 164=u,t 165=u,t 166=u,t 167=u,t 168=u,t 169=u,t 170=u,t 171=u,t 172=u,t 173=u,t 174=u,t 175=u,t 176=u,t 177=u,t 178=u,t 179=u,t 180=u,t 181=u,t 182=u,t 183=u,t 184=u,t 185=u,t 186=u,t 187=u,t 188=u,t 189=u,t 190=u,t 191=u,t 192=u,t 193=u,t 194=u,t 195=u,t 196=u,t 197=u,t 198=u,t 199=u,t 200=u,t 201=u,t 202=u,t 203=u,t 204=u,t 205=u,t 206=u,t 207=u,t 208=u,t 209=u,t 210=u
 clear t
 conv=>arg 2;whnf
 by_cases hxa:x=at_
 · have heq:((x:Int) == (at_:Int))=true:=by simp [hxa]
   have HO2:=Hq (HO.out hxa)
   clear HO HG hxa
   cases b
   · have HR:=Hq (HH3.out many (by simp))
     clear HH3
     go_wp2
     exact HO2.out _ _ _ ⟨⟨rfl,rfl,rfl,rfl,rfl,rfl,rfl,rfl,rfl,rfl,rfl⟩,rfl,rfl⟩ HR.out
   · have HR:=Hq (HH3.out true (by simp))
     clear HH3
     go_wp2
     exact HO2.out _ _ _ ⟨⟨rfl,rfl,rfl,rfl,rfl,rfl,rfl,rfl,rfl,rfl,rfl⟩,rfl,rfl⟩ HR.out
 · have heq:((x:Int) == (at_:Int))=false:=beq_eq_false_iff_ne.2 (fun e=>hxa (Int.ofNat.inj e))
   have HO2:=Hq (HG.out hxa)
   clear HO HG hxa
   cases b
   · have HR:=Hq (HH3.out many (by simp))
     clear HH3
     go_wp2
     exact HO2.out _ _ _ ⟨⟨rfl,rfl,rfl,rfl,rfl,rfl,rfl,rfl,rfl,rfl,rfl⟩,rfl,rfl⟩ HR.out
   · have HR:=Hq (HH3.out true (by simp))
     clear HH3
     go_wp2
     exact HO2.out _ _ _ ⟨⟨rfl,rfl,rfl,rfl,rfl,rfl,rfl,rfl,rfl,rfl,rfl⟩,rfl,rfl⟩ HR.out
structure InP (n:Nat) (S S':LS) (many:Bool) (D:List Nat) (rho:List Nat):Prop where
 rest:S'.num=S.num/\S'.back=S.back/\S'.way=S.way/\S'.met=S.met
 row:S'.row=rho
 lo:S'.on.length=n
 li:S'.inn.length=n
 on:∀ y,y<n->S'.on.getD y false=if y∈D then false else S.on.getD y false
 inn:∀ y,y<n->S'.inn.getD y false=if y∈D then (S.inn.getD y false || many) else S.inn.getD y false
theorem Yje {n x:Nat} {S S':LS} {many:Bool} {D rho rho':List Nat} (H:InP n S S' many D rho) (hx:x<n) (hD:x ∉ D):InP n S (Yno S' rho' x many) many (x::D) rho':=by
 obtain ⟨h1,h2,h3,h4,h5,h6⟩:=H
 refine ⟨h1,rfl,by simp [Yno,h3],by simp [Yno,h4],fun y hy => ?_,fun y hy => ?_⟩
 · simp only [Yno]
   rw [Yb _ _ _ _ _ (by omega)]
   by_cases e:y=x
   · rw [if_pos e,if_pos (by simp [e])]
   · rw [if_neg e,h5 y hy]
     simp [e]
 · simp only [Yno]
   rw [Yb _ _ _ _ _ (by omega)]
   by_cases e:y=x
   · rw [if_pos e,if_pos (by simp [e]),e,h6 x hx,if_neg hD]
   · rw [if_neg e,h6 y hy]
     simp [e]
theorem Yjd {w wr:World} {R:Nat} {A:LA} {C:LC} {vr vw:Value} {S:LS} (hW:LpW w R A C vr vw S wr) (many:Bool):InP C.n S S many [] S.row:=by
 obtain ⟨-,-,l3,l4⟩:=Yuz hW
 exact ⟨⟨rfl,rfl,rfl,rfl⟩,rfl,l3,l4,fun y _=>by simp,fun y _=>by simp⟩
theorem Zpl {w wr:World} {R at_:Nat} {A:LA} {C:LC} {vr vw:Value} {S:LS} {rho ex:List Nat} {many:Bool} {a:Act} {Q:Exit->Act->World->Prop} (ha:LGr A C.n at_ many a) (hW:LpW w R A C vr vw S wr) (hr:S.row=rho++at_::ex) (hnd:(at_::ex).Nodup) (hlt:∀ x∈at_::ex,x<C.n) (hn:C.n<=4096) (hl:S.row.length<=4096)
 (hexit:∀ a' w' vr' S',LFr A C.n a'->LpW w R A C vr' vw S' w'->InP C.n S S' many (at_::ex) rho->Q (.exit 3) a' w') :
 Code.wp Try.prog (Code.loop Yry) Q a wr:=by
 refine wp_loop_ghost (fun k a' w'=>LGr A C.n at_ many a'/\∃ ex1 ex2 S1 vr1,ex=ex1++ex2/\k=ex1.length/\LpW w R A C vr1 vw S1 w'/\InP C.n S S1 many ex2 (rho++at_::ex1)) ex.length ⟨ha,ex,[],S,vr,by simp,rfl,hW,by have:=Yjd hW many;rwa [hr] at this⟩ ?_
 rintro k a1 w1 ⟨ha1,ex1,ex2,S1,vr1,he,hk,hW1,hP⟩
 rw [Xaf ha1]
 have hll:(rho++at_::ex1).length<=4096:=by
  rw [hr,he] at hl
  simp at hl ⊢
  omega
 rcases List.eq_nil_or_concat ex1 with h0|⟨ex3,x,h0⟩
 · subst h0
   have hrow:S1.row=rho++[at_]:=hP.row
   have hD:at_ ∉ ex2:=by
    rw [he] at hnd
    exact (List.nodup_cons.1 hnd).1
   refine Zpk (x:=at_) (rho:=rho) _ _ hW1 hrow (hlt at_ (by simp)) hn (by simp at hll;omega) (fun _ a' w' vr' h1 h2 => ?_) (fun h=>absurd rfl h)
   have h3:=Yje (rho':=rho) hP (hlt at_ (by simp)) hD
   have e:at_::ex2=at_::ex:=by rw [he];rfl
   rw [e] at h3
   exact hexit a' w' vr' _ h1.fr h2 h3
 · rw [List.concat_eq_append] at h0
   subst h0
   have hrow:S1.row=(rho++at_::ex3)++[x]:=by rw [hP.row];simp
   have hxe:x∈ex:=by rw [he];simp
   have hne:x≠at_:=fun e=>(List.nodup_cons.1 hnd).1 (e ▸ hxe)
   have hD:x ∉ ex2:=by
    have h1:=(List.nodup_cons.1 hnd).2
    rw [he] at h1
    intro h2
    exact (List.nodup_append.1 h1).2.2 x (by simp) x h2 rfl
   refine Zpk (x:=x) (rho:=rho++at_::ex3) _ _ hW1 hrow (hlt x (by simp [hxe])) hn (by simp at hll ⊢;omega) (fun h=>absurd h hne) (fun _ a' w' vr' h1 h2 => ?_)
   have h3:=Yje (rho':=rho++at_::ex3) hP (hlt x (by simp [hxe])) hD
   refine ⟨ex3.length,by rw [hk];simp,h1,ex3,x::ex2,_,vr',by rw [he];simp,rfl,h2,h3⟩
theorem Yox {w wr:World} {B:Nat} {fs:List FnP} {pF:Option Addr} {cF f:Nat} {ar lo r:Int} {c:List (Int × Int)} {gh:Nat} {h:List Int} {mem:Int} {pd:Option Addr} {nd cd R k:Nat} {A:LA} {vr vw:Value} {s:TS} {f1:Fr} (Kx:Act->World->Prop) (t:Nat->Value) (E:Yls w B fs pF f ar lo r c gh h)
 (hk:k=Jp c.length (nxL c h) s) (hI:Zlt c.length (nxL c h) s) (hm:4*s.met+Zac c.length s.num<=4*c.length) (hW:LpW w R A ⟨mem,.slice pd nd cd,.slice pF fs.length cF,f,.slice (some ⟨gh,0,none⟩) c.length c.length,c.length⟩ vr vw (Xr s) wr) {up:Fr} {r2:List Fr} (hS:s.S=f1::up::r2) (hd:f1.done=(nxL c h f1.at_).length) (hb:s.back.getD f1.at_ 0=s.num.getD f1.at_ 0) :
 Code.wp Try.prog Zgo (Exit.then (LNext w R A ⟨mem,.slice pd nd cd,.slice pF fs.length cF,f,.slice (some ⟨gh,0,none⟩) c.length c.length,c.length⟩ c h k) (Exit.inBlock 0 (Exit.then Kx (bodyPost Try.prog Try.f25 (Xf w c h))))) (lpF A c.length t) wr:=by
 obtain ⟨gw,cw,hv⟩:=Zht hW hS
 subst hv
 have hfr:f1.at_∈Xs s.S:=by rw [hS];simp [Xs]
 have hfm:f1.at_<c.length:=hI.lt _ hfr
 obtain ⟨L,hL2,hLl,hLe,NX'⟩:=Zxw E hW hfm
 have NX:=Hq NX'
 have hrb:=Zcf hI
 have hrl:(up::r2).length<4096:=by
  have h1:=E.l2
  have h2:=hrb.2
  rw [hS] at h2
  simp only [List.length_cons] at h2 ⊢
  omega
 have kw:=Zw hW.bw
 obtain ⟨-,hx0,hx1,hxz,sgw⟩:=Ycv hW hS
 have sgw7:∀ w7:World,wr.grownBy w7 none->gw<w7.heap.size:=fun w7 g=>Nat.lt_of_lt_of_le sgw g.size
 have HW:=Hq hW
 have HI:=Hq hI
 have HS:=Hq hS
 have HK:=Hq hk
 have HM:=Hq hm
 have EE:=Hq E
 have hwl:(Xr s).way.length=(up::r2).length+1:=(Xx hS).2.1
 have hlt:¬ (f1.done:Int)<(L.length:Int):=by omega
 have hlt2:decide ((f1.done:Int)<(L.length:Int))=false:=decide_eq_false hlt
 have hcap:=Zms (n:=(up::r2).length+1) (by have h:=hW.rw_;rw [hwl] at h;exact h)
 have HWL:=Hq hwl
 obtain ⟨hy,hyl⟩:=Zos hS
 have hup:up.at_<c.length:=hI.lt _ (by rw [hS];simp [Xs])
 have hne0:up.at_≠f1.at_:=by
  have h1:=hI.nd
  rw [hS] at h1
  exact ((Zhe h1).2.2.1 up.at_ (by simp [Xs])).1
 have hyc:wr.cell? ⟨gw,r2.length*2,none⟩=some (.int .i64 up.at_):=by
  have h1:=hW.rw_
  rw [hwl] at h1
  rw [h1.cellAt _ (by simp;omega)]
  exact (Xy _ _ _ _ hy).1
 have HNE:=Hq hne0
 have HYC:=Hq hyc
 have hr2:r2.length<4096:=by simp at hrl;omega
 have hrow:=Zzl hS
 have hnd:=hI.nd
 rw [hS] at hnd
 obtain ⟨nd1,nd2,nd3,nd4⟩:=Zhe hnd
 have hrl2:(Xr s).row.length<=4096:=by
  have h1:=E.l2
  have h2:=hrb.1
  show (Xs s.S).length<=4096
  omega
 have hlt3:∀ x∈f1.at_::f1.ex,x<c.length:=fun x hx=>hI.lt x (by rw [hS,Zcg];exact List.mem_append.2 (Or.inr hx))
 obtain ⟨rho,x,many,hrx,hmx⟩:∃ (rho:List Nat) (x:Nat) (many:Bool),(Xr s).row=rho++[x]/\((x:Int) != (f1.at_:Int))=many/\many = !f1.ex.isEmpty:=by
  rcases List.eq_nil_or_concat f1.ex with h0|⟨e,x,h0⟩
  · refine ⟨Xs (up::r2),f1.at_,false,by rw [hrow,h0],by simp,by rw [h0];rfl⟩
  · rw [List.concat_eq_append] at h0
    refine ⟨Xs (up::r2)++f1.at_::e,x,true,by rw [hrow,h0];simp,?_,by rw [h0];simp⟩
    have:x≠f1.at_:=fun h=>nd2 (by rw [h0,h];simp)
    simp only [bne_iff_ne,ne_eq]
    omega
 have HROW:=Hq hrow
 have HND:=Hq (List.nodup_cons.2 ⟨nd2,nd4⟩:(f1.at_::f1.ex).Nodup)
 have HLT3:=Hq hlt3
 have HRL2:=Hq hrl2
 have HMX:=Hq hmx.2
 have hmx:=hmx.1
 have hrho:rho.length<4096:=by rw [hrx] at hrl2;simp at hrl2;omega
 have HRX:=Hq hrx
 have HB:=Hq hb
 have HD:=Hq hd
 clear hW hI hS hk hm E hLe hrb NX' hLl hwl hfr hne0 hyc hy hyl hb hd hlt2 hrow nd1 nd2 nd3 nd4 hnd hlt3 hrl2 hrx
 simp only [List.length_cons,List.length_nil] at kw hx0 hx1 hcap HWL
 unfold lpF
 generalize t 0=u,t 1=u,t 2=u,t 3=u,t 4=u,t 5=u,t 6=u,t 16=u,t 17=u,t 18=u,t 19=u,t 20=u,t 21=u,t 22=u,t 23=u,t 24=u,t 25=u,t 26=u,t 27=u,t 28=u,t 29=u,t 30=u,t 31=u,t 32=u,t 33=u,t 34=u,t 35=u,t 36=u,t 37=u,t 38=u,t 39=u,t 40=u,t 41=u,t 42=u,t 43=u,t 44=u,t 45=u,t 46=u,t 47=u,t 48=u,t 49=u,t 50=u,t 51=u,t 52=u,t 53=u,t 54=u,t 55=u,t 56=u,t 57=u,t 58=u,t 59=u,t 60=u,t 61=u,t 62=u,t 63=u,t 64=u,t 65=u,t 66=u,t 67=u,t 68=u,t 69=u,t 70=u,t 71=u,t 72=u,t 73=u,t 74=u,t 75=u,t 76=u,t 77=u,t 78=u,t 79=u,t 80=u,t 81=u,t 82=u,t 83=u,t 84=u,t 85=u,t 86=u,t 87=u,t 88=u,t 89=u,t 90=u,t 91=u,t 92=u,t 93=u,t 94=u,t 95=u,t 96=u,t 97=u,t 98=u,t 99=u,t 100=u,t 101=u,t 102=u,t 103=u,t 104=u,t 105=u,t 106=u,t 107=u,t 108=u,t 109=u,t 110=u,t 111=u,t 112=u,t 113=u,t 114=u,t 115=u,t 116=u,t 117=u,t 118=u,t 119=u,t 120=u,t 121=u,t 122=u,t 123=u,t 124=u,t 125=u,t 126=u,t 127=u,t 128=u,t 129=u,t 130=u,t 131=u,t 132=u,t 133=u,t 134=u,t 135=u,t 136=u,t 137=u,t 138=u,t 139=u,t 140=u,t 141=u,t 142=u,t 143=u,t 144=u,t 145=u,t 146=u,t 147=u,t 148=u,t 149=u,t 150=u,t 151=u,t 152=u,t 153=u,t 154=u,t 155=u,t 156=u,t 157=u,t 158=u,t 159=u,t 160=u,t 161=u,t 162=u,t 163=u,t 164=u,t 165=u,t 166=u,t 167=u,t 168=u,t 169=u,t 170=u,t 171=u,t 172=u,t 173=u,t 174=u,t 175=u,t 176=u,t 177=u,t 178=u,t 179=u,t 180=u,t 181=u,t 182=u,t 183=u,t 184=u,t 185=u,t 186=u,t 187=u,t 188=u,t 189=u,t 190=u,t 191=u,t 192=u,t 193=u,t 194=u,t 195=u,t 196=u,t 197=u,t 198=u,t 199=u,t 200=u,t 201=u,t 202=u,t 203=u,t 204=u,t 205=u,t 206=u,t 207=u,t 208=u,t 209=u,t 210=u
 clear t
 conv=>arg 2;whnf
 go_upto_region 26 with (first
  | (go_at_call 40;refine NX.out.mono ?_;rintro e w7 ⟨v7,rfl,hg7,ho7⟩;obtain ⟨p7,k7,hv7⟩:=Zp ho7;subst hv7;have H7:=Hq (Xg HW.out hg7);have y0:=hg7.cell hx0 (by simp);have y1:=hg7.cell hx1 (by simp);have kw7:=Zw H7.out.bw;have zw7:=Zdi H7.out.bw;have swx:=World.block_lt_of_cell? _ _ kw7;have sgw8:=sgw7 w7 hg7;have y2:=hg7.cell HYC.out (by simp);clear hx0 hx1 hxz sgw kw hg7 ho7))
 have hwg:gw≠A.w:=by have h1:=Yt H7.out (k:=gw) rfl;have h2:=H7.out.hi A.w (by simp [LA.all]);omega
 have y9:=(Zh w7 A.w 0 (.slice (some ⟨gw,0,none⟩) (r2.length+1) cw)).cell y2 (by intro e;injection e with e;exact hwg e)
 have H9:=Zxv H7.out (g:=gw) (c:=cw) (k:=(r2.length+1)) (by rw [HWL.out];rfl) (by rw [HWL.out];omega)
 clear y0 y1 y2 kw7 zw7 sgw8 H7 swx
 generalize w7.setCell ⟨A.w,0,none⟩ (.slice (some ⟨gw,0,none⟩) (r2.length+1) cw)=w9 at H9 y9 ⊢
 have kw9:=Zw H9.bw
 have hfi:(f1.at_:Int)<(c.length:Int):=by omega
 have bb9:=Zw H9.bb
 have sy9:=World.block_lt_of_cell? _ _ y9
 obtain ⟨cb9,zb9⟩:=Zky H9 f1.at_ hfm
 obtain ⟨cu9,zu9⟩:=Zky H9 up.at_ hup
 have sb9:=World.block_lt_of_cell? _ _ cb9
 have tb:({ Xr s with way:=(Xr s).way.take (r2.length+1) }:LS).back=s.back:=rfl
 rw [tb] at cb9 cu9
 clear tb
 have hui:(up.at_:Int)<(c.length:Int):=by omega
 have HH9:=Hq H9
 clear H9
 generalize hz:((s.back.getD f1.at_ 0:Nat):Int)=zz at cb9
 generalize hy:((s.back.getD up.at_ 0:Nat):Int)=yy at cu9
 have HZ:=Hq hz
 have HY:=Hq hy
 clear hz hy
 go_wp2
 go_region
 clear kw9 bb9 sy9 cb9 zb9 cu9 zu9 sb9 y9
 have hmin:min yy zz=((min (s.back.getD up.at_ 0) (s.back.getD f1.at_ 0):Nat):Int):=by rw [<- HZ.out,<- HY.out];omega
 rw [hmin]
 have H10:=Xg (Zna HH9.out up.at_ (min (s.back.getD up.at_ 0) (s.back.getD f1.at_ 0))) (Ze (Zc _ none))
 clear hmin HH9
 generalize (w9.setCell ⟨A.gb,up.at_,none⟩ (.int .i64 ((min (s.back.getD up.at_ 0) (s.back.getD f1.at_ 0):Nat):Int))).drew=w10 at H10 ⊢
 have tb:(s.back.set up.at_ (min (s.back.getD up.at_ 0) (s.back.getD f1.at_ 0))).getD f1.at_ 0=s.back.getD f1.at_ 0:=by
  rw [Yb _ _ _ _ _ (by rw [HI.out.l2];exact hup),if_neg (Ne.symm HNE.out)]
 have cb10:=(Zky H10 f1.at_ hfm).1
 have cb11:w10.cell? ⟨A.gb,f1.at_,none⟩=some (.int .i64 ((s.back.getD f1.at_ 0:Nat):Int)):=by rw [<- tb];exact cb10
 clear tb cb10
 have bb10:=Zw H10.bb
 have bn10:=Zw H10.bn
 have cn11:w10.cell? ⟨A.gn,f1.at_,none⟩=some (.int .i64 ((s.num.getD f1.at_ 0:Nat):Int)):=(Zux H10 f1.at_ hfm).1
 have sb10:=World.block_lt_of_cell? _ _ cb11
 have sn10:=World.block_lt_of_cell? _ _ cn11
 rw [HB.out] at cb11
 have HH10:=Hq H10
 clear H10
 generalize ((s.num.getD f1.at_ 0:Nat):Int)=yy at cn11 cb11
 go_wp2
 go_region
 clear cb11 cn11 bb10 bn10 sb10 sn10
 have H11:=Xg HH10.out (Ze (Zc _ none))
 clear HH10
 generalize w10.drew=w11 at H11 ⊢
 have hrr:=H11.rr
 have hrlen:(Xr s).row.length=rho.length+1:=by rw [HRX.out];simp
 obtain ⟨gr,cr,hv⟩:=Zan (by simp only [] at hrr;rw [hrlen] at hrr;exact hrr)
 subst hv
 have hrx:w11.cell? ⟨gr,rho.length,none⟩=some (.int .i64 x):=by
  have h1:=hrr
  simp only [] at h1
  rw [hrlen] at h1
  rw [h1.cellAt _ (by omega),HRX.out]
  simp [Zex]
 have br:=Zw H11.br
 have sgr:=World.block_lt_of_cell? _ _ hrx
 have HH11:=Hq H11
 clear H11 hrr hrlen
 go_wp2
 refine Zpl (rho:=Xs (up::r2)) (ex:=f1.ex) (at_:=f1.at_) (many := !f1.ex.isEmpty) ⟨⟨rfl,rfl,rfl,rfl,rfl,rfl,rfl,rfl,rfl,rfl,rfl⟩,rfl,rfl⟩ HH11.out HROW.out HND.out HLT3.out EE.out.l2 HRL2.out ?_
 intro a' w' vr' S' hfr hW' hP
 show LNext w R A ⟨mem,.slice pd nd cd,.slice pF fs.length cF,f,.slice (some ⟨gh,0,none⟩) c.length c.length,c.length⟩ c h k a' w'
 obtain ⟨num',back',on',inn',row',way',met'⟩:=S'
 obtain ⟨⟨p1,p2,p3,p4⟩,p5,p6,p7',p8,p9⟩:=hP
 simp only [] at p1 p2 p3 p4 p5 p6 p7' p8 p9
 subst p1 p2 p3 p4 p5
 have hI1:=Yrb HI.out HS.out HD.out HB.out p6 p7' (fun x hx=>by rw [p8 x hx];simp only [List.mem_cons];rfl) (fun x hx=>by rw [p9 x hx];simp only [List.mem_cons];rfl)
 obtain ⟨s2,hs2⟩:∃ s2,s2={ s with back:=Zgf s.back (s.back.getD f1.at_ 0) (up::r2),on:=on',inn:=inn',S:=(up::r2),fin:=f1.at_::s.fin }:=⟨_,rfl⟩
 rw [<- hs2] at hI1
 have e9:=Yie HS.out (Zgf s.back (s.back.getD f1.at_ 0) (up::r2)) on' inn' (f1.at_::s.fin)
 rw [<- hs2] at e9
 have hm2:4*s2.met+Zac c.length s2.num<=4*c.length:=by rw [hs2];exact HM.out
 exact LNext.intro (Jp c.length (nxL c h) s2) (by rw [HK.out];exact hI1.2) hfr ⟨s2,_,_,rfl,hI1.1,hm2,by rw [<- e9];exact hW'⟩
end Go.Proofs.Ythlkflagancdfaa.CK
