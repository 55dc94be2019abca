/-
  Part of a proof: contracts of functions and lemmas, each stated by its own theorem. Conditions: as each theorem states.
-/
import Derived.Test.YthlkflagancdfaaMK16
import Derived.Laws.AppendOwnNone
import Derived.Laws.EntriesVeiled
set_option linter.unusedSimpArgs false
set_option linter.unusedVariables false
set_option maxRecDepth 100000
set_option maxHeartbeats 16000000
namespace Go.Proofs.Ythlkflagancdfaa.OT
open Go.RowKit Go.Great
open Go.Proofs.Ythlkflagancdfaa.CK
structure Ywy (nf:Nat) (c:List Ins):Prop where
 l:c.length<=4096
 n:1<=c.length
 j:∀ x∈c,jmp x.1=true->0<=x.2/\x.2<c.length
 k:∀ x∈c,x.1=17->0<=x.2/\x.2<nf
theorem Yhp (b:Nat->Bool) (n i:Nat) (h:i<=n):((Zbg b (n+1) (n+1)).map (Value.int .i64))[i]? = some (.int .i64 (Yn b i)):=by
 unfold Zbg
 rw [List.getElem?_map,List.getElem?_map,List.getElem?_range (by omega)]
 simp only [Option.map_some]
 rw [if_pos (by omega)]
theorem Ynu {w:World} {base b o:Nat} {D F v:Value} {dl:List Int} {fs:List FnP} {cv:List Value} {cs:Array Value} (h:Zas w base D F dl fs cv) (hb:w.heap[b]? = some (.cells cs 25 (0,0))):Zas (w.setCell ⟨b,o,none⟩ v) base D F dl fs cv:=by
 have g:=Zh w b o v
 have n:∀ {base:Nat} {e:TypeId} {size n:Nat} {v:Value} {xs:List Value},w.ownsRow base e size v n xs->e≠25->v.ownBlock=none\/v.ownBlock≠some b:=fun ho he=>Or.inr (Yp ho hb he)
 exact ⟨h.dt.kept g (n h.dt (by decide)),h.fr.kept g (n h.fr (by decide)),h.cl,fun k f v hf hv=>(h.each k f v hf hv).kept g (n (h.each k f v hf hv) (by decide)),h.dis⟩
theorem Ywi {w:World} {base:Nat} {D F:Value} {g cap:Nat} {dl:List Int} {KL:List FnP} {V:List Bool} {cv:List Value} {k j:Nat} {a lo r ei x op:Int} {c:List Ins} (h:Zas w base D F dl ((Zpw V KL k).set k (Zv (a,lo,r,c) (Zaa V c j))) cv) (hkl:k<KL.length) (hv:cv[k]? = some (.slice (some ⟨g,0,none⟩) c.length cap))
 (hn:Zaa V c (j+1)=(Zaa V c j).set j (op,ei)) (hs:∀ u:Int,(Yc (Zaa V c j)).set (j*2+1) (.int .i64 u)=Yc ((Zaa V c j).set j ((op,x).1,u))) :
 Zas (w.setCell ⟨g,j*2+1,none⟩ (.int .i64 ei)) base D F dl ((Zpw V KL k).set k (Zv (a,lo,r,c) (Zaa V c (j+1)))) cv:=by
 have hfk:((Zpw V KL k).set k (Zv (a,lo,r,c) (Zaa V c j)))[k]? = some (Zv (a,lo,r,c) (Zaa V c j)):=List.getElem?_set_self (by rw [Zbn];exact hkl)
 have h1:=Zuh (i:=j*2+1) (u := .int .i64 ei) (c':=Zaa V c (j+1)) h hfk (by show cv[k]? = some (.slice _ (Zaa V c j).length cap);rw [Zji];exact hv) (by show (Zaa V c (j+1)).length=(Zaa V c j).length;rw [Zji,Zji]) (by show (Yc (Zaa V c j)).set _ _=_;rw [hs,hn])
 rw [List.set_set] at h1
 exact h1
theorem Yyr {g:Int->Int} {c:List Ins} {x:Ins} (h:x∈reJ g c) (e:x.1=17):x∈c:=by
 unfold reJ at h
 obtain ⟨y,hy,rfl⟩:=List.mem_map.1 h
 by_cases hj:jmp y.1=true
 · rw [if_pos hj] at e
   rw [show y.1=17 from e] at hj
   exact absurd hj (by decide)
 · rw [if_neg hj];exact hy
structure Zla (w:World) (b:Nat) (mem:Int) (D F FA:Value) (fa:Array Value):Prop where
 p:w.heap[b]? = some (.cells #[.int .i64 mem,D,F] 25 (0,0))
 x:w.heap[b+1]? = some (.cells fa 35 (0,0))
 r:w.heap[b+1+1]? = some (.cells #[.int .i64 0,.slice none 0 0,.slice none 0 0] 25 (0,0))
theorem Zaw {w w':World} {b:Nat} {mem:Int} {D F FA:Value} {fa:Array Value} {r:Option Nat} (h:Zla w b mem D F FA fa) (g:w.grownBy w' r) (h0:r≠some b) (h1:r≠some (b+1)) (h2:r≠some (b+1+1)):Zla w' b mem D F FA fa :=
 ⟨Zb h.p g h0,Zb h.x g h1,Zb h.r g h2⟩
theorem Zwg {w w':World} {b base:Nat} {mem:Int} {D F FA:Value} {fa:Array Value} {E:TypeId} {sz n:Nat} {v:Value} {xs:List Value} (h:Zla w b mem D F FA fa) (ho:w.ownsRow base E sz v n xs) (hp:E≠25) (hx:E≠35) (g:w.grownBy w' v.ownBlock):Zla w' b mem D F FA fa :=
 Zaw h g (Yp ho h.p hp) (Yp ho h.x hx) (Yp ho h.r hp)
theorem Xbi {w:World} {b:Nat} {mem:Int} {D F F' FA:Value} {fa:Array Value} (h:Zla w b mem D F FA fa):Zla (w.setCell ⟨b,2,none⟩ F') b mem D F' FA fa:=by
 have g:=Zh w b 2 F'
 exact ⟨by rw [Zg h.p];rfl,Zb h.x g (by simp),Zb h.r g (by simp;omega)⟩
theorem Xbh {w:World} {b:Nat} {mem:Int} {D F FA x1 x2:Value} {x0:Value} {m:Int} {fa:Array Value} (h:Zla w b mem D F FA fa) (e:x0 = .int .i64 m:=by rfl):Zla (((w.setCell ⟨b,0,none⟩ x0).setCell ⟨b,1,none⟩ x1).setCell ⟨b,2,none⟩ x2) b m x1 x2 FA fa:=by
 subst e
 have g:w.grownBy (((w.setCell ⟨b,0,none⟩ (.int .i64 m)).setCell ⟨b,1,none⟩ x1).setCell ⟨b,2,none⟩ x2) (some b):=Za (Za (Zh _ _ _ _) (Zh _ _ _ _)) (Zh _ _ _ _)
 exact ⟨Zyq h.p,Zb h.x g (by simp),Zb h.r g (by simp;omega)⟩
def bu6:Nat->Nat
 | 0=>32
 | 1=>33
 | 2=>34
 | 3=>35
 | 4=>36
 | 5=>37
 | 6=>38
 | 7=>39
 | 8=>1008
 | _=>5000
theorem Zjn:∀ i,i<9->∀ j,j<9->j≠i->bu6 j≠bu6 i:=by decide
theorem Yle (i:Nat) (h:i<9):i=0\/i=1\/i=2\/i=3\/i=4\/i=5\/i=6\/i=7\/i=8:=by omega
theorem Zsr (j:Nat) (hj:j∈[2,5,6,7]):∀ i,i<9->bu6 i≠j:=by revert j;decide
def Zyp (bp bi gF nF cF3 k mm nc ko kn:Nat) (po pn:Option Addr) (kk9:Nat):Nat->Value
 | 0 => .pointer (some ⟨bp,2,none⟩)
 | 1 => .slice (some ⟨gF,0,none⟩) nF cF3
 | 2 => .int .i64 k
 | 3 => .slice po mm ko
 | 4 => .slice pn (nc+1) kn
 | 5 => .slice po mm kk9
 | 6 => .pointer (some ⟨gF,k*4,none⟩)
 | 7 => .pointer (some ⟨gF,k*4+3,none⟩)
 | 8=>undef
 | _=>undef
theorem Xbj {bp bi gF nF cF3 k mm nc ko kn:Nat} {po pn:Option Addr} {kk9:Nat} {kk92:Nat} (l:Array Bool) (hun:l.getD 5 false=false):∀ i,i<9->l.getD i false=true->bu6 i<85->Zyp bp bi gF nF cF3 k mm nc ko kn po pn kk92 i=Zyp bp bi gF nF cF3 k mm nc ko kn po pn kk9 i:=by
 intro i hi hl _
 rcases Yle i hi with rfl|rfl|rfl|rfl|rfl|rfl|rfl|rfl|rfl <;> first|rfl|(rw [hun] at hl;cases hl)
theorem Ydy (mem:Int) (dl:List Int) (fs:List FnP) (pd pF:Option Addr) (cd cF B:Nat) (FA:Value) (gH cH gV:Nat) (gh:Nat->Nat) (hs:Nat->List Int) (V:List Bool) (w:World) (hBw:B<=w.heap.size) (hF:Yl w B pF fs) (hD:Rd w pd (dl.map (Value.int .u8))) (hd:dl.length<=4194304) (hn:fs.length<=64) (hok:∀ f∈fs,Ywy fs.length f.2.2.2) (hFA:Zhx w fs FA gH cH gV gh hs V) :
 Calls Try.prog 32 #[.agg #[.int .i64 mem,.slice pd dl.length cd,.slice pF fs.length cF],FA] w (Zfo w mem dl (Zam fs hs V)):=by
 obtain ⟨q1,q2,m1,m2,j1,j2,ce,co,rfl⟩:=hFA.f
 have XF:=Hq hFA
 have OK:=Hq hok
 have hni:(fs.length:Int)<=64:=by omega
 have GZ:=Xl w (.cells #[.int .i64 mem,.slice pd dl.length cd,.slice pF fs.length cF] 25) (.cells #[.slice (some ⟨gH,0,none⟩) fs.length cH,.slice q1 m1 j1,.slice q2 m2 j2,.slice (some ⟨gV,0,none⟩) fs.length fs.length,.int .i64 ce,.int .i64 co] 35) (.cells #[.int .i64 0,.slice none 0 0,.slice none 0 0] 25)
 have BX:=Hq (show Zla _ w.heap.size mem (.slice pd dl.length cd) (.slice pF fs.length cF) undef #[.slice (some ⟨gH,0,none⟩) fs.length cH,.slice q1 m1 j1,.slice q2 m2 j2,.slice (some ⟨gV,0,none⟩) fs.length fs.length,.int .i64 ce,.int .i64 co] from ⟨GZ.1,GZ.2.1,GZ.2.2⟩)
 have G0:=Hq (Xm w (.cells #[.int .i64 mem,.slice pd dl.length cd,.slice pF fs.length cF] 25) (.cells #[.slice (some ⟨gH,0,none⟩) fs.length cH,.slice q1 m1 j1,.slice q2 m2 j2,.slice (some ⟨gV,0,none⟩) fs.length fs.length,.int .i64 ce,.int .i64 co] 35) (.cells #[.int .i64 0,.slice none 0 0,.slice none 0 0] 25))
 have TW:=Hq (fun W (g:w.grownBy W none)=>Zib mem dl fs pd pF cd cF B W (Nat.le_trans hBw g.size) (Zq hF g (by simp)) (Ys hD g) hd (by omega) (fun f hf=>by have:=(hok f hf).l;omega))
 clear hF hok hD hFA GZ
 go_enter Try.func32,Try.ntmps32
 go_wp2_with fail
 have sz2:w.heap.size+1+1+1=(((w.alloc (.cells #[.int .i64 mem,.slice pd dl.length cd,.slice pF fs.length cF] 25)).alloc (.cells #[.slice (some ⟨gH,0,none⟩) fs.length cH,.slice q1 m1 j1,.slice q2 m2 j2,.slice (some ⟨gV,0,none⟩) fs.length fs.length,.int .i64 ce,.int .i64 co] 35)).alloc (.cells #[.int .i64 0,.slice none 0 0,.slice none 0 0] 25)).heap.size:=by simp
 generalize ((w.alloc (.cells #[.int .i64 mem,.slice pd dl.length cd,.slice pF fs.length cF] 25)).alloc (.cells #[.slice (some ⟨gH,0,none⟩) fs.length cH,.slice q1 m1 j1,.slice q2 m2 j2,.slice (some ⟨gV,0,none⟩) fs.length fs.length,.int .i64 ce,.int .i64 co] 35)).alloc (.cells #[.int .i64 0,.slice none 0 0,.slice none 0 0] 25)=w2 at *
 have SZ2:=Hq sz2
 clear sz2
 refine (TW.out w2 G0.out).mono ?_
 rintro e w3 ⟨D,F,cv,rfl,g3,o3⟩
 obtain ⟨pD,pF3,cD,cF3,rfl,rfl⟩:=Xa o3
 have G3:=Hq (Za G0.out g3)
 have BX3:=Hq (Zaw BX.out g3 (by simp) (by simp) (by simp))
 have O3:=Hq (Jm o3 (show w.heap.size<=w2.heap.size by have:=SZ2.out;omega))
 have a0:=Cq _ _ 0 _ _ _ BX3.out.p
 have a1:=Cq _ _ 1 _ _ _ BX3.out.p
 have a2:=Cq _ _ 2 _ _ _ BX3.out.p
 have z0:=frozen_of_row _ _ 0 _ _ BX3.out.p
 have z1:=frozen_of_row _ _ 1 _ _ BX3.out.p
 have z2:=frozen_of_row _ _ 2 _ _ BX3.out.p
 have la:=(Gs BX3.out.p)
 clear g3 o3
 go_wp2
 clear a0 a1 a2 z0 z1 z2 la
 have GS:=Zd (Zd (Zd (b:=w.heap.size) (o:=0) (v := .int .i64 mem) G3.out (Nat.le_refl _)) (b:=w.heap.size) (o:=1) (v := .slice pD dl.length cD) (Nat.le_refl _)) (b:=w.heap.size) (o:=2) (v := .slice pF3 fs.length cF3) (Nat.le_refl _)
 have G4:=Hq GS
 have BX4:=Hq (Xbh (x0 := .int .i64 mem) (x1 := .slice pD dl.length cD) (x2 := .slice pF3 fs.length cF3) BX3.out)
 have O4:=Hq (Jh (mem:=mem) O3.out BX3.out.p)
 clear GS
 generalize ((w3.setCell ⟨w.heap.size,0,none⟩ (.int .i64 mem)).setCell ⟨w.heap.size,1,none⟩ (.slice pD dl.length cD)).setCell ⟨w.heap.size,2,none⟩ (.slice pF3 fs.length cF3)=w4 at *
 have p2:=Cq _ _ 2 _ _ _ BX4.out.p
 have lp:=(Gs BX4.out.p)
 go_loopw [18] (fun i wr=>∃ (k:Nat) (cv:List Value),i = .int .i64 k/\k<=fs.length/\w.grownBy wr none/\Zla wr w.heap.size mem (.slice pD dl.length cD) (.slice pF3 fs.length cF3) undef #[.slice (some ⟨gH,0,none⟩) fs.length cH,.slice q1 m1 j1,.slice q2 m2 j2,.slice (some ⟨gV,0,none⟩) fs.length fs.length,.int .i64 ce,.int .i64 co]/\Zas wr w.heap.size (.slice pD dl.length cD) (.slice pF3 fs.length cF3) dl (Zgc fs hs k) cv) (fun i _=>fs.length - (intOf i).toNat)
 case atStart=>exact ⟨0,cv,rfl,Nat.zero_le _,G4.out,BX4.out,by rw [Zwd];exact O4.out⟩
 case round =>
  clear p2 lp
  obtain ⟨k,cvk,rfl,hk,hg,hbx,ho⟩:=hrel
  have HG:=Hq hg
  have HX:=Hq hbx
  have HO:=Hq ho
  by_cases hlt:(k:Int)<(fs.length:Int)
  · obtain ⟨⟨a,lo,r,c⟩,hf⟩:∃ f,fs[k]? = some f:=⟨_,List.getElem?_eq_getElem (by omega)⟩
    have hkf:(Zgc fs hs k)[k]? = some (a,lo,r,c):=by rw [Zfm hf,if_neg (by omega)]
    have hbk:=OK.out _ (List.mem_of_getElem? hf)
    simp only [] at hbk
    obtain ⟨v,hv⟩:∃ v,cvk[k]? = some v:=⟨_,List.getElem?_eq_getElem (by rw [ho.cl,Xh];omega)⟩
    have hrow:=ho.each k _ v hkf hv
    obtain ⟨gk,kk,hvv,hgk,-⟩:=Zx hrow (show 0<c.length from hbk.n)
    subst hvv
    obtain ⟨gF,kF,hFv,hgF,hcF⟩:=Zx ho.fr (by rw [Xh];omega)
    rw [Xh] at hFv
    injection hFv with q1 q2 q3
    subst q1;subst q3
    obtain ⟨-,-,-,q3⟩:=Jj _ cvk k _ _ hkf hv
    have cF:=hcF _ _ q3 (by rw [Xh];omega)
    have GB:=Ga wr (.cells #[.int .i64 (k:Int)] 3) none
    have e3:=GB.cell cF (by simp)
    have x2:=Cq _ _ 2 _ _ _ (Zb hbx.p GB (by simp))
    have lx2:=(Array.getElem?_eq_some_iff.1 (Zb hbx.p GB (by simp))).1
    have x0:=Cq _ _ 0 _ _ _ (Zb hbx.x GB (by simp))
    have XI:=heap_alloc_new wr (.cells #[.int .i64 (k:Int)] 3)
    have i0:=Cq _ _ 0 _ _ _ XI
    have li:=(Gs XI)
    have lF:=Nat.lt_of_lt_of_le hgF GB.size
    have hfa:=Zcj XF.out (Za hg GB)
    obtain ⟨hh0,hh1⟩:=hfa.h k _ hf
    have KI:=Hq (Ypk c (some ⟨gk,0,none⟩) kk (hB (hs k)) (wr.alloc (.cells #[.int .i64 (k:Int)] 3)) hbk.l (Znf (Zvv (hrow.kept GB (Classical.em _))).2 (Nat.le_refl _)) ⟨w.heap.size+1,0,none⟩ ⟨wr.heap.size,0,none⟩ (fun W g i hi=>Yyb (w.heap.size+1) wr.heap.size gH (gh k) k i fs.length c.length cH c.length _ W (g.cell x0 (by simp)) (g.cell i0 (by simp)) (g.cell hh0 (by simp)) (g.cell (hh1 i hi) (by simp)) (by omega) hi))
    have G5:=Hq (Za hg GB)
    have B5:=Hq (Zaw hbx GB (by simp) (by simp) (by simp))
    have O5:=Hq (Yv ho GB)
    have XI5:=Hq XI
    have HF:=Hq hf
    have HV:=Hq hv
    have HKF:=Hq hkf
    have BK:=Hq hbk
    have hcl:(c.length:Int)<=4096:=by have:=hbk.l;omega
    clear hf hkf hbk hv hrow hcF q3 cF GB XI hfa hh0 hh1 hg hbx ho q2 x0 i0
    go_wp2_with fail
    generalize hbi:wr.heap.size=bi at *
    have HBI:=Hq hbi
    clear hbi
    generalize wr.alloc (.cells #[.int .i64 (k:Int)] 3)=w5 at *
    refine KI.out.mono ?_
    rintro e w6 ⟨vo,vn,rfl,g6,o6,n6⟩
    obtain ⟨po,ko,rfl⟩:=Zp o6
    obtain ⟨pn,kn,rfl⟩:=Zp n6
    have HM:=Yk c (hB (hs k)) c.length (Nat.le_refl _)
    have hml:=Zdm (hB (hs k)) c.length
    rw [<- HM] at hml
    have RN:=Hq (fun W (g:w6.grownBy W none)=>Zmn (Xk c (hB (hs k)) c.length) (Zbg (hB (hs k)) (c.length+1) (c.length+1)) w5.heap.size w5.heap.size _ _ W (by omega) (o6.kept g (Classical.em _)) (by rw [Zmv];exact n6.kept g (Classical.em _)) (fun x hx hj=>by rw [Zmv];have:=BK.out.j x (Zer hx) hj;omega))
    have RC:=Hq (show reJ (fun a=>(Zbg (hB (hs k)) (c.length+1) (c.length+1)).getD a.toNat 0) (Xk c (hB (hs k)) c.length)=Jf c (hs k) from Zua fun x hx hj=>by
     have:=BK.out.j x (Zer hx) hj
     exact Yom _ _ _ (by omega))
    have bL:=(Gs B5.out.p)
    have s2:=g6.cell x2 (by simp)
    have s3:=g6.cell e3 (by simp)
    have si:=g6.cell (Cq _ _ 0 _ _ _ XI5.out) (by simp)
    have m2:=Nat.lt_of_lt_of_le lx2 g6.size
    have mi:=Nat.lt_of_lt_of_le li g6.size
    have mF:=Nat.lt_of_lt_of_le lF g6.size
    have G6:=Hq g6
    have OO:=Hq o6
    have HMM:=Hq hml
    have t2:=x2
    have t3:=e3
    have ti:=Cq _ _ 0 _ _ _ XI5.out
    have y2:=lx2
    have yi:=li
    have yF:=lF
    have TT:=Hq (And.intro t2 (And.intro t3 (And.intro ti (And.intro y2 (And.intro yi yF)))))
    clear g6 o6 n6 x2 e3 lx2 li lF HM hml bL t2 t3 ti y2 yi yF
    generalize hmm:(Xk c (hB (hs k)) c.length).length=mm at *
    have HMM2:=Hq hmm
    clear hmm
    go_wp2
    obtain ⟨t2,t3,ti,y2,yi,yF⟩:=TT.out
    go_upto_region 6 with fail
    rename (∀ (a:Act) (w:World),Code.wp _ _ _ a w->_)=>hK
    refine Je (n:=9) (J:=fun a0 l a1 w1=>∃ kk9,RJ a0 85 9 bu6 (Zyp w.heap.size bi gF fs.length cF3 k mm c.length ko kn po pn kk9) l a1/\WY 5 8 9 [(1,0),(5,3),(5,4),(6,1),(6,2),(7,6),(8,7),(8,5)] (w6.drew) (fun W'=>w5.grownBy W' none) (fun W'=>w5.grownBy W' none/\kk9=ko/\W'.ownsRow w5.heap.size 49 2 (.slice po mm kk9) mm (Yc (Jf c (hs k)))) (fun W'=>∃ w7:World,W'=w7.setCell ⟨gF,k*4+3,none⟩ (.slice po mm kk9)/\w5.grownBy w7 none/\kk9=ko/\w7.ownsRow w5.heap.size 49 2 (.slice po mm kk9) mm (Yc (Jf c (hs k)))) l w1) (by kernel_rfl) rfl (Zai (by kernel_rfl)) (fun l a1 w1 h=>by obtain ⟨_,_,h⟩:=h;exact h.sz) ⟨0,Jd rfl,Zld (Ze G6.out)⟩ ?step ?fin
    case step =>
     intro l a1 w' i hJJ hi hin
     obtain ⟨kk9,hJ,hW⟩:=hJJ
     have hun:l.getD i false=false:=getD_both (mem_ready.1 hi).1
     have hns:=Ybp hW hin hun
     have hb:=hW.b hns
     have l0:=Nat.lt_of_lt_of_le y2 hb.size
     have l1:=Nat.lt_of_lt_of_le yi hb.size
     have l2:=Nat.lt_of_lt_of_le yF hb.size
     rcases Yle i hin with rfl|rfl|rfl|rfl|rfl|rfl|rfl|rfl|rfl
     · have e2:a1.tmps.getD 2 undef = .pointer (some ⟨w.heap.size,0,none⟩):=hJ.un 2 (fun i hi _=>Zsr 2 (by decide) i hi)
       exact Zj (Zo hW hJ rfl (by rfl) rfl (by decide) (by decide) (Zjn _ (by decide)) (w':=w') (by simp [execOp,resolve,invoke,builtin,Act.eval,e2,hlt,l0,l1,l2,go_sem,Zyp]) (Yi hW (by decide) hun (by decide) (by decide) (Zr _ hi (by kernel_rfl)))) (fun a9 w9 h9=>⟨kk9,h9⟩)
     · have e32:a1.tmps.getD 32 undef = .pointer (some ⟨w.heap.size,2,none⟩):=(Zu hJ hi 0 (by kernel_rfl))
       have h0:=hb.cell t2 (by simp)
       exact Zj (Zo hW hJ rfl (by rfl) rfl (by decide) (by decide) (Zjn _ (by decide)) (w':=w') (by simp [execOp,resolve,invoke,builtin,Act.eval,e32,h0,hlt,l0,l1,l2,go_sem,Zyp]) (Yi hW (by decide) hun (by decide) (by decide) (Zr _ hi (by kernel_rfl)))) (fun a9 w9 h9=>⟨kk9,h9⟩)
     · have e5:a1.tmps.getD 5 undef = .pointer (some ⟨bi,0,none⟩):=hJ.un 5 (fun i hi _=>Zsr 5 (by decide) i hi)
       have h0:=hb.cell ti (by simp)
       exact Zj (Zo hW hJ rfl (by rfl) rfl (by decide) (by decide) (Zjn _ (by decide)) (w':=w') (by simp [execOp,resolve,invoke,builtin,Act.eval,e5,h0,hlt,l0,l1,l2,go_sem,Zyp]) (Yi hW (by decide) hun (by decide) (by decide) (Zr _ hi (by kernel_rfl)))) (fun a9 w9 h9=>⟨kk9,h9⟩)
     · have e6:a1.tmps.getD 6 undef = .slice po mm ko:=hJ.un 6 (fun i hi _=>Zsr 6 (by decide) i hi)
       exact Zj (Zo hW hJ rfl (by rfl) rfl (by decide) (by decide) (Zjn _ (by decide)) (w':=w') (by simp [execOp,resolve,invoke,builtin,Act.eval,e6,hlt,l0,l1,l2,go_sem,Zyp]) (Yi hW (by decide) hun (by decide) (by decide) (Zr _ hi (by kernel_rfl)))) (fun a9 w9 h9=>⟨kk9,h9⟩)
     · have e7:a1.tmps.getD 7 undef = .slice pn (c.length+1) kn:=hJ.un 7 (fun i hi _=>Zsr 7 (by decide) i hi)
       exact Zj (Zo hW hJ rfl (by rfl) rfl (by decide) (by decide) (Zjn _ (by decide)) (w':=w') (by simp [execOp,resolve,invoke,builtin,Act.eval,e7,hlt,l0,l1,l2,go_sem,Zyp]) (Yi hW (by decide) hun (by decide) (by decide) (Zr _ hi (by kernel_rfl)))) (fun a9 w9 h9=>⟨kk9,h9⟩)
     · have e35:a1.tmps.getD 35 undef = .slice po mm ko:=(Zu hJ hi 3 (by kernel_rfl))
       have e36:a1.tmps.getD 36 undef = .slice pn (c.length+1) kn:=(Zu hJ hi 4 (by kernel_rfl))
       have hw0:=hW.h0 hun
       subst hw0
       refine Jb rfl (by rfl) (by simp [execOp,resolve,invoke,Act.eval,e35,e36,go_sem]) (Calls.mono (RN.out w6.drew (Ze (Zc w6 none))) (fun e w2 he => ?_))
       obtain ⟨he1,g6,o9⟩:=he
       obtain ⟨kk92,hkk92⟩:∃ x:Nat,x=ko:=⟨_,rfl⟩
       rw [RC.out,HMM2.out,<- hkk92] at o9
       rw [<- hkk92] at he1
       subst he1
       have g7:w5.grownBy w2 none:=Yw (Za G6.out (Ze (Zc w6 none))) g6 (fun q hq=>(OO.out.lt q hq).1)
       refine ⟨_,rfl,kk92,?_,Zqb hW (by decide) hun (by decide) (Zr _ hi (by kernel_rfl)) (g7) (⟨g7,hkk92,o9⟩)⟩
       exact Zch (val:=Zyp w.heap.size bi gF fs.length cF3 k mm c.length ko kn po pn kk92) (Zbe hJ (Xbj l hun)) (by decide) (by decide) (Zjn _ (by decide))
     · have e33:a1.tmps.getD 33 undef = .slice (some ⟨gF,0,none⟩) fs.length cF3:=(Zu hJ hi 1 (by kernel_rfl))
       have e34:a1.tmps.getD 34 undef = .int .i64 k:=(Zu hJ hi 2 (by kernel_rfl))
       exact Zj (Zo hW hJ rfl (by rfl) rfl (by decide) (by decide) (Zjn _ (by decide)) (w':=w') (by first|(simp [execOp,resolve,invoke,builtin,Act.eval,e33,e34,hlt,l0,l1,l2,go_sem,Zyp];done)|(simp [execOp,resolve,invoke,builtin,Act.eval,e33,e34,hlt,l0,l1,l2,go_sem,Zyp];omega)|(simp [execOp,resolve,invoke,builtin,Act.eval,e33,e34,hlt,l0,l1,l2,go_sem,Zyp];intro h;omega)|(simp [execOp,resolve,invoke,builtin,Act.eval,e33,e34,hlt,l0,l1,l2,go_sem,Zyp];intros;omega)) (Yi hW (by decide) hun (by decide) (by decide) (Zr _ hi (by kernel_rfl)))) (fun a9 w9 h9=>⟨kk9,h9⟩)
     · have e38:a1.tmps.getD 38 undef = .pointer (some ⟨gF,k*4,none⟩):=(Zu hJ hi 6 (by kernel_rfl))
       exact Zj (Zo hW hJ rfl (by rfl) rfl (by decide) (by decide) (Zjn _ (by decide)) (w':=w') (by simp [execOp,resolve,invoke,builtin,Act.eval,e38,hlt,l0,l1,l2,go_sem,Zyp]) (Yi hW (by decide) hun (by decide) (by decide) (Zr _ hi (by kernel_rfl)))) (fun a9 w9 h9=>⟨kk9,h9⟩)
     · have e39:a1.tmps.getD 39 undef = .pointer (some ⟨gF,k*4+3,none⟩):=(Zu hJ hi 7 (by kernel_rfl))
       have e37:a1.tmps.getD 37 undef = .slice po mm kk9:=(Zu hJ hi 5 (by kernel_rfl))
       have hpw:=hW.h1 (Zl hi 5 (by kernel_rfl)) hun
       have hc9:=hb.cell t3 (by simp)
       have hfz9:w'.frozen? ⟨gF,k*4+3,none⟩=false:=Ye (O5.out.fr.kept hb (Classical.em _)) (k*4+3)
       exact Zj (Zdn hW hJ rfl rfl rfl (by decide) (by decide) (w':=w'.setCell ⟨gF,k*4+3,none⟩ (.slice po mm kk9)) (by simp [execOp,Act.eval,e39,e37,hfz9,hc9,go_sem]) (Zlc hW (by decide) (by decide) (by decide) (fun j hj hne=>by
        rcases Yle j hj with rfl|rfl|rfl|rfl|rfl|rfl|rfl|rfl|rfl
        · exact hW.cl (1,0) (by decide) (hW.cl (6,1) (by decide) (hW.cl (7,6) (by decide) (Zl hi 7 (by kernel_rfl))))
        · exact hW.cl (6,1) (by decide) (hW.cl (7,6) (by decide) (Zl hi 7 (by kernel_rfl)))
        · exact hW.cl (6,2) (by decide) (hW.cl (7,6) (by decide) (Zl hi 7 (by kernel_rfl)))
        · exact hW.cl (5,3) (by decide) (Zl hi 5 (by kernel_rfl))
        · exact hW.cl (5,4) (by decide) (Zl hi 5 (by kernel_rfl))
        · exact Zl hi 5 (by kernel_rfl)
        · exact hW.cl (7,6) (by decide) (Zl hi 7 (by kernel_rfl))
        · exact Zl hi 7 (by kernel_rfl)
        · exact absurd rfl hne) (Zr _ hi (by kernel_rfl)) (⟨w',rfl,hpw.1,hpw.2.1,hpw.2.2⟩))) (fun a9 w9 h9=>⟨kk9,h9⟩)
    intro l a1 w9 hJJ hl
    obtain ⟨kk9,hJ,hW⟩:=hJJ
    obtain ⟨w7,rfl,g7,hkk,o7⟩:=hW.h2 (hl 8 (by decide))
    subst hkk
    have hput:=Zag hJ rfl hl (fun i j h1 h2 h3=>Zjn j h2 i h1 h3)
    subst hput
    have O7:=Yv O5.out g7
    have hbF:=(O7.fr.lt gF rfl).1
    have hil:=(List.getElem?_eq_some_iff.1 HKF.out).1
    have OP:=Zzv (w':=w7) (f':=Zv (a,lo,r,c) (Jf c (hs k))) (v := .slice po mm kk9) (by rw [Xh];exact O7) HKF.out ⟨rfl,rfl,rfl⟩ (by
     show World.ownsRow _ _ _ _ _ (Jf c (hs k)).length (Yc (Jf c (hs k)))
     rw [show (Jf c (hs k)).length=mm by rw [<- HMM2.out];simp [Jf,reJ]]
     exact Zz o7 G5.out.size) (fun k' v' b hne hv' hb hb2=>by
     have hk'l:=(List.getElem?_eq_some_iff.1 hv').1
     rw [O5.out.cl] at hk'l
     have h1:=((O5.out.each k' _ v' (List.getElem?_eq_getElem hk'l) hv').lt b hb).2
     have h2:=(o7.lt b hb2).1
     omega)
    rw [<- Zwf HF.out,Xh] at OP
    have ON:=Hq OP
    have GN:=Hq (Zd (b:=gF) (o:=k*4+3) (v := .slice po mm kk9) (Za G5.out g7) hbF)
    have BN:=Hq (Zwg (Zaw B5.out g7 (by simp) (by simp) (by simp)) O7.fr (by decide) (by decide) (Zh w7 gF (k*4+3) (.slice po mm kk9)))
    clear hJ hW hl g7 o7 O7 OP hbF hil
    refine hK _ _ ?_
    simp only [Zay,bu6,Zyp,Act.put,List.setIfInBounds_toArray,List.set_cons_zero,List.set_cons_succ]
    clear hK s2 s3 si m2 mi mF t2 t3 ti y2 yi yF
    go_wp2
    go_roundw
    case rel=>exact ⟨k+1,_,by go_num,by omega,GN.out,BN.out,ON.out⟩
    case measure=>simp [intOf];omega
  · have hkn:k=fs.length:=by omega
    subst hkn
    have hz:(Zop (Zgc fs hs fs.length) cvk).length=fs.length:=by rw [Zlb ho.cl,Xh]
    have hq0:=ho
    rw [show (Value.slice pF3 fs.length cF3) = .slice pF3 (Zgc fs hs fs.length).length cF3 by rw [Xh]] at hq0
    have x3:=Cq _ _ 3 _ _ _ hbx.x
    have hfa:=Zcj XF.out hg
    have KF:=Ypl (Zop (Zgc fs hs fs.length) cvk) pF3 cF3 (vB V) wr (by rw [hz];omega) (Yjn hq0) ⟨w.heap.size+1,0,none⟩ (fun W g i hi=>Yya (w.heap.size+1) gV i fs.length fs.length (vB V i) W (g.cell x3 (by simp)) (g.cell (hfa.v i (by rw [hz] at hi;exact hi)) (by simp)) (by rw [hz] at hi;exact hi))
    rw [hz] at KF
    have KI:=Hq KF
    have p2:=Cq _ _ 2 _ _ _ hbx.p
    have lp:=(Gs hbx.p)
    clear KF hq0 x3 hfa hg hbx ho
    go_wp2_with fail
    clear p2 lp
    refine KI.out.mono ?_
    rintro e w6 ⟨vo,vn,rfl,g6,o6,n6⟩
    obtain ⟨po,ko,rfl⟩:=Zp o6
    obtain ⟨pn,kn,rfl⟩:=Zp n6
    have hKl:=Yk (Zop (Zgc fs hs fs.length) cvk) (vB V) fs.length (by rw [hz];exact Nat.le_refl _)
    have hKl2:=Yk (Zgc fs hs fs.length) (vB V) fs.length (by rw [Xh];exact Nat.le_refl _)
    have hKl3:=Zdm (vB V) fs.length
    have OK6:=Ygv (b:=vB V) HO.out g6 HG.out.size (by rw [hz];exact o6)
    rw [Xh] at OK6
    rw [hKl,<- hKl2]
    rw [hKl,<- hKl2] at OK6
    have O6:=Hq OK6
    have G6:=Hq (Za HG.out g6)
    have B6:=Hq (Zaw HX.out g6 (by simp) (by simp) (by simp))
    have N6:=Hq (Zz n6 HG.out.size)
    have CR:=Hq (show ∀ f∈Xk (Zgc fs hs fs.length) (vB V) fs.length,f.2.2.2.length<=4096/\∀ x∈f.2.2.2,x.1=17->0<=x.2/\x.2<fs.length from fun f hf=>by
     have h1:=Zer hf
     obtain ⟨i,hi⟩:=List.getElem?_of_mem h1
     have hil:=(List.getElem?_eq_some_iff.1 hi).1
     rw [Xh] at hil
     rw [Zfm (List.getElem?_eq_getElem hil),if_pos hil] at hi
     injection hi with hi
     subst hi
     have hb0:=OK.out _ (List.getElem_mem hil)
     refine ⟨?_,fun x hx e => ?_⟩
     · show (Jf (fs[i]).2.2.2 (hs i)).length<=4096
       have h2:=Yk (fs[i]).2.2.2 (hB (hs i)) _ (Nat.le_refl _)
       have h3:=Zdm (hB (hs i)) (fs[i]).2.2.2.length
       have h4:=hb0.l
       simp only [Jf,reJ,List.length_map]
       omega
     · have hx2:x∈Jf (fs[i]).2.2.2 (hs i):=hx
       unfold Jf at hx2
       exact hb0.k x (Zer (Yyr hx2 e)) e)
    have hML:((Xk (Zgc fs hs fs.length) (vB V) fs.length).length:Int)<=64:=by omega
    have EQ:=Hq (show Zam fs hs V=Zpw V (Xk (Zgc fs hs fs.length) (vB V) fs.length) (Xk (Zgc fs hs fs.length) (vB V) fs.length).length from (Yqj _ _).symm)
    clear OK6 g6 o6 n6 hKl hKl2 hKl3 hz
    generalize Xk (Zgc fs hs fs.length) (vB V) fs.length=KL at *
    generalize Xk cvk (vB V) fs.length=CV at *
    go_wp2
    go_loopw [50] (fun i wr=>∃ k:Nat,i = .int .i64 k/\k<=KL.length/\w.grownBy wr none/\Zla wr w.heap.size mem (.slice pD dl.length cD) (.slice pF3 fs.length cF3) undef #[.slice (some ⟨gH,0,none⟩) fs.length cH,.slice q1 m1 j1,.slice q2 m2 j2,.slice (some ⟨gV,0,none⟩) fs.length fs.length,.int .i64 ce,.int .i64 co] /\
     Zas wr w.heap.size (.slice pD dl.length cD) (.slice po KL.length ko) dl (Zpw V KL k) CV/\wr.ownsRow w.heap.size 3 1 (.slice pn (fs.length+1) kn) (fs.length+1) ((Zbg (vB V) (fs.length+1) (fs.length+1)).map (Value.int .i64))) (fun i _=>KL.length - (intOf i).toNat)
    case atStart=>exact ⟨0,rfl,Nat.zero_le _,G6.out,B6.out,by rw [Ykz];exact O6.out,N6.out⟩
    case round =>
     obtain ⟨k,rfl,hk,hg,hbx,ho,hnum⟩:=hrel
     have HG2:=Hq hg
     have HX2:=Hq hbx
     have HO2:=Hq ho
     have HN2:=Hq hnum
     by_cases hlt:(k:Int)<(KL.length:Int)
     · obtain ⟨⟨a,lo,r,c⟩,hf⟩:∃ f,KL[k]? = some f:=⟨_,List.getElem?_eq_getElem (by omega)⟩
       obtain ⟨v,hv⟩:∃ v,CV[k]? = some v:=⟨_,List.getElem?_eq_getElem (by rw [ho.cl,Zbn];omega)⟩
       have hkf:(Zpw V KL k)[k]? = some (a,lo,r,c):=by rw [Zjj hf,if_neg (by omega)]
       have hrow:=ho.each k _ v hkf hv
       obtain ⟨pv,kv,rfl⟩:=Zp hrow
       obtain ⟨gF,kF,hFv,hgF,hcF⟩:=Zx ho.fr (by rw [Zbn];omega)
       rw [Zbn] at hFv
       injection hFv with e1 e2 e3
       subst e1;subst e3
       obtain ⟨-,-,-,q3⟩:=Jj _ CV k _ _ hkf hv
       have cF:=hcF _ _ q3 (by rw [Zbn];omega)
       obtain ⟨hcl,hc17⟩:=CR.out _ (List.mem_of_getElem? hf)
       simp only [] at hcl hc17
       have hcli:(c.length:Int)<=4096:=by omega
       have C17:=Hq hc17
       have HF:=Hq hf
       have HV:=Hq hv
       have OZ:=Hq (show Zas wr w.heap.size (.slice pD dl.length cD) (.slice (some ⟨gF,0,none⟩) KL.length ko) dl ((Zpw V KL k).set k (Zv (a,lo,r,c) (Zaa V c 0))) CV by
        rw [Ydv,show Zv (a,lo,r,c) c=(a,lo,r,c) from rfl]
        obtain ⟨h3,h4⟩:=List.getElem?_eq_some_iff.1 hkf
        rw [<- h4,List.set_getElem_self h3]
        exact ho)
       clear hg hbx ho hnum hf hv hkf hrow hcF q3 hc17 e2
       obtain ⟨wo,hwo⟩:∃ wo,wo=wr:=⟨_,rfl⟩
       subst hwo
       go_wp2
       clear cF hgF
       go_loopw [59] (fun i wr=>∃ j:Nat,i = .int .i64 j/\j<=c.length/\w.grownBy wr none/\Zla wr w.heap.size mem (.slice pD dl.length cD) (.slice pF3 fs.length cF3) undef #[.slice (some ⟨gH,0,none⟩) fs.length cH,.slice q1 m1 j1,.slice q2 m2 j2,.slice (some ⟨gV,0,none⟩) fs.length fs.length,.int .i64 ce,.int .i64 co] /\
        Zas wr w.heap.size (.slice pD dl.length cD) (.slice (some ⟨gF,0,none⟩) KL.length ko) dl ((Zpw V KL k).set k (Zv (a,lo,r,c) (Zaa V c j))) CV/\wr.ownsRow w.heap.size 3 1 (.slice pn (fs.length+1) kn) (fs.length+1) ((Zbg (vB V) (fs.length+1) (fs.length+1)).map (Value.int .i64))) (fun i _=>c.length - (intOf i).toNat)
       case atStart=>exact ⟨0,rfl,Nat.zero_le _,HG2.out,HX2.out,OZ.out,HN2.out⟩
       case round =>
        obtain ⟨j,rfl,hj,hg,hbx,ho,hnum⟩:=hrel
        have IG:=Hq hg
        have IX:=Hq hbx
        have IO:=Hq ho
        have IN:=Hq hnum
        clear OZ
        have hfk:((Zpw V KL k).set k (Zv (a,lo,r,c) (Zaa V c j)))[k]? = some (Zv (a,lo,r,c) (Zaa V c j)):=List.getElem?_set_self (by rw [Zbn];omega)
        by_cases hlj:(j:Int)<(c.length:Int)
        · obtain ⟨⟨op,x⟩,hx⟩:∃ x,c[j]? = some x:=⟨_,List.getElem?_eq_getElem (by omega)⟩
          have hrow:=ho.each k _ _ hfk HV.out
          have rl:(Zv (a,lo,r,c) (Zaa V c j)).2.2.2.length=c.length:=Zji _ _ _
          rw [rl] at hrow
          obtain ⟨gk,kk,ek,hgk,hck⟩:=Zx hrow (by omega)
          injection ek with e4 e5 e6
          subst e4;subst e6
          obtain ⟨qk0,qk1⟩:=Xy (Zaa V c j) j op x (Znv hx)
          have d0:=hck _ _ qk0 (by omega)
          have d1:=hck _ _ qk1 (by omega)
          have GX:=Ga wr (.cells #[.int .i64 op,.int .i64 x] 49) none
          by_cases h17:op=17
          · subst h17
            obtain ⟨hx0,hx1⟩:=C17.out _ (List.mem_of_getElem? hx) rfl
            simp only [] at hx0 hx1
            obtain ⟨m,rfl⟩:=Int.eq_ofNat_of_zero_le hx0
            obtain ⟨gF',cap',eF',hgF,hcF⟩:=Zx ho.fr (by rw [List.length_set,Zbn];omega)
            injection eF' with e1 e2 e3
            injection e1 with e1;injection e1 with e1 _ _;subst e1
            obtain ⟨-,-,-,q3⟩:=Jj _ CV k _ _ hfk HV.out
            have f3:=GX.cell (hcF _ _ q3 (by rw [List.length_set,Zbn];omega)) (by simp)
            have k1:=GX.cell d1 (by simp)
            have kz:=Ye (hrow.kept GX (Classical.em _)) (j*2+1)
            obtain ⟨gn,kn',en,hgn,hcn⟩:=Zx hnum (by omega)
            injection en with en1 en2 en3
            subst en1;subst en3
            have n1:=GX.cell (hcn m (.int .i64 (Yn (vB V) m)) (Yhp _ _ _ (by omega)) (by omega)) (by simp)
            have lFx:=Nat.lt_of_lt_of_le hgF GX.size
            have lkx:=Nat.lt_of_lt_of_le hgk GX.size
            have lnx:=Nat.lt_of_lt_of_le hgn GX.size
            have XX:=heap_alloc_new wr (.cells #[.int .i64 17,.int .i64 (m:Int)] 49)
            have y1:=Cq _ _ 1 _ _ _ XX
            have ly:=(Gs XX)
            have O8:=Hq (Yv ho GX)
            have G8:=Hq (Za hg GX)
            have X8:=Hq (Zaw hbx GX (by simp) (by simp) (by simp))
            have N8:=Hq (hnum.kept GX (Classical.em _))
            have R8:=Hq (hrow.kept GX (Classical.em _))
            have hm1:(m:Int)<(fs.length:Int)+1:=by omega
            have KN:=Hq (Zpv (V:=V) hx)
            have FS:=Hq (fun u=>Zhi (Zaa V c j) j (17,(m:Int)) u (Znv hx))
            have HFK:=Hq hfk
            clear hg hbx ho hnum hfk hx hrow rl hck qk0 qk1 GX hx0 hx1 hcF q3 hcn e2 e3 e5 en2 XX
            go_wp2
            clear d0 d1
            generalize hwx:wr.heap.size=bx at *
            have HBX:=Hq hwx
            clear hwx
            generalize wr.alloc (.cells #[.int .i64 17,.int .i64 (m:Int)] 49)=w8 at *
            generalize hst:((Yn (vB V) m:Nat):Int)=st at *
            have HST:=Hq hst
            clear hst
            go_region
            clear f3 k1 kz n1 lFx lkx lnx y1 ly
            have hbs:=(R8.out.lt gk rfl).1
            have NO:=Hq (Ywi (ei:=st) (x:=(m:Int)) O8.out (by omega) HV.out (by have:=KN.out;rw [this];simp only [if_true];rw [show ((m:Int)).toNat=m by simp,HST.out]) FS.out)
            have NG:=Hq (Zd (b:=gk) (o:=j*2+1) (v := .int .i64 st) G8.out hbs)
            have NX:=Hq (Zwg X8.out R8.out (by decide) (by decide) (Zh w8 gk (j*2+1) (.int .i64 st)))
            have NN:=Hq (N8.out.kept (Zh w8 gk (j*2+1) (.int .i64 st)) (Xq N8.out R8.out (by decide)))
            clear hbs
            go_wp2
            go_roundw
            case rel=>exact ⟨j+1,by go_num,by omega,Ze NG.out,Zaw NX.out (Ze (Zc _ none)) (by simp) (by simp) (by simp),Yv NO.out (Ze (Zc _ none)),NN.out.kept (Ze (Zc _ none)) (Classical.em _)⟩
            case measure=>simp [intOf];omega
          · have z17:(op == 17)=false:=by simpa using h17
            have KS:=Hq (Ydw (V:=V) hx h17)
            have O8:=Hq (Yv ho GX)
            have G8:=Hq (Za hg GX)
            have X8:=Hq (Zaw hbx GX (by simp) (by simp) (by simp))
            have N8:=Hq (hnum.kept GX (Classical.em _))
            clear hg hbx ho hnum hfk hx hrow rl hck qk0 qk1 GX h17 e5
            go_wp2
            go_roundw
            case rel=>exact ⟨j+1,by go_num,by omega,G8.out,X8.out,by rw [KS.out];exact O8.out,N8.out⟩
            case measure=>simp [intOf];omega
        · have hjn:j=c.length:=by omega
          subst hjn
          have OE:=Hq (show Zas wr w.heap.size (.slice pD dl.length cD) (.slice (some ⟨gF,0,none⟩) KL.length ko) dl (Zpw V KL (k+1)) CV by
           rw [Yla HF.out,show Zal V (a,lo,r,c).2.2.2=Zaa V c c.length from (Yky V c).symm]
           exact ho)
          clear hg hbx ho hnum hfk
          go_wp2
          go_roundw
          case rel=>exact ⟨k+1,by go_num,by omega,IG.out,IX.out,OE.out,IN.out⟩
          case measure=>simp [intOf];omega
     · have hkn:k=KL.length:=by omega
       subst hkn
       have OE:=Hq (show Zas wr w.heap.size (.slice pD dl.length cD) (.slice po KL.length ko) dl (Zam fs hs V) CV by rw [EQ.out];exact ho)
       have BP:=Xbi (F' := .slice po KL.length ko) hbx
       have BH:=Hq BP
       have u0:=Cq _ _ 0 _ _ _ hbx.p
       have u1:=Cq _ _ 1 _ _ _ hbx.p
       have u2:=Cq _ _ 2 _ _ _ hbx.p
       have u2z:=frozen_of_row _ _ 2 _ _ hbx.p
       have lu:=(Gs hbx.p)
       have v0:=Cq _ _ 0 _ _ _ hbx.r
       have v1:=Cq _ _ 1 _ _ _ hbx.r
       have v2:=Cq _ _ 2 _ _ _ hbx.r
       have z0:=frozen_of_row _ _ 0 _ _ hbx.r
       have z1:=frozen_of_row _ _ 1 _ _ hbx.r
       have z2:=frozen_of_row _ _ 2 _ _ hbx.r
       have lv:=(Gs hbx.r)
       clear hg hbx ho hnum BP
       go_wp2
       have OF:=Ynu (b:=w.heap.size) (o:=2) (v := .slice po KL.length ko) OE.out HX2.out.p
       refine bodyPost_ret (v := .agg #[.int .i64 mem,.slice pD dl.length cD,.slice po KL.length ko]) ?_ rfl ⟨_,_,CV,rfl,Zd (Zd (Zd (Zd HG2.out (Nat.le_refl _)) (by omega)) (by omega)) (by omega),Jh OF BH.out.r⟩
       rw [Yq rfl]
       go_simp
def Zdy (g:Nat->Int) (n k:Nat):List Int:=(List.range n).map fun j=>if j<k then g j else 0
theorem Zmw (g:Nat->Int) (n k:Nat):(Zdy g n k).length=n:=by simp [Zdy]
theorem Yhq (g:Nat->Int) (n k:Nat) (h:k<n):((Zdy g n k).map (Value.int .i64)).set k (.int .i64 (g k))=(Zdy g n (k+1)).map (Value.int .i64):=by
 apply List.ext_getElem?
 intro j
 by_cases e:j=k
 · subst e
   rw [List.getElem?_set_self (by simp [Zmw];exact h)]
   simp [Zdy,h]
 · rw [List.getElem?_set_ne (Ne.symm e)]
   by_cases hj:j<n
   · simp only [Zdy,List.map_map,List.getElem?_map,List.getElem?_range,hj,if_true]
     simp only [Option.map_some,Function.comp]
     by_cases h1:j<k
     · rw [if_pos h1,if_pos (by omega)]
     · rw [if_neg h1,if_neg (by omega)]
   · simp [Zdy,hj]
theorem Yct (g:Nat->Int) (n:Nat):(Zdy g n 0).map (Value.int .i64)=List.replicate n (.int .i64 0):=by
 apply List.ext_getElem?
 intro j
 by_cases hj:j<n
 · simp [Zdy,hj]
 · simp [Zdy,hj]
theorem Yhr (g:Nat->Int) (n k:Nat) (h:k<n):((Zdy g n k).map (Value.int .i64))[k]? = some (.int .i64 0):=by simp [Zdy,h]
theorem Yon (g:Nat->Int) (n i:Nat) (h:i<n):(Zdy g n n).getD i 0=g i:=by
 unfold Zdy
 rw [List.getD_eq_getElem?_getD,List.getElem?_map,List.getElem?_range h]
 simp
 omega
theorem Ydk (c:List Ins) (k:Nat):∀ (j:Nat) (u:Value),(Yc (c.drop k))[j]? = some u->(Yc c)[k*2+j]? = some u:=by
 intro j u h
 by_cases hk:k<=c.length
 · have e:Yc c=Yc (c.take k)++Yc (c.drop k):=by rw [<- Jv,List.take_append_drop]
   rw [e,List.getElem?_append_right (by rw [Xi,List.length_take];omega),Xi,List.length_take,Nat.min_eq_left hk]
   rw [show k*2+j - k*2=j by omega]
   exact h
 · rw [List.drop_eq_nil_of_le (by omega)] at h
   simp [Yc] at h
theorem Zke (c:List Ins) (k:Nat):∀ (j:Nat) (u:Value),(Yc (c.take k))[j]? = some u->(Yc c)[j]? = some u:=by
 intro j u h
 have e:Yc c=Yc (c.take k)++Yc (c.drop k):=by rw [<- Jv,List.take_append_drop]
 have:=(List.getElem?_eq_some_iff.1 h).1
 rw [e,List.getElem?_append_left this]
 exact h
structure Yqq (c:List Ins) (n long:Nat) (put:List Ins):Prop where
 l:c.length<=4096
 b:n<c.length
 g:1<=long
 t:n+long<=c.length
 p:put.length<=4096
 j:∀ x∈c,jmp x.1=true->0<=x.2/\x.2<c.length
 k:∀ x∈put,jmp x.1=true->0<=x.2/\x.2<c.length
def Xb (c:List Ins) (n long:Nat) (put:List Ins):List Ins:=reJ (Zbf n long put.length) (c.take n++put++c.drop (n+long))
def plG (n long many:Nat) (a:Nat):Int:=Zbf n long many a
theorem Ybk {w:World} {b o j:Nat} {u:Value} (h:w.cell? ⟨b,o+j,none⟩=some u):w.cell? ((⟨b,o,none⟩:Addr).add j)=some u:=by
 by_cases e0:j=0
 · subst e0;simpa [Addr.add] using h
 · simpa [Addr.add,e0] using h
section
variable {P:Program} {w:World}
theorem Zfq {ops:Array Oper} {rest:List Oper} {o:Oper} {a:Act} {Q:Exit->Act->World->Prop} (hgd:o.guard=none) (s x:Operand) (t:TypeId)
 (ho:o.op = .call { callee := .builtin .append,args := #[s,x],argTypes := #[t,t] })
 (base:Nat) (e:TypeId) (i:TypeInfo) (z:Value) (size bytes:Nat) (ht:P.underlying t=some (.slice e)) (hi:P.info? e=some i) (hz:i.zero=some z)
 (hsize:i.size=size) (hby:i.bytes=bytes) (hzs:z.cells.size=size) (hsz:0<size)
 (v:Value) (n:Nat) (xs:List Value) (hs:a.eval s=v) (hown:w.ownsRow base e size v n xs)
 (q:Option Addr) (m c:Nat) (news:List Value) (hx:a.eval x = .slice q m c) (hl:news.length=m*size) (hq:Rd w q news) (hqk:q=none->c=0) (h1:∀ u∈news,u.oneCell'=true)
 (h63:n+m<=maxLen) (hbytes:(n+m)*bytes<=140737488355328) (hbase:base<=w.heap.size)
 (h:∀ v' w',w'.ownsRow base e size v' (n+m) (xs++news)->w.grownBy w' v.ownBlock->wpList P ops Q rest (a.put o.dst v') w') :
 wpList P ops Q (o::rest) a w:=by
 cases q with
 | some ad=>exact wpList_append_own_at _ hgd s x t ho base e i z size bytes ht hi hz hsize hby hzs hsz v n xs hs hown ad m c news hx hl (Zis hq) h1 h63 hbytes hbase (fun v' w' h2 h3 _ _=>h v' w' h2 h3)
 | none =>
   have e0:=Zmp hq
   subst e0
   have hm:m=0:=by
    have h2:m*size=0:=by simpa using hl.symm
    rcases Nat.mul_eq_zero.1 h2 with h3|h3
    · exact h3
    · omega
   subst hm
   rw [hqk rfl] at hx
   refine wpList_append_own_none hgd s x t ho base e i size ht hi v n xs hs hown hx ?_
   exact h v w (by rw [List.append_nil];exact hown) (Zc _ _)
end
def re7:Nat->Nat
 | 0=>78
 | 1=>79
 | 2=>80
 | 3=>81
 | 4=>82
 | 5=>83
 | 6=>84
 | 7=>85
 | 8=>1008
 | _=>5000
theorem Zir:∀ i,i<9->∀ j,j<9->j≠i->re7 j≠re7 i:=by decide
theorem Ygo (i:Nat) (h:i<9):i=0\/i=1\/i=2\/i=3\/i=4\/i=5\/i=6\/i=7\/i=8:=by omega
theorem Zra (j:Nat) (hj:j∈[1,4,10,11]):∀ i,i<9->re7 i≠j:=by revert j;decide
def Zxj (bp gF nF cF3 k oc k7 gN nc:Nat) (p7:Option Addr) (kk9:Nat):Nat->Value
 | 0 => .pointer (some ⟨bp,2,none⟩)
 | 1 => .slice (some ⟨gF,0,none⟩) nF cF3
 | 2 => .int .i64 k
 | 3 => .slice p7 oc k7
 | 4 => .slice (some ⟨gN,0,none⟩) (nc+1) (nc+1)
 | 5 => .slice p7 oc kk9
 | 6 => .pointer (some ⟨gF,k*4,none⟩)
 | 7 => .pointer (some ⟨gF,k*4+3,none⟩)
 | 8=>undef
 | _=>undef
theorem Yys {bp gF nF cF3 k oc k7 gN nc:Nat} {p7:Option Addr} {kk9:Nat} {kk92:Nat} (l:Array Bool) (hun:l.getD 5 false=false):∀ i,i<9->l.getD i false=true->re7 i<87->Zxj bp gF nF cF3 k oc k7 gN nc p7 kk92 i=Zxj bp gF nF cF3 k oc k7 gN nc p7 kk9 i:=by
 intro i hi hl _
 rcases Ygo i hi with rfl|rfl|rfl|rfl|rfl|rfl|rfl|rfl|rfl <;> first|rfl|(rw [hun] at hl;cases hl)
theorem Ztz (mem:Int) (dl:List Int) (fs:List FnP) (pd pF q:Option Addr) (cd cF kq B k n long:Nat) (what:Int) (put:List Ins) (a lo r:Int) (c:List Ins) (w:World) (hBw:B<=w.heap.size) (hF:Yl w B pF fs) (hD:Rd w pd (dl.map (Value.int .u8))) (hd:dl.length<=4194304) (hn:fs.length<=64) (hls:∀ f∈fs,f.2.2.2.length<=4096) (hf:fs[k]? = some (a,lo,r,c)) (hok:Yqq c n long put) (hq:Rd w q (Yc put)) (hqk:q=none->kq=0) :
 Calls Try.prog 56 #[.agg #[.int .i64 mem,.slice pd dl.length cd,.slice pF fs.length cF],.int .i64 k,.int .i64 n,.agg #[.int .i64 long,.slice q put.length kq,.int .i64 what]] w (Zfo w mem dl (fs.set k (Zv (a,lo,r,c) (Xb c n long put)))):=by
 have HF:=Hq hf
 have RK:=Hq hok
 have hkl:=(List.getElem?_eq_some_iff.1 hf).1
 have hki:(k:Int)<(fs.length:Int):=by omega
 have hni:(fs.length:Int)<=64:=by omega
 have hcl:(c.length:Int)<=4096:=by have:=hok.l;omega
 have hnl:(n:Int)<(c.length:Int):=by have:=hok.b;omega
 have htl:(n:Int)+(long:Int)<=(c.length:Int):=by have:=hok.t;omega
 have hpl:(put.length:Int)<=4096:=by have:=hok.p;omega
 have hlg:1<=(long:Int):=by have:=hok.g;omega
 have GZ:=Xl w (.cells #[.int .i64 mem,.slice pd dl.length cd,.slice pF fs.length cF] 25) (.cells #[.int .i64 long,.slice q put.length kq,.int .i64 what] 104) (.cells #[.int .i64 0,.slice none 0 0,.slice none 0 0] 25)
 have T0:=Hq GZ.1
 have T1:=Hq GZ.2.1
 have T2:=Hq GZ.2.2
 have G0:=Hq (Xm w (.cells #[.int .i64 mem,.slice pd dl.length cd,.slice pF fs.length cF] 25) (.cells #[.int .i64 long,.slice q put.length kq,.int .i64 what] 104) (.cells #[.int .i64 0,.slice none 0 0,.slice none 0 0] 25))
 have TW:=Hq (fun W (g:w.grownBy W none)=>Zib mem dl fs pd pF cd cF B W (Nat.le_trans hBw g.size) (Zq hF g (by simp)) (Ys hD g) hd (by omega) (fun f hf=>by have:=hls f hf;omega))
 have RQ:=Hq hq
 clear hF hok hD hf hls GZ hq
 go_enter Try.func56,Try.ntmps56
 go_wp2_with fail
 have sz2:w.heap.size+1+1+1=(((w.alloc (.cells #[.int .i64 mem,.slice pd dl.length cd,.slice pF fs.length cF] 25)).alloc (.cells #[.int .i64 long,.slice q put.length kq,.int .i64 what] 104)).alloc (.cells #[.int .i64 0,.slice none 0 0,.slice none 0 0] 25)).heap.size:=by simp
 generalize ((w.alloc (.cells #[.int .i64 mem,.slice pd dl.length cd,.slice pF fs.length cF] 25)).alloc (.cells #[.int .i64 long,.slice q put.length kq,.int .i64 what] 104)).alloc (.cells #[.int .i64 0,.slice none 0 0,.slice none 0 0] 25)=w2 at *
 have SZ2:=Hq sz2
 clear sz2
 refine (TW.out w2 G0.out).mono ?_
 rintro e w3 ⟨D,F,cv,rfl,g3,o3⟩
 obtain ⟨pD,pF3,cD,cF3,rfl,rfl⟩:=Xa o3
 obtain ⟨v,hv⟩:∃ v,cv[k]? = some v:=⟨_,List.getElem?_eq_getElem (by rw [o3.cl];exact hkl)⟩
 have hrow:=o3.each k _ v HF.out hv
 obtain ⟨gk,kk,hvv,hgk,hck⟩:=Zx hrow (show 0<c.length by omega)
 subst hvv
 have hcap:c.length<=kk/\kk<=9223372036854775807:=Zms hrow
 obtain ⟨gF,kF,hFv,hgF,hcF⟩:=Zx o3.fr (by omega)
 injection hFv with q1 q2 q3
 subst q1;subst q3
 obtain ⟨-,-,-,q3⟩:=Jj _ cv k _ _ HF.out hv
 have cFk:=hcF _ _ q3 (by omega)
 have a0:=Cq _ _ 0 _ _ _ (Zb T0.out g3 (by simp))
 have a1:=Cq _ _ 1 _ _ _ (Zb T0.out g3 (by simp))
 have a2:=Cq _ _ 2 _ _ _ (Zb T0.out g3 (by simp))
 have z0:=frozen_of_row _ _ 0 _ _ (Zb T0.out g3 (by simp))
 have z1:=frozen_of_row _ _ 1 _ _ (Zb T0.out g3 (by simp))
 have z2:=frozen_of_row _ _ 2 _ _ (Zb T0.out g3 (by simp))
 have la:=(Array.getElem?_eq_some_iff.1 (Zb T0.out g3 (by simp))).1
 have nF:gF≠w.heap.size:=by intro e;have:=(o3.fr.lt gF rfl).1;have:=SZ2.out;omega
 have G3:=Hq (Za G0.out g3)
 have X0:=Hq (Zb T0.out g3 (by simp))
 have X1:=Hq (Zb T1.out g3 (by simp))
 have X2:=Hq (Zb T2.out g3 (by simp))
 have O3:=Hq (Jm o3 (show w.heap.size<=w2.heap.size by have:=SZ2.out;omega))
 have HV:=Hq hv
 have hc1:(n:Int)<=(kk:Int):=by omega
 have hc2:(0:Int)<=(n:Int):=by omega
 have hc3:n<=kk:=by omega
 clear g3 o3 hv hrow hck hcF q3 q2
 go_upto_region 4 with fail
 clear a0 a1 a2 z0 z1 z2 la cFk hgk hgF hc1 hc2 hc3
 have gT:w3.grownBy (((w3.setCell ⟨w.heap.size,0,none⟩ (.int .i64 mem)).setCell ⟨w.heap.size,1,none⟩ (.slice pD dl.length cD)).setCell ⟨w.heap.size,2,none⟩ (.slice (some ⟨gF,0,none⟩) fs.length cF3)) (some w.heap.size):=Za (Za (Zh _ _ _ _) (Zh _ _ _ _)) (Zh _ _ _ _)
 have G4:=Hq (Yw G3.out gT (fun k hk=>by injection hk with hk;omega))
 have Y0:=Hq (Zyq (x0 := .int .i64 mem) (x1 := .slice pD dl.length cD) (x2 := .slice (some ⟨gF,0,none⟩) fs.length cF3) X0.out)
 have Y1:=Hq (Zb X1.out gT (by simp))
 have Y2:=Hq (Zb X2.out gT (by simp;omega))
 have O4:=Hq (Jh (mem:=mem) O3.out X0.out)
 clear gT
 generalize ((w3.setCell ⟨w.heap.size,0,none⟩ (.int .i64 mem)).setCell ⟨w.heap.size,1,none⟩ (.slice pD dl.length cD)).setCell ⟨w.heap.size,2,none⟩ (.slice (some ⟨gF,0,none⟩) fs.length cF3)=w4 at *
 obtain ⟨bi,bi0,bi1,bi2,bi3⟩:=info_parts Zjb
 obtain ⟨ii,ii0,ii1,ii2,ii3⟩:=info_parts Zao
 have RW:=Hq (O4.out.each k _ _ HF.out HV.out)
 obtain ⟨gk',kk',e9,hgk,hck⟩:=Zx RW.out (show 0<c.length by omega)
 injection e9 with e10 e11 e12
 injection e10 with e10;injection e10 with e10 _ _;subst e10
 have CK:=Hq (fun (W:World) (g:w4.grownBy W none) (j:Nat) (u:Value) (h:(Yc c)[j]? = some u)=>g.cell (hck j u h (by have:=(List.getElem?_eq_some_iff.1 h).1;rw [Xi] at this;exact this)) (by simp))
 have hc1:(n:Int)<=(kk:Int):=by omega
 have hc2:(0:Int)<=(n:Int):=by omega
 have hc3:n<=kk:=by omega
 have hc4:(n:Int)+(long:Int)<=(kk:Int):=by omega
 have hc5:(0:Int)<=(n:Int)+(long:Int):=by omega
 have hc6:IntKind.i64.wrap ((n:Int)+(long:Int))=(n:Int)+(long:Int):=IntWalk.i64_in _ (by omega)
 have hc7:n+long<=kk:=by omega
 have hc8:n+long<=c.length:=by omega
 have b1:0+n<=maxLen:=by unfold maxLen;omega
 have b2:(0+n)*16<=140737488355328:=by omega
 have b3:n+put.length<=maxLen:=by unfold maxLen;omega
 have b4:(n+put.length)*16<=140737488355328:=by omega
 have b5:n+put.length+(c.length - (n+long))<=maxLen:=by unfold maxLen;omega
 have b6:(n+put.length+(c.length - (n+long)))*16<=140737488355328:=by omega
 have hk1:ii.bytes*(c.length+1)<=281474976710656:=by rw [ii3];omega
 have hk3:c.length+1<=maxLen:=by unfold maxLen;omega
 have hw1:IntKind.i64.wrap ((c.length:Int)+1)=(c.length:Int)+1:=IntWalk.i64_in _ (by omega)
 have x1:=Cq _ _ 1 _ _ _ Y1.out
 have x0:=Cq _ _ 0 _ _ _ Y1.out
 have lx:=(Gs Y1.out)
 have CN:=Hq (fun (W:World) (g:w4.grownBy W none) j u (h:(Yc (c.take n))[j]? = some u)=>Ybk (b:=gk) (o:=0) (by rw [Nat.zero_add];exact CK.out W g j u (Zke c n j u h)))
 have CD:=Hq (fun (W:World) (g:w4.grownBy W none) j u (h:(Yc (c.drop (n+long)))[j]? = some u)=>Ybk (b:=gk) (o:=(n+long)*2) (CK.out W g _ u (Ydk c (n+long) j u h)))
 have RQ4:=Hq (fun (W:World) (g:w4.grownBy W none)=>Ys RQ.out (Za G4.out g))
 have LN:=Hq (show (Yc (c.take n)).length=n*2 by rw [Xi,List.length_take,Nat.min_eq_left (by omega)])
 have LD:=Hq (show (Yc (c.drop (n+long))).length=(c.length - (n+long))*2 by rw [Xi,List.length_drop])
 clear hck e11 e12
 obtain ⟨ad3,had3⟩:∃ ad:Addr,ad=if kk=n+long then ⟨gk,0,none⟩ else ⟨gk,(n+long)*2,none⟩:=⟨_,rfl⟩
 have CE:=Hq (show ∀ (W:World) (g:w4.grownBy W none) (j:Nat) (u:Value),(Yc (c.drop (n+long)))[j]? = some u->W.cell? (ad3.add j)=some u from fun W g j u h=>by
  rw [had3]
  by_cases e:kk=n+long
  · rw [List.drop_eq_nil_of_le (by omega)] at h;simp [Yc] at h
  · rw [if_neg e];exact CD.out W g j u h)
 by_cases hcap:kk=n+long
 case' pos =>
  rw [if_pos hcap] at had3
  subst had3
  go_wp2_with (first
   | (at_builtin;refine wpList_append_own_at _ rfl (.tmp 21) (.tmp 24) 50 rfl w4.heap.size 49 bi (.agg #[.int .i64 0,.int .i64 0]) 2 16 Zbw bi0 bi1 bi2 bi3 rfl (by decide) (.slice none 0 0) 0 [] rfl (World.ownsRow_nil _ _ _ _) ⟨gk,0,none⟩ n _ (Yc (c.take n)) rfl LN.out (CN.out w4 (Zc _ _)) (Zbj _) b1 b2 (Nat.le_refl _) ?_;intro v5 w5 hown5 hgr5 hnil5 hat5;simp only [Nat.zero_add,List.nil_append] at hown5;obtain ⟨p5,k5,hv5⟩:=Zp hown5;subst hv5;have O5:=Hq hown5;have G5:=Hq (show w4.grownBy w5 none from hgr5);have x15:=G5.out.cell x1 (by simp);have x05:=G5.out.cell x0 (by simp);have lx5:=Nat.lt_of_lt_of_le lx G5.out.size;clear hown5 hgr5 hnil5 hat5)
   | (at_builtin;refine Zfq rfl (.tmp 26) (.tmp 28) 50 rfl w4.heap.size 49 bi (.agg #[.int .i64 0,.int .i64 0]) 2 16 Zbw bi0 bi1 bi2 bi3 rfl (by decide) _ n _ rfl O5.out q put.length kq (Yc put) rfl (Xi _) (RQ4.out _ G5.out) hqk (Zbj _) b3 b4 G5.out.size ?_;intro v6 w6 hown6 hgr6;obtain ⟨p6,k6,hv6⟩:=Zp hown6;subst hv6;have G6:=Hq (Yw G5.out hgr6 (fun z hz=>(O5.out.lt z hz).1));have x06:=G6.out.cell x0 (by simp);have x16:=G6.out.cell x1 (by simp);have lx6:=Nat.lt_of_lt_of_le lx G6.out.size;have O6:=Hq hown6;clear hown6 hgr6)
   | (at_builtin;refine wpList_append_own_at _ rfl (.tmp 30) (.tmp 36) 50 rfl w4.heap.size 49 bi (.agg #[.int .i64 0,.int .i64 0]) 2 16 Zbw bi0 bi1 bi2 bi3 rfl (by decide) _ (n+put.length) _ rfl O6.out ⟨gk,0,none⟩ (c.length - (n+long)) _ (Yc (c.drop (n+long))) rfl LD.out (CE.out _ G6.out) (Zbj _) b5 b6 G6.out.size ?_;intro v7 w7 hown7 hgr7 hnil7 hat7;obtain ⟨p7,k7,hv7⟩:=Zp hown7;subst hv7;have G7:=Hq (Yw G6.out hgr7 (fun z hz=>(O6.out.lt z hz).1));have x07:=G7.out.cell x0 (by simp);have x17:=G7.out.cell x1 (by simp);have lx7:=Nat.lt_of_lt_of_le lx G7.out.size;have O7:=Hq hown7;clear hown7 hgr7 hnil7 hat7)
   | (refine wpList_make_full _ rfl _ _ 32 rfl w7.heap.size 3 ii (.int .i64 0) 1 Zbv ii0 ii1 ii2 .i64 .i64 _ _ (c.length+1) rfl rfl rfl rfl hk1 hk3 (Nat.le_refl _) ?_;intro w8 hr8 hg8;have R8:=Hq hr8;have G8:=Hq (Za G7.out hg8);have O8:=Hq (O7.out.kept hg8 (Classical.em _));clear hr8 hg8))
 case' neg =>
  rw [if_neg hcap] at had3
  subst had3
  go_wp2_with (first
   | (at_builtin;refine wpList_append_own_at _ rfl (.tmp 21) (.tmp 24) 50 rfl w4.heap.size 49 bi (.agg #[.int .i64 0,.int .i64 0]) 2 16 Zbw bi0 bi1 bi2 bi3 rfl (by decide) (.slice none 0 0) 0 [] rfl (World.ownsRow_nil _ _ _ _) ⟨gk,0,none⟩ n _ (Yc (c.take n)) rfl LN.out (CN.out w4 (Zc _ _)) (Zbj _) b1 b2 (Nat.le_refl _) ?_;intro v5 w5 hown5 hgr5 hnil5 hat5;simp only [Nat.zero_add,List.nil_append] at hown5;obtain ⟨p5,k5,hv5⟩:=Zp hown5;subst hv5;have O5:=Hq hown5;have G5:=Hq (show w4.grownBy w5 none from hgr5);have x15:=G5.out.cell x1 (by simp);have x05:=G5.out.cell x0 (by simp);have lx5:=Nat.lt_of_lt_of_le lx G5.out.size;clear hown5 hgr5 hnil5 hat5)
   | (at_builtin;refine Zfq rfl (.tmp 26) (.tmp 28) 50 rfl w4.heap.size 49 bi (.agg #[.int .i64 0,.int .i64 0]) 2 16 Zbw bi0 bi1 bi2 bi3 rfl (by decide) _ n _ rfl O5.out q put.length kq (Yc put) rfl (Xi _) (RQ4.out _ G5.out) hqk (Zbj _) b3 b4 G5.out.size ?_;intro v6 w6 hown6 hgr6;obtain ⟨p6,k6,hv6⟩:=Zp hown6;subst hv6;have G6:=Hq (Yw G5.out hgr6 (fun z hz=>(O5.out.lt z hz).1));have x06:=G6.out.cell x0 (by simp);have x16:=G6.out.cell x1 (by simp);have lx6:=Nat.lt_of_lt_of_le lx G6.out.size;have O6:=Hq hown6;clear hown6 hgr6)
   | (at_builtin;refine wpList_append_own_at _ rfl (.tmp 30) (.tmp 36) 50 rfl w4.heap.size 49 bi (.agg #[.int .i64 0,.int .i64 0]) 2 16 Zbw bi0 bi1 bi2 bi3 rfl (by decide) _ (n+put.length) _ rfl O6.out ⟨gk,(n+long)*2,none⟩ (c.length - (n+long)) _ (Yc (c.drop (n+long))) rfl LD.out (CE.out _ G6.out) (Zbj _) b5 b6 G6.out.size ?_;intro v7 w7 hown7 hgr7 hnil7 hat7;obtain ⟨p7,k7,hv7⟩:=Zp hown7;subst hv7;have G7:=Hq (Yw G6.out hgr7 (fun z hz=>(O6.out.lt z hz).1));have x07:=G7.out.cell x0 (by simp);have x17:=G7.out.cell x1 (by simp);have lx7:=Nat.lt_of_lt_of_le lx G7.out.size;have O7:=Hq hown7;clear hown7 hgr7 hnil7 hat7)
   | (refine wpList_make_full _ rfl _ _ 32 rfl w7.heap.size 3 ii (.int .i64 0) 1 Zbv ii0 ii1 ii2 .i64 .i64 _ _ (c.length+1) rfl rfl rfl rfl hk1 hk3 (Nat.le_refl _) ?_;intro w8 hr8 hg8;have R8:=Hq hr8;have G8:=Hq (Za G7.out hg8);have O8:=Hq (O7.out.kept hg8 (Classical.em _));clear hr8 hg8))
 all_goals
  have OUT:=Hq (show w8.ownsRow w4.heap.size 49 2 (.slice p7 (n+put.length+(c.length - (n+long))) k7) (n+put.length+(c.length - (n+long))) (Yc (c.take n++put++c.drop (n+long))) by
   rw [Jv,Jv];exact O8.out)
  have NZ:=Hq (show w8.ownsRow w4.heap.size 3 1 (.slice (some ⟨w7.heap.size,0,none⟩) (c.length+1) (c.length+1)) (c.length+1) ((Zdy (plG n long put.length) (c.length+1) 0).map (Value.int .i64)) by
   have h:=R8.out
   rw [show (madeCells (Value.int .i64 0).cells ((c.length+1)*1)).toList=(Zdy (plG n long put.length) (c.length+1) 0).map (Value.int .i64) by rw [Yct,Nat.mul_one];exact toList_madeCells_one _ _] at h
   exact Zz h G7.out.size)
  clear x1 x0 lx x15 x05 lx5 x06 x16 lx6 x07 x17 lx7 b1 b2 b3 b4 b5 b6 hk1 hk3
  generalize w7.heap.size=gN at *
  generalize hM:n+put.length+(c.length - (n+long))=M at *
  have HM:=Hq hM
  clear hM
  go_loopw [44] (fun i wr=>∃ j:Nat,i = .int .i64 j/\j<=c.length+1/\w4.grownBy wr none/\wr.ownsRow w4.heap.size 49 2 (.slice p7 M k7) M (Yc (c.take n++put++c.drop (n+long)))/\wr.ownsRow w4.heap.size 3 1 (.slice (some ⟨gN,0,none⟩) (c.length+1) (c.length+1)) (c.length+1) ((Zdy (plG n long put.length) (c.length+1) j).map (Value.int .i64))) (fun i _=>c.length+1 - (intOf i).toNat)
  case atStart=>exact ⟨0,rfl,Nat.zero_le _,G8.out,OUT.out,NZ.out⟩
  case round =>
   obtain ⟨j,rfl,hj,hg,ho,hnum⟩:=hrel
   have IG:=Hq hg
   have IO:=Hq ho
   have IN:=Hq hnum
   by_cases hlj:(j:Int)<(c.length:Int)+1
   · have y1:=Cq _ _ 1 _ _ _ (Zb Y1.out hg (by simp))
     have y0:=Cq _ _ 0 _ _ _ (Zb Y1.out hg (by simp))
     have ly:=(Array.getElem?_eq_some_iff.1 (Zb Y1.out hg (by simp))).1
     obtain ⟨gN',cN,eN,hgN,hcN⟩:=Zx hnum (by omega)
     injection eN with e1 e2 e3
     injection e1 with e1;injection e1 with e1 _ _;subst e1
     have cN:=hcN j _ (Yhr _ _ _ (by omega)) (by omega)
     have zN:=Ye hnum j
     have NS:=Hq (fun u (e:u=plG n long put.length j)=>show (wr.setCell ⟨gN,j,none⟩ (.int .i64 u)).ownsRow w4.heap.size 3 1 (.slice (some ⟨gN,0,none⟩) (c.length+1) (c.length+1)) (c.length+1) ((Zdy (plG n long put.length) (c.length+1) (j+1)).map (Value.int .i64)) by
      have h:=(hnum.stored j (.int .i64 u)).1
      rw [e,Yhq _ _ _ (by omega)] at h
      rw [e]
      exact h)
     have GS:=Hq (fun u=>Zd (b:=gN) (o:=j) (v := .int .i64 u) hg (hnum.lt gN rfl).1)
     have OS:=Hq (fun u=>ho.kept (Zh wr gN j (.int .i64 u)) (Xq ho hnum (by decide)))
     have hj2:(0:Int)<=(j:Int):=by omega
     clear hg ho hnum hcN e2 e3
     by_cases hj1:(j:Int)<=(n:Int)
     · go_wp2
       go_roundw
       case rel=>exact ⟨j+1,by go_num,by omega,GS.out _,OS.out _,NS.out _ (by unfold plG Zbf;rw [if_pos (by omega)])⟩
       case measure=>simp [intOf];omega
     · by_cases hj3:(j:Int)<(n:Int)+(long:Int)
       · go_wp2
         go_roundw
         case rel=>exact ⟨j+1,by go_num,by omega,GS.out _,OS.out _,NS.out _ (by unfold plG Zbf;rw [if_neg (by omega),if_pos (by omega)])⟩
         case measure=>simp [intOf];omega
       · go_wp2
         go_roundw
         case rel=>exact ⟨j+1,by go_num,by omega,GS.out _,OS.out _,NS.out _ (by unfold plG Zbf;rw [if_neg (by omega),if_neg (by omega)])⟩
         case measure=>simp [intOf];omega
   · have hjn:j=c.length+1:=by omega
     subst hjn
     have HL:=Hq (show (c.take n++put++c.drop (n+long)).length=M by have:=HM.out;rw [List.length_append,List.length_append,List.length_take,List.length_drop];omega)
     have JO:=Hq (show ∀ x∈c.take n++put++c.drop (n+long),jmp x.1=true->0<=x.2/\x.2<c.length from fun x hx hj=>by
      rcases List.mem_append.1 hx with h|h
      · rcases List.mem_append.1 h with h|h
        · exact RK.out.j x (List.mem_of_mem_take h) hj
        · exact RK.out.k x h hj
      · exact RK.out.j x (List.mem_of_mem_drop h) hj)
     have RC:=Hq (show reJ (fun a=>(Zdy (plG n long put.length) (c.length+1) (c.length+1)).getD a.toNat 0) (c.take n++put++c.drop (n+long))=Xb c n long put from Zua fun x hx hj=>by
      obtain ⟨h0,h1⟩:=JO.out x hx hj
      show (Zdy (plG n long put.length) (c.length+1) (c.length+1)).getD x.2.toNat 0=Zbf n long put.length x.2
      rw [Yon _ _ _ (by omega)]
      unfold plG
      rw [show ((x.2.toNat:Nat):Int)=x.2 by omega])
     have RL:=Hq (show (Xb c n long put).length=(c.take n++put++c.drop (n+long)).length by simp [Xb,reJ])
     have hMb:M<=1000000:=by have:=HM.out;omega
     clear hg ho hnum
     generalize c.take n++put++c.drop (n+long)=OC at *
     obtain rfl:=HL.out
     have RN:=Hq (fun W (g:wr.grownBy W none)=>Zmn OC (Zdy (plG n long put.length) (c.length+1) (c.length+1)) w4.heap.size w4.heap.size _ _ W hMb (IO.out.kept g (Classical.em _)) (by rw [Zmw];exact IN.out.kept g (Classical.em _)) (fun x hx hj=>by rw [Zmw];have:=JO.out x hx hj;omega))
     obtain ⟨gF',cap',eF',hgF,hcF⟩:=Zx O4.out.fr (by omega)
     injection eF' with e1 e2 e3
     injection e1 with e1;injection e1 with e1 _ _;subst e1
     obtain ⟨-,-,-,q3⟩:=Jj _ cv k _ _ HF.out HV.out
     have t3:=hcF _ _ q3 (by omega)
     have t2:=Cq _ _ 2 _ _ _ Y0.out
     have yp:=(Gs Y0.out)
     have yF:=hgF
     have TT:=Hq (And.intro t2 (And.intro t3 (And.intro yp yF)))
     clear hcF q3 e2 e3 t2 t3 yp yF hgF
     go_wp2
     obtain ⟨t2,t3,yp,yF⟩:=TT.out
     go_upto_region 17 with fail
     rename (∀ (a:Act) (w:World),Code.wp _ _ _ a w->_)=>hK
     refine Je (n:=9) (J:=fun a0 l a1 w1=>∃ kk9,RJ a0 87 9 re7 (Zxj w.heap.size gF fs.length cF3 k OC.length k7 gN c.length p7 kk9) l a1/\WY 5 8 9 [(1,0),(5,3),(5,4),(6,1),(6,2),(7,6),(8,7),(8,5)] (wr.drew) (fun W'=>w4.grownBy W' none) (fun W'=>w4.grownBy W' none/\kk9=k7/\W'.ownsRow w4.heap.size 49 2 (.slice p7 OC.length kk9) OC.length (Yc (Xb c n long put))) (fun W'=>∃ w7:World,W'=w7.setCell ⟨gF,k*4+3,none⟩ (.slice p7 OC.length kk9)/\w4.grownBy w7 none/\kk9=k7/\w7.ownsRow w4.heap.size 49 2 (.slice p7 OC.length kk9) OC.length (Yc (Xb c n long put))) l w1) (by kernel_rfl) rfl (Zai (by kernel_rfl)) (fun l a1 w1 h=>by obtain ⟨_,_,h⟩:=h;exact h.sz) ⟨0,Jd rfl,Zld (Ze IG.out)⟩ ?_ ?_
     ·
      intro l a1 w' i hJJ hi hin
      obtain ⟨kk9,hJ,hW⟩:=hJJ
      have hun:l.getD i false=false:=getD_both (mem_ready.1 hi).1
      have hns:=Ybp hW hin hun
      have hb:=hW.b hns
      have l0:=Nat.lt_of_lt_of_le yp hb.size
      have l1:=Nat.lt_of_lt_of_le yF hb.size
      rcases Ygo i hin with rfl|rfl|rfl|rfl|rfl|rfl|rfl|rfl|rfl
      · have e4:a1.tmps.getD 4 undef = .pointer (some ⟨w.heap.size,0,none⟩):=hJ.un 4 (fun i hi _=>Zra 4 (by decide) i hi)
        exact Zj (Zo hW hJ rfl (by rfl) rfl (by decide) (by decide) (Zir _ (by decide)) (w':=w') (by simp [execOp,resolve,invoke,builtin,Act.eval,e4,hki,l0,l1,go_sem,Zxj]) (Yi hW (by decide) hun (by decide) (by decide) (Zr _ hi (by kernel_rfl)))) (fun a9 w9 h9=>⟨kk9,h9⟩)
      · have e78:a1.tmps.getD 78 undef = .pointer (some ⟨w.heap.size,2,none⟩):=(Zu hJ hi 0 (by kernel_rfl))
        have h0:=hb.cell t2 (by simp)
        exact Zj (Zo hW hJ rfl (by rfl) rfl (by decide) (by decide) (Zir _ (by decide)) (w':=w') (by simp [execOp,resolve,invoke,builtin,Act.eval,e78,h0,hki,l0,l1,go_sem,Zxj]) (Yi hW (by decide) hun (by decide) (by decide) (Zr _ hi (by kernel_rfl)))) (fun a9 w9 h9=>⟨kk9,h9⟩)
      · have e1:a1.tmps.getD 1 undef = .int .i64 k:=hJ.un 1 (fun i hi _=>Zra 1 (by decide) i hi)
        exact Zj (Zo hW hJ rfl (by rfl) rfl (by decide) (by decide) (Zir _ (by decide)) (w':=w') (by simp [execOp,resolve,invoke,builtin,Act.eval,e1,hki,l0,l1,go_sem,Zxj]) (Yi hW (by decide) hun (by decide) (by decide) (Zr _ hi (by kernel_rfl)))) (fun a9 w9 h9=>⟨kk9,h9⟩)
      · have e10:a1.tmps.getD 10 undef = .slice p7 OC.length k7:=hJ.un 10 (fun i hi _=>Zra 10 (by decide) i hi)
        exact Zj (Zo hW hJ rfl (by rfl) rfl (by decide) (by decide) (Zir _ (by decide)) (w':=w') (by simp [execOp,resolve,invoke,builtin,Act.eval,e10,hki,l0,l1,go_sem,Zxj]) (Yi hW (by decide) hun (by decide) (by decide) (Zr _ hi (by kernel_rfl)))) (fun a9 w9 h9=>⟨kk9,h9⟩)
      · have e11:a1.tmps.getD 11 undef = .slice (some ⟨gN,0,none⟩) (c.length+1) (c.length+1):=hJ.un 11 (fun i hi _=>Zra 11 (by decide) i hi)
        exact Zj (Zo hW hJ rfl (by rfl) rfl (by decide) (by decide) (Zir _ (by decide)) (w':=w') (by simp [execOp,resolve,invoke,builtin,Act.eval,e11,hki,l0,l1,go_sem,Zxj]) (Yi hW (by decide) hun (by decide) (by decide) (Zr _ hi (by kernel_rfl)))) (fun a9 w9 h9=>⟨kk9,h9⟩)
      · have e81:a1.tmps.getD 81 undef = .slice p7 OC.length k7:=(Zu hJ hi 3 (by kernel_rfl))
        have e82:a1.tmps.getD 82 undef = .slice (some ⟨gN,0,none⟩) (c.length+1) (c.length+1):=(Zu hJ hi 4 (by kernel_rfl))
        have hw0:=hW.h0 hun
        subst hw0
        refine Jb rfl (by rfl) (by simp [execOp,resolve,invoke,Act.eval,e81,e82,go_sem]) (Calls.mono (RN.out wr.drew (Ze (Zc wr none))) (fun e w2 he => ?_))
        obtain ⟨he1,g6,o9⟩:=he
        obtain ⟨kk92,hkk92⟩:∃ x:Nat,x=k7:=⟨_,rfl⟩
        rw [RC.out,<- hkk92] at o9
        rw [<- hkk92] at he1
        subst he1
        have g7:w4.grownBy w2 none:=Yw (Za IG.out (Ze (Zc wr none))) g6 (fun q hq=>(IO.out.lt q hq).1)
        refine ⟨_,rfl,kk92,?_,Zqb hW (by decide) hun (by decide) (Zr _ hi (by kernel_rfl)) (g7) (⟨g7,hkk92,o9⟩)⟩
        exact Zch (val:=Zxj w.heap.size gF fs.length cF3 k OC.length k7 gN c.length p7 kk92) (Zbe hJ (Yys l hun)) (by decide) (by decide) (Zir _ (by decide))
      · have e79:a1.tmps.getD 79 undef = .slice (some ⟨gF,0,none⟩) fs.length cF3:=(Zu hJ hi 1 (by kernel_rfl))
        have e80:a1.tmps.getD 80 undef = .int .i64 k:=(Zu hJ hi 2 (by kernel_rfl))
        exact Zj (Zo hW hJ rfl (by rfl) rfl (by decide) (by decide) (Zir _ (by decide)) (w':=w') (by first|(simp [execOp,resolve,invoke,builtin,Act.eval,e79,e80,hki,l0,l1,go_sem,Zxj];done)|(simp [execOp,resolve,invoke,builtin,Act.eval,e79,e80,hki,l0,l1,go_sem,Zxj];omega)|(simp [execOp,resolve,invoke,builtin,Act.eval,e79,e80,hki,l0,l1,go_sem,Zxj];intro h;omega)|(simp [execOp,resolve,invoke,builtin,Act.eval,e79,e80,hki,l0,l1,go_sem,Zxj];intros;omega)) (Yi hW (by decide) hun (by decide) (by decide) (Zr _ hi (by kernel_rfl)))) (fun a9 w9 h9=>⟨kk9,h9⟩)
      · have e84:a1.tmps.getD 84 undef = .pointer (some ⟨gF,k*4,none⟩):=(Zu hJ hi 6 (by kernel_rfl))
        exact Zj (Zo hW hJ rfl (by rfl) rfl (by decide) (by decide) (Zir _ (by decide)) (w':=w') (by simp [execOp,resolve,invoke,builtin,Act.eval,e84,hki,l0,l1,go_sem,Zxj]) (Yi hW (by decide) hun (by decide) (by decide) (Zr _ hi (by kernel_rfl)))) (fun a9 w9 h9=>⟨kk9,h9⟩)
      · have e85:a1.tmps.getD 85 undef = .pointer (some ⟨gF,k*4+3,none⟩):=(Zu hJ hi 7 (by kernel_rfl))
        have e83:a1.tmps.getD 83 undef = .slice p7 OC.length kk9:=(Zu hJ hi 5 (by kernel_rfl))
        have hpw:=hW.h1 (Zl hi 5 (by kernel_rfl)) hun
        have hc9:=hb.cell t3 (by simp)
        have hfz9:w'.frozen? ⟨gF,k*4+3,none⟩=false:=Ye (O4.out.fr.kept hb (Classical.em _)) (k*4+3)
        exact Zj (Zdn hW hJ rfl rfl rfl (by decide) (by decide) (w':=w'.setCell ⟨gF,k*4+3,none⟩ (.slice p7 OC.length kk9)) (by simp [execOp,Act.eval,e85,e83,hfz9,hc9,go_sem]) (Zlc hW (by decide) (by decide) (by decide) (fun j hj hne=>by
         rcases Ygo j hj with rfl|rfl|rfl|rfl|rfl|rfl|rfl|rfl|rfl
         · exact hW.cl (1,0) (by decide) (hW.cl (6,1) (by decide) (hW.cl (7,6) (by decide) (Zl hi 7 (by kernel_rfl))))
         · exact hW.cl (6,1) (by decide) (hW.cl (7,6) (by decide) (Zl hi 7 (by kernel_rfl)))
         · exact hW.cl (6,2) (by decide) (hW.cl (7,6) (by decide) (Zl hi 7 (by kernel_rfl)))
         · exact hW.cl (5,3) (by decide) (Zl hi 5 (by kernel_rfl))
         · exact hW.cl (5,4) (by decide) (Zl hi 5 (by kernel_rfl))
         · exact Zl hi 5 (by kernel_rfl)
         · exact hW.cl (7,6) (by decide) (Zl hi 7 (by kernel_rfl))
         · exact Zl hi 7 (by kernel_rfl)
         · exact absurd rfl hne) (Zr _ hi (by kernel_rfl)) (⟨w',rfl,hpw.1,hpw.2.1,hpw.2.2⟩))) (fun a9 w9 h9=>⟨kk9,h9⟩)
     intro l a1 w9 hJJ hl
     obtain ⟨kk9,hJ,hW⟩:=hJJ
     obtain ⟨w7',rfl,g7,hkk,o7⟩:=hW.h2 (hl 8 (by decide))
     subst hkk
     have hput:=Zag hJ rfl hl (fun i j h1 h2 h3=>Zir j h2 i h1 h3)
     subst hput
     have O7':=Yv O4.out g7
     have hbF:=(O7'.fr.lt gF rfl).1
     have OP:=Zzv (w':=w7') (f':=Zv (a,lo,r,c) (Xb c n long put)) (v := .slice p7 OC.length kk9) O7' HF.out ⟨rfl,rfl,rfl⟩ (by
      show World.ownsRow _ _ _ _ _ (Xb c n long put).length (Yc (Xb c n long put))
      rw [RL.out]
      exact Zz o7 G4.out.size) (fun k' v' b hne hv' hb hb2=>by
      have hk'l:=(List.getElem?_eq_some_iff.1 hv').1
      rw [O4.out.cl] at hk'l
      have h1:=((O4.out.each k' _ v' (List.getElem?_eq_getElem hk'l) hv').lt b hb).2
      have h2:=(o7.lt b hb2).1
      omega)
     have nf0:=Yp O7'.fr (Zb Y0.out g7 (by simp)) (by decide)
     have nf2:=Yp O7'.fr (Zb Y2.out g7 (by simp)) (by decide)
     have ON:=Hq OP
     have GN:=Hq (Zd (b:=gF) (o:=k*4+3) (v := .slice p7 OC.length kk9) (Za G4.out g7) hbF)
     have B0:=Zb (Zb Y0.out g7 (by simp)) (Zh w7' gF (k*4+3) (.slice p7 OC.length kk9)) nf0
     have B2:=Zb (Zb Y2.out g7 (by simp)) (Zh w7' gF (k*4+3) (.slice p7 OC.length kk9)) nf2
     have BR:=Hq B2
     clear hJ hW hl g7 o7 O7' OP hbF nf0 nf2 t2 t3 yp yF
     refine hK _ _ ?_
     simp only [Zay,re7,Zxj,Act.put,List.setIfInBounds_toArray,List.set_cons_zero,List.set_cons_succ]
     clear hK
     generalize w7'.setCell ⟨gF,k*4+3,none⟩ (.slice p7 OC.length kk9)=w10 at *
     have u0:=Cq _ _ 0 _ _ _ B0
     have u1:=Cq _ _ 1 _ _ _ B0
     have u2:=Cq _ _ 2 _ _ _ B0
     have lu:=(Gs B0)
     have v0:=Cq _ _ 0 _ _ _ B2
     have v1:=Cq _ _ 1 _ _ _ B2
     have v2:=Cq _ _ 2 _ _ _ B2
     have z0:=frozen_of_row _ _ 0 _ _ B2
     have z1:=frozen_of_row _ _ 1 _ _ B2
     have z2:=frozen_of_row _ _ 2 _ _ B2
     have lv:=(Gs B2)
     clear B0 B2
     go_wp2
     refine bodyPost_ret (v := .agg #[.int .i64 mem,.slice pD dl.length cD,.slice (some ⟨gF,0,none⟩) fs.length cF3]) ?_ rfl ⟨_,_,_,rfl,Zd (Zd (Zd GN.out (by omega)) (by omega)) (by omega),Jh ON.out BR.out⟩
     rw [Yq rfl]
     go_simp
def Zod (c:List Ins) (k:Nat):Int:=((c.filter fun x=>jmp x.1 && x.2 == (k:Int)).length:Nat)
theorem Zvx (c:List Ins) (x:Ins) (k:Nat):Zod (c++[x]) k=Zod c k+if jmp x.1=true/\x.2=(k:Int) then 1 else 0:=by
 unfold Zod
 rw [List.filter_append,List.length_append]
 by_cases h:jmp x.1=true/\x.2=(k:Int)
 · rw [if_pos h];simp [List.filter_cons,h.1,h.2]
 · rw [if_neg h]
   have:(jmp x.1 && x.2 == (k:Int))=false:=by
    cases h1:jmp x.1 with
    | false=>rfl
    | true=>simp;intro e;exact h ⟨h1,e⟩
   simp [List.filter_cons,this]
theorem Ywg (c:List Ins) (k:Nat):0<=Zod c k/\Zod c k<=c.length:=by
 unfold Zod
 have:=List.length_filter_le (fun x:Ins=>jmp x.1 && x.2 == (k:Int)) c
 omega
theorem Zov (c:List Ins) (k:Nat):Zad c k=false ↔ Zod c k=0:=by
 unfold Zad Zod
 rw [List.any_eq_false]
 constructor
 · intro h
   have:(c.filter fun x=>jmp x.1 && x.2 == (k:Int))=[]:=by
    rw [List.filter_eq_nil_iff]
    intro x hx
    have:=h x hx
    simpa using this
   rw [this];rfl
 · intro h x hx hb
   have h1:(c.filter fun x=>jmp x.1 && x.2 == (k:Int)).length=0:=by omega
   have h2:=List.eq_nil_of_length_eq_zero h1
   rw [List.filter_eq_nil_iff] at h2
   exact h2 x hx hb
theorem Ybz {c:List Ins} {j:Nat} {x:Ins} (h:c[j]? = some x):c.take (j+1)=c.take j++[x]:=by
 obtain ⟨hj,e⟩:=List.getElem?_eq_some_iff.1 h
 rw [List.take_succ_eq_append_getElem hj,e]
theorem Yil {c:List Ins} {n L:Nat} (h1:1<=L) (h3:L<=Zba c n):L<=3:=by
 unfold Zba at h3
 by_cases a:n+1<c.length/\Zad c (n+1)=false
 · rw [if_pos a] at h3
   by_cases b:n+2<c.length/\Zad c (n+2)=false
   · rw [if_pos b] at h3;exact h3
   · rw [if_neg b] at h3;omega
 · rw [if_neg a] at h3;omega
theorem Ycy {c:List Ins} {n L:Nat} (h1:1<=L) (h3:L<=Zba c n) (hL:L<3) (hn:n+L<c.length) (ht:Zad c (n+L)=false):L+1<=Zba c n:=by
 unfold Zba at h3 ⊢
 rcases (by omega:L=1\/L=2) with rfl|rfl
 · rw [if_pos ⟨hn,ht⟩];split <;> omega
 · by_cases a:n+1<c.length/\Zad c (n+1)=false
   · rw [if_pos a,if_pos ⟨hn,ht⟩];omega
   · rw [if_neg a] at h3;omega
theorem Yik {c:List Ins} {n L:Nat} (h1:1<=L) (h3:L<=Zba c n) (h:¬ (L<3/\n+L<c.length/\Zad c (n+L)=false)):Zba c n=L:=by
 unfold Zba at h3 ⊢
 rcases (by have:=Yil h1 (show L<=Zba c n from h3);omega:L=1\/L=2\/L=3) with rfl|rfl|rfl
 · rw [if_neg (fun a=>h ⟨by omega,a.1,a.2⟩)]
 · by_cases a:n+1<c.length/\Zad c (n+1)=false
   · rw [if_pos a,if_neg (fun b=>h ⟨by omega,b.1,b.2⟩)]
   · rw [if_neg a] at h3;omega
 · by_cases a:n+1<c.length/\Zad c (n+1)=false
   · rw [if_pos a] at h3 ⊢
     by_cases b:n+2<c.length/\Zad c (n+2)=false
     · rw [if_pos b]
     · rw [if_neg b] at h3;omega
   · rw [if_neg a] at h3;omega
def Ylp (w:World) (pv:Array Value) (o:Option (Nat × Nat × Jn)) (e:Ending) (w':World):Prop:=w.grownBy w' none/\match o with
 | none=>e = .returned (.tuple #[.agg #[.int .i64 0,.int .i64 0,.int .i64 0,.nilFunc],.bool false])
 | some (f,n,x)=>∃ (b1 b6 b11 b13:Nat) (q:Option Addr) (k:Nat),e = .returned (.tuple #[.agg #[.int .i64 f,.int .i64 n,.int .i64 x.what,.func (.func 55) #[] #[.pointer (some ⟨b1,0,none⟩),.pointer (some ⟨b6,0,none⟩),.pointer (some ⟨b11,0,none⟩),.pointer (some ⟨b13,0,none⟩)]],.bool true]) /\
    w'.heap[b1]? = some (.cells pv 25 (0,0))/\w'.heap[b6]? = some (.cells #[.int .i64 f] 3 (0,0))/\w'.heap[b11]? = some (.cells #[.int .i64 n] 3 (0,0))/\w'.heap[b13]? = some (.cells #[.int .i64 x.long,.slice q x.put.length k,.int .i64 x.what] 104 (0,0))/\(q=none->k=0)/\Xz w' w'.heap.size q x.put
theorem Yna (mem:Int) (dl:List Int) (fs:List FnP) (pd pF q:Option Addr) (cd cF kq B k n long:Nat) (what:Int) (put:List Ins) (a lo r:Int) (c:List Ins) (w:World) (b1 b6 b11 b13:Nat) (hBw:B<=w.heap.size) (hF:Yl w B pF fs) (hD:Rd w pd (dl.map (Value.int .u8))) (hd:dl.length<=4194304) (hn:fs.length<=64) (hls:∀ f∈fs,f.2.2.2.length<=4096) (hf:fs[k]? = some (a,lo,r,c)) (hok:Yqq c n long put) (hq:Xz w w.heap.size q put) (hqk:q=none->kq=0)
 (h1:w.heap[b1]? = some (.cells #[.int .i64 mem,.slice pd dl.length cd,.slice pF fs.length cF] 25 (0,0))) (h6:w.heap[b6]? = some (.cells #[.int .i64 (k:Nat)] 3 (0,0))) (h11:w.heap[b11]? = some (.cells #[.int .i64 (n:Nat)] 3 (0,0))) (h13:w.heap[b13]? = some (.cells #[.int .i64 (long:Nat),.slice q put.length kq,.int .i64 what] 104 (0,0))) :
 Calls Try.prog 55 #[.pointer (some ⟨b1,0,none⟩),.pointer (some ⟨b6,0,none⟩),.pointer (some ⟨b11,0,none⟩),.pointer (some ⟨b13,0,none⟩)] w (Zfo w mem dl (fs.set k (Zv (a,lo,r,c) (Xb c n long put)))):=by
 have G0:=Ga w (.cells #[.int .i64 0,.slice none 0 0,.slice none 0 0] 25) none
 have RP:=Hq (Ztz mem dl fs pd pF q cd cF kq B k n long what put a lo r c (w.alloc (.cells #[.int .i64 0,.slice none 0 0,.slice none 0 0] 25)) (Nat.le_trans hBw G0.size) (Zq hF G0 (by simp)) (Ys hD G0) hd hn hls hf hok (Ys (Zxk hq) G0) hqk)
 have XN:=Hq (heap_alloc_new w (.cells #[.int .i64 0,.slice none 0 0,.slice none 0 0] 25))
 have c0:=Cq _ _ 0 _ _ _ h1
 have c1:=Cq _ _ 1 _ _ _ h1
 have c2:=Cq _ _ 2 _ _ _ h1
 have d0:=Cq _ _ 0 _ _ _ h6
 have e0:=Cq _ _ 0 _ _ _ h11
 have f0:=Cq _ _ 0 _ _ _ h13
 have f1:=Cq _ _ 1 _ _ _ h13
 have f2:=Cq _ _ 2 _ _ _ h13
 have l1:=(Gs h1)
 have l6:=(Gs h6)
 have l11:=(Gs h11)
 have l13:=(Gs h13)
 have GG:=Hq G0
 clear G0 hF hD hls hf hok hq h1 h6 h11 h13 hqk
 go_enter Try.func55,Try.ntmps55
 go_wp2_with fail
 clear c0 c1 c2 d0 e0 f0 f1 f2 l1 l6 l11 l13
 generalize hs:w.heap.size=bs at *
 have HS:=Hq hs
 clear hs
 generalize w.alloc (.cells #[.int .i64 0,.slice none 0 0,.slice none 0 0] 25)=w2 at *
 refine RP.out.mono ?_
 rintro e w3 ⟨D,F,cv,rfl,g3,o3⟩
 obtain ⟨pD,pF3,cD,cF3,rfl,rfl⟩:=Xa o3
 rw [show (fs.set k (Zv (a,lo,r,c) (Xb c n long put))).length=fs.length from List.length_set ..] at o3
 have X3:=Zb XN.out g3 (by simp)
 have v0:=Cq _ _ 0 _ _ _ X3
 have v1:=Cq _ _ 1 _ _ _ X3
 have v2:=Cq _ _ 2 _ _ _ X3
 have z0:=frozen_of_row _ _ 0 _ _ X3
 have z1:=frozen_of_row _ _ 1 _ _ X3
 have z2:=frozen_of_row _ _ 2 _ _ X3
 have lv:=(Gs X3)
 have HX:=Hq X3
 have G3:=Hq (Za GG.out g3)
 have O3:=Hq (Jm o3 (show w.heap.size<=w2.heap.size from GG.out.size))
 have hbs:w.heap.size<=bs:=by rw [HS.out];exact Nat.le_refl _
 clear X3 g3 o3
 go_wp2
 refine bodyPost_ret (v := .agg #[.int .i64 mem,.slice pD dl.length cD,.slice pF3 fs.length cF3]) ?_ rfl ⟨_,_,cv,rfl,Zd (Zd (Zd G3.out hbs) hbs) hbs,Jh (mem:=mem) O3.out HX.out⟩
 rw [Yq rfl]
 go_simp
end Go.Proofs.Ythlkflagancdfaa.OT
