/-
  Part of a proof: contracts of functions and lemmas, each stated by its own theorem. Conditions: as each theorem states.
-/
import Derived.Test.YteciblfmgdlipaaGreatDoorMI06
import Derived.Outline
set_option linter.unusedSimpArgs false
set_option linter.unusedVariables false
set_option maxRecDepth 100000
set_option maxHeartbeats 16000000
namespace Go.Proofs.YteciblfmgdlipaaGreatDoor.AS
open Go.RowKit Go.Great CK
theorem Yws (a b:Int):∀ u∈[Value.int .i64 a,.int .i64 b],u.oneCell'=true:=by
 intro u hu
 simp only [List.mem_cons,List.not_mem_nil,or_false] at hu
 rcases hu with rfl|rfl <;> rfl
theorem Zbe {w:World} {E g c:Nat} {t:TypeId} {sz n:Nat} {xs:List Value} (h:w.ownsRow E t sz (.slice (some ⟨g,0,none⟩) n c) n xs) (o:Nat):w.frozen? ⟨g,o,none⟩=false:=by
 rcases h.2 with ⟨e,_⟩|⟨g0,cap,cur,e,_,hg,_⟩
 · cases e
 · injection e with e _ _
   injection e with e;injection e with e
   subst e
   exact frozen_of_row w g o _ _ hg
def inF (k gF bi:Nat) (t:Nat->Value):Act:=⟨#[t 0,t 1,t 2,t 3,t 4,t 5,t 6,t 7,t 8,t 9,t 10,t 11,.pointer (some ⟨gF,k*4,none⟩),.pointer (some ⟨bi,0,none⟩),t 14,t 15,t 16,t 17,t 18,t 19,t 20,t 21,t 22,t 23,t 24,t 25,t 26,t 27,t 28,t 29,t 30,t 31,t 32,t 33,t 34,t 35,t 36,t 37,t 38,t 39,t 40,t 41,t 42,t 43,t 44,t 45,t 46,t 47,t 48,t 49,t 50,t 51,t 52,t 53,t 54,t 55,t 56,t 57,t 58,t 59,t 60,t 61,t 62,t 63,t 64,t 65,t 66,t 67,t 68,t 69,t 70,t 71,t 72,t 73,t 74,t 75,t 76,t 77,t 78,t 79,t 80,t 81,t 82,t 83,t 84,t 85,t 86,t 87,t 88,t 89,t 90,t 91,t 92,t 93,t 94,t 95,t 96,t 97,t 98,t 99,t 100,t 101,t 102,t 103,t 104,t 105,t 106,t 107,t 108,t 109,t 110,t 111,t 112,t 113,t 114,t 115,t 116,t 117,t 118,t 119,t 120,t 121,t 122,t 123,t 124,t 125,t 126,t 127,t 128,t 129,t 130,t 131,t 132,t 133,t 134,t 135,t 136,t 137,t 138,t 139,t 140,t 141,t 142,t 143,t 144,t 145,t 146,t 147,t 148,t 149,t 150,t 151,t 152,t 153,t 154,t 155,t 156,t 157],[]⟩
structure Yya (k gF bi:Nat) (a:Act):Prop where
 sz:a.tmps.size=158
 df:a.defers=[]
 s12:a.tmps.getD 12 undef = .pointer (some ⟨gF,k*4,none⟩)
 s13:a.tmps.getD 13 undef = .pointer (some ⟨bi,0,none⟩)
theorem Yvj {k gF bi:Nat} {a:Act} (H:Yya k gF bi a):a=inF k gF bi (fun i=>a.tmps.getD i undef):=by
 refine Zyo H.sz H.df fun j hj => ?_
 have hs:=H.sz
 rw [hs] at hj
 unfold tm
 iterate 12 (rcases j with _|j;· rfl)
 rcases j with _|j
 · exact H.s12
 rcases j with _|j
 · exact H.s13
 iterate 144 (rcases j with _|j;· rfl)
 omega
def isT:Nat->Nat
 | 0=>148
 | 1=>149
 | 2=>150
 | 3=>151
 | 4=>152
 | 5=>153
 | 6=>154
 | 7=>155
 | 8=>156
 | 9=>157
 | 10=>1010
 | _=>5000
theorem Zgz:∀ i,i<11->∀ j,j<11->j≠i->isT j≠isT i:=by decide
theorem Zut (i:Nat) (h:i<11):i=0\/i=1\/i=2\/i=3\/i=4\/i=5\/i=6\/i=7\/i=8\/i=9\/i=10:=by omega
theorem Zxx (j:Nat) (hj:j∈[12,13]):∀ i,i<11->isT i≠j:=by revert j;decide
def Zqz (E k gF bi lc cc sz n:Nat) (ar:Int) (pc:Option Addr) (ys:List Value) (vb:Option Nat) (q2:Nat) (gC:Nat) (cC9:Nat):Nat->Value
 | 0 => .pointer (some ⟨gF,k*4,none⟩)
 | 1 => .pointer (some ⟨gF,k*4,none⟩)
 | 2 => .pointer (some ⟨gF,k*4,none⟩)
 | 3 => .pointer (some ⟨gF,k*4+3,none⟩)
 | 4 => .slice pc lc cc
 | 5 => .agg #[.int .i64 (n:Int),.int .i64 ar]
 | 6 => .slice (some ⟨q2,0,none⟩) 1 1
 | 7 => .slice (some ⟨gC,0,none⟩) (lc+1) cC9
 | 8 => .pointer (some ⟨gF,k*4,none⟩)
 | 9 => .pointer (some ⟨gF,k*4+3,none⟩)
 | 10=>undef
 | _=>undef
def Yxz (E k gF bi lc cc sz n:Nat) (ar:Int) (pc:Option Addr) (ys:List Value) (vb:Option Nat) (q2:Nat) (gC:Nat) (cC9:Nat):Nat->World->Prop
 | 6=>fun w9=>w9.heap[q2]? = some (.cells #[.int .i64 (n:Int),.int .i64 ar] 58 (0,0))
 | 7=>fun w9=>w9.ownsRow E 58 2 (.slice (some ⟨gC,0,none⟩) (lc+1) cC9) (lc+1) (ys++[.int .i64 (n:Int),.int .i64 ar])/\(some gC=vb\/sz<=gC)
 | _=>fun _=>True
theorem Yvi {E k gF bi lc cc sz n:Nat} {ar:Int} {pc:Option Addr} {ys:List Value} {vb:Option Nat} {q2:Nat} {gC:Nat} {cC9:Nat} {q22:Nat} {l:Array Bool} (hcl:∀ p∈([(2,1),(3,2),(4,3),(6,5),(7,4),(7,6),(8,0),(9,8),(10,9),(10,7)]:List (Nat × Nat)),l.getD (Prod.fst p) false=true->l.getD (Prod.snd p) false=true) (hun:l.getD 6 false=false):∀ i,i<11->l.getD i false=true->isT i<158->Zqz E k gF bi lc cc sz n ar pc ys vb q22 gC cC9 i=Zqz E k gF bi lc cc sz n ar pc ys vb q2 gC cC9 i:=by
 intro i hi hl _
 rcases Zut i hi with rfl|rfl|rfl|rfl|rfl|rfl|rfl|rfl|rfl|rfl|rfl <;> first|rfl|exact Zk (hl) hun
theorem Yvh {E k gF bi lc cc sz n:Nat} {ar:Int} {pc:Option Addr} {ys:List Value} {vb:Option Nat} {q2:Nat} {gC:Nat} {cC9:Nat} {gC2:Nat} {cC92:Nat} {l:Array Bool} (hcl:∀ p∈([(2,1),(3,2),(4,3),(6,5),(7,4),(7,6),(8,0),(9,8),(10,9),(10,7)]:List (Nat × Nat)),l.getD (Prod.fst p) false=true->l.getD (Prod.snd p) false=true) (hun:l.getD 7 false=false):∀ i,i<11->l.getD i false=true->isT i<158->Zqz E k gF bi lc cc sz n ar pc ys vb q2 gC2 cC92 i=Zqz E k gF bi lc cc sz n ar pc ys vb q2 gC cC9 i:=by
 intro i hi hl _
 rcases Zut i hi with rfl|rfl|rfl|rfl|rfl|rfl|rfl|rfl|rfl|rfl|rfl <;> first|rfl|exact Zk (hl) hun
theorem Zra (w0 ww w:World) (p m k gF cF bi:Nat) (c:CS) (x:Option Int) (n:Nat) (ar:Int) (vd vL vB:Value) (bm:Nat) (cv:List Value) (lb:List Nat) (vc:Value)
 (h:Zjb w0 w p m c (Zgw x) vd (.slice (some ⟨gF,0,none⟩) c.funcs.length cF) vL vB bm cv lb) (hk:c.funcs.length=k+1) (hv:cv[k]? = some vc) (hb:w.heap[bi]? = some (.cells #[.int .i64 n,.int .i64 ar] 58 (0,0))) (hne:vc.ownBlock≠some bi)
 (hFr:Fr ww w) (hm:m+1<=1000000) (R:Option (CS × Option Int)) (hR:R=some (Zjq c (n,ar),x)) (a:Act) (ha:Yya k gF bi a) (K:Act->World->Prop) (hK:∀ a w,Code.wp Tryz.prog (Zgc Tryz.f80 28) (bodyPost Tryz.prog Tryz.f80 (Yi w0 ww p (m+1) R)) a w->K a w) :
 Code.wp Tryz.prog (Zml Tryz.f80 28) (Exit.then K (bodyPost Tryz.prog Tryz.f80 (Yi w0 ww p (m+1) R))) a w:=by
 subst hR
 rw [Yvj ha]
 generalize (fun i=>a.tmps.getD i undef)=t
 clear ha
 have HA:=Hq h
 have HV:=Hq hv
 have FR:=Hq (Zz hFr (Xg (Ze (Zb w none))))
 have hf:c.funcs[k]? = some (c.funcs.getD k (0,0,0,[])):=by
  rw [List.getD_eq_getElem?_getD,List.getElem?_eq_getElem (by omega:k<c.funcs.length)];rfl
 have AD:=Hq (Xp h (Ze (Zb w none)))
 have hz:=h.ins.z3 _ (List.mem_of_getElem? hf)
 have ho:=h.ins.own.each k _ vc hf hv
 have hE:=h.gr.size
 obtain ⟨g',cap',hvF,hgF,hcF⟩:=Zv h.ins.own.fr (by omega)
 injection hvF with hvF _ _
 injection hvF with hvF;injection hvF with hvF
 subst hvF
 obtain ⟨-,-,-,q3⟩:=Zad c.funcs cv k _ _ hf hv
 have c3:=hcF _ _ q3 (by omega)
 have z3:=Zbe h.ins.own.fr (k*4+3)
 have HNF:some gF≠vc.ownBlock:=by
  intro e
  rcases Zh h.ins.own.fr ho (by decide) with q|q
  · cases q
  · exact q e
 have HNB:some bi≠vc.ownBlock:=fun e=>hne e.symm
 have hlb:bi<w.heap.size:=(Gs hb)
 have d0:=Cq _ _ 0 _ _ _ hb
 have d1:=Cq _ _ 1 _ _ _ hb
 have OWN:=Hq (ho.kept (Ze (Zb w none)) (Yw ho))
 obtain ⟨pc,cc,hvc⟩:=Zi ho
 generalize hfe:c.funcs.getD k (0,0,0,[])=f at *
 obtain ⟨fa,fl,fr,fc⟩:=f
 simp only [] at hz hvc
 subst hvc
 have HFE:=Hq hfe
 have hdr:=World.size_drew w
 obtain ⟨vb,hvb⟩:∃ vb,(Value.slice pc fc.length cc).ownBlock=vb:=⟨_,rfl⟩
 rw [hvb] at HNF HNB
 obtain ⟨ni,ni0,ni1,ni2,ni3⟩:=info_parts Zlg
 have HK:=Hq hk
 clear h hf ho hcF q3 hb hfe hv hne hFr hk
 unfold inF
 generalize t 0=u,t 1=u,t 2=u,t 3=u,t 4=u,t 5=u,t 6=u,t 7=u,t 8=u,t 9=u,t 10=u,t 11=u,t 14=u,t 15=u,t 16=u,t 17=u,t 18=u,t 19=u,t 20=u,t 21=u,t 22=u,t 23=u,t 24=u,t 25=u,t 26=u,t 27=u,t 28=u,t 29=u,t 30=u,t 31=u,t 32=u,t 33=u,t 34=u,t 35=u,t 36=u,t 37=u,t 38=u,t 39=u,t 40=u,t 41=u,t 42=u,t 43=u,t 44=u,t 45=u,t 46=u,t 47=u,t 48=u,t 49=u,t 50=u,t 51=u,t 52=u,t 53=u,t 54=u,t 55=u,t 56=u,t 57=u,t 58=u,t 59=u,t 60=u,t 61=u,t 62=u,t 63=u,t 64=u,t 65=u,t 66=u,t 67=u,t 68=u,t 69=u,t 70=u,t 71=u,t 72=u,t 73=u,t 74=u,t 75=u,t 76=u,t 77=u,t 78=u,t 79=u,t 80=u,t 81=u,t 82=u,t 83=u,t 84=u,t 85=u,t 86=u,t 87=u,t 88=u,t 89=u,t 90=u,t 91=u,t 92=u,t 93=u,t 94=u,t 95=u,t 96=u,t 97=u,t 98=u,t 99=u,t 100=u,t 101=u,t 102=u,t 103=u,t 104=u,t 105=u,t 106=u,t 107=u,t 108=u,t 109=u,t 110=u,t 111=u,t 112=u,t 113=u,t 114=u,t 115=u,t 116=u,t 117=u,t 118=u,t 119=u,t 120=u,t 121=u,t 122=u,t 123=u,t 124=u,t 125=u,t 126=u,t 127=u,t 128=u,t 129=u,t 130=u,t 131=u,t 132=u,t 133=u,t 134=u,t 135=u,t 136=u,t 137=u,t 138=u,t 139=u,t 140=u,t 141=u,t 142=u,t 143=u,t 144=u,t 145=u,t 146=u,t 147=u,t 148=u,t 149=u,t 150=u,t 151=u,t 152=u,t 153=u,t 154=u,t 155=u,t 156=u,t 157=u
 clear t
 conv=>arg 2;whnf
 refine Yd (n:=11) (J:=fun a0 l a1 w1=>∃ (q2:Nat) (gC:Nat) (cC9:Nat),RJ a0 158 11 isT (Zqz w0.heap.size k gF bi fc.length cc w.heap.size n ar pc (Xh fc) vb q2 gC cC9) l a1/\Zas 10 11 7 [(2,1),(3,2),(4,3),(6,5),(7,4),(7,6),(8,0),(9,8),(10,9),(10,7)] [(6,7)] (fun w9=>World.grownBy w.drew w9 vb) (fun w9=>w9.ownsRow w0.heap.size 58 2 (.slice pc fc.length cc) fc.length (Xh fc)) (Yxz w0.heap.size k gF bi fc.length cc w.heap.size n ar pc (Xh fc) vb q2 gC cC9) (fun w9=>∃ (w8:World),World.grownBy w.drew w8 vb/\w8.ownsRow w0.heap.size 58 2 (.slice (some ⟨gC,0,none⟩) (fc.length+1) cC9) (fc.length+1) (Xh fc++[.int .i64 (n:Int),.int .i64 ar])/\((Value.slice (some ⟨gC,0,none⟩) (fc.length+1) cC9).ownBlock=vb\/∀ b,(Value.slice (some ⟨gC,0,none⟩) (fc.length+1) cC9).ownBlock=some b->w.drew.heap.size<=b)/\w9=w8.setCell ⟨gF,k*4+3,none⟩ (.slice (some ⟨gC,0,none⟩) (fc.length+1) cC9)) l w1) (by kernel_rfl) rfl (Yt (by kernel_rfl)) (fun l a1 w1 h=>by obtain ⟨_,_,_,h,_⟩:=h;exact h.sz) ⟨0,0,0,Yc rfl,Zu (Zb _ _) (OWN.out)⟩ ?step ?fin
 case step =>
  intro l a1 w' i hJJ hi hin
  obtain ⟨q2,gC,cC9,hJ,hW⟩:=hJJ
  have hun:l.getD i false=false:=getD_both (mem_ready.1 hi).1
  have hns:=Xe hW hin hun
  have hg:=hW.g hns
  have l0:=Nat.lt_of_lt_of_le hgF hg.size
  have l1:=Nat.lt_of_lt_of_le hlb hg.size
  rcases Zut i hin with rfl|rfl|rfl|rfl|rfl|rfl|rfl|rfl|rfl|rfl|rfl
  · have e12:a1.tmps.getD 12 undef = .pointer (some ⟨gF,k*4,none⟩):=hJ.un 12 (fun i hi _=>Zxx 12 (by decide) i hi)
    exact Zc (Zd hJ hW hi hun (hne:=Zgz _ (by decide)) (hrun:=by simp [execOp,Act.eval,e12,go_sem,Zqz])) (fun a9 w9 h9=>⟨q2,gC,cC9,h9⟩)
  · have e12:a1.tmps.getD 12 undef = .pointer (some ⟨gF,k*4,none⟩):=hJ.un 12 (fun i hi _=>Zxx 12 (by decide) i hi)
    exact Zc (Zd hJ hW hi hun (hne:=Zgz _ (by decide)) (hrun:=by simp [execOp,Act.eval,e12,go_sem,Zqz])) (fun a9 w9 h9=>⟨q2,gC,cC9,h9⟩)
  · have e149:a1.tmps.getD 149 undef = .pointer (some ⟨gF,k*4,none⟩):=rjt hJ hi 1
    exact Zc (Zd hJ hW hi hun (hne:=Zgz _ (by decide)) (hrun:=by simp [execOp,Act.eval,e149,go_sem,Zqz])) (fun a9 w9 h9=>⟨q2,gC,cC9,h9⟩)
  · have e150:a1.tmps.getD 150 undef = .pointer (some ⟨gF,k*4,none⟩):=rjt hJ hi 2
    exact Zc (Zd hJ hW hi hun (hne:=Zgz _ (by decide)) (hrun:=by simp [execOp,Act.eval,e150,go_sem,Zqz])) (fun a9 w9 h9=>⟨q2,gC,cC9,h9⟩)
  · have e151:a1.tmps.getD 151 undef = .pointer (some ⟨gF,k*4+3,none⟩):=rjt hJ hi 3
    have h0:=hg.cell c3 HNF
    exact Zc (Zd hJ hW hi hun (hne:=Zgz _ (by decide)) (hrun:=by simp [execOp,Act.eval,e151,h0,l0,l1,go_sem,Zqz])) (fun a9 w9 h9=>⟨q2,gC,cC9,h9⟩)
  · have e13:a1.tmps.getD 13 undef = .pointer (some ⟨bi,0,none⟩):=hJ.un 13 (fun i hi _=>Zxx 13 (by decide) i hi)
    have h0:=hg.cell d0 HNB
    have h1:=hg.cell d1 HNB
    exact Zc (Zd hJ hW hi hun (hne:=Zgz _ (by decide)) (hrun:=by simp [execOp,Act.eval,e13,h0,h1,l0,l1,go_sem,Zqz])) (fun a9 w9 h9=>⟨q2,gC,cC9,h9⟩)
  · have e153:a1.tmps.getD 153 undef = .agg #[.int .i64 (n:Int),.int .i64 ar]:=rjt hJ hi 5
    have f153:=e153
    rw [Array.getD_eq_getD_getElem?] at f153
    refine Zt (v:=Zqz w0.heap.size k gF bi fc.length cc w.heap.size n ar pc (Xh fc) vb w'.heap.size gC cC9 6) (w':=w'.alloc (.cells #[.int .i64 (n:Int),.int .i64 ar] 58)) rfl (by rfl) (by simp [execOp,Act.eval,e153,f153,Yij,Result.andThen,Zqz]) ⟨w'.heap.size,gC,cC9,?_,Zo hW (by decide) hun (by decide) (Zg _ hi (by kernel_rfl)) (Za hg (Ga _ _ _)) (fun hne0 hun0 hB0=>hB0.alloc _) (fun j hj hne hl hcu hF => ?_) (heap_alloc_new w' _)⟩
    · exact Yg (val:=Zqz w0.heap.size k gF bi fc.length cc w.heap.size n ar pc (Xh fc) vb w'.heap.size gC cC9) (Yj hJ (Yvi hW.cl hun)) (by decide) (by decide) (Zgz _ (by decide))
    · rcases Zut j hj with rfl|rfl|rfl|rfl|rfl|rfl|rfl|rfl|rfl|rfl|rfl <;> first|exact True.intro|exact absurd rfl hne|exact Zk (hW.cl (7,6) (by decide) (hl)) hun
  · have e152:a1.tmps.getD 152 undef = .slice pc fc.length cc:=rjt hJ hi 4
    have e154:a1.tmps.getD 154 undef = .slice (some ⟨q2,0,none⟩) 1 1:=rjt hJ hi 6
    have F6:=hW.f hns 6 (by decide) (Zq hi 6 (by kernel_rfl)) (Jg (c:=7) (by decide) hun)
    have own:=hW.u hun
    obtain ⟨v8,w8,hap,hown,hgr,-,hat⟩:=run_append_own_at (P:=Tryz.prog) w' w0.heap.size 59 59 58 ni (.agg #[.int .i64 0,.int .i64 0]) 2 16 Zoh ni0 ni1 ni2 ni3 rfl (by decide) _ fc.length (Xh fc) own ⟨q2,0,none⟩ 1 1 [.int .i64 (n:Int),.int .i64 ar] rfl (Zbj F6) (Yws _ _) (by unfold maxLen;omega) (by omega) (Nat.le_trans hE hg.size)
    rw [hvb] at hgr hat
    obtain ⟨gC2,cC92,hv⟩:=Js hown
    subst hv
    have hgs:=hg.size
    have hat2:some gC2=vb\/w.heap.size<=gC2:=hat.imp id (fun e=>by injection e with e;simp only at e;omega)
    refine Zt (v:=Zqz w0.heap.size k gF bi fc.length cc w.heap.size n ar pc (Xh fc) vb q2 gC2 cC92 7) (w':=w8) rfl (by rfl) (by simp [execOp,resolve,invoke,builtin,Act.eval,e152,e154,hap,Result.andThen,Zqz]) ⟨q2,gC2,cC92,?_,Zo hW (by decide) hun (by decide) (Zg _ hi (by kernel_rfl)) (Za hg hgr) (fun hne0 hun0 hB0=>absurd rfl hne0) (fun j hj hne hl hcu hF => ?_) (⟨hown,hat2⟩)⟩
    · exact Yg (val:=Zqz w0.heap.size k gF bi fc.length cc w.heap.size n ar pc (Xh fc) vb q2 gC2 cC92) (Yj hJ (Yvh hW.cl hun)) (by decide) (by decide) (Zgz _ (by decide))
    · rcases Zut j hj with rfl|rfl|rfl|rfl|rfl|rfl|rfl|rfl|rfl|rfl|rfl <;> first|exact True.intro|exact absurd rfl (hcu (6,7) (by decide) rfl).1|exact absurd rfl hne
  · have e148:a1.tmps.getD 148 undef = .pointer (some ⟨gF,k*4,none⟩):=rjt hJ hi 0
    exact Zc (Zd hJ hW hi hun (hne:=Zgz _ (by decide)) (hrun:=by simp [execOp,Act.eval,e148,go_sem,Zqz])) (fun a9 w9 h9=>⟨q2,gC,cC9,h9⟩)
  · have e156:a1.tmps.getD 156 undef = .pointer (some ⟨gF,k*4,none⟩):=rjt hJ hi 8
    exact Zc (Zd hJ hW hi hun (hne:=Zgz _ (by decide)) (hrun:=by simp [execOp,Act.eval,e156,go_sem,Zqz])) (fun a9 w9 h9=>⟨q2,gC,cC9,h9⟩)
  · have e157:a1.tmps.getD 157 undef = .pointer (some ⟨gF,k*4+3,none⟩):=rjt hJ hi 9
    have e155:a1.tmps.getD 155 undef = .slice (some ⟨gC,0,none⟩) (fc.length+1) cC9:=rjt hJ hi 7
    have F7:=hW.f hns 7 (by decide) (Zq hi 7 (by kernel_rfl)) (Zat (by decide))
    have k1:=hg.cell c3 HNF
    have bx2:=hg.block gF hgF HNF
    have j1:w'.frozen? ⟨gF,k*4+3,none⟩=false:=(World.frozen?_of_block bx2).trans z3
    have lb2:=Nat.lt_of_lt_of_le hgF hg.size
    have O7:w'.ownsRow w0.heap.size 58 2 (.slice (some ⟨gC,0,none⟩) (fc.length+1) cC9) (fc.length+1) (Xh fc++[.int .i64 (n:Int),.int .i64 ar]):=F7.1
    have L7:some gC=vb\/w.heap.size<=gC:=F7.2
    have hall:∀ j,j<11->j≠10->l.getD j false=true:=Jp hi hW.cl (by kernel_rfl)
    exact Zc (Jo (WS:=fun l9 w9=>Zas 10 11 7 [(2,1),(3,2),(4,3),(6,5),(7,4),(7,6),(8,0),(9,8),(10,9),(10,7)] [(6,7)] (fun w9=>World.grownBy w.drew w9 vb) (fun w9=>w9.ownsRow w0.heap.size 58 2 (.slice pc fc.length cc) fc.length (Xh fc)) (Yxz w0.heap.size k gF bi fc.length cc w.heap.size n ar pc (Xh fc) vb q2 gC cC9) (fun w9=>∃ (w8:World),World.grownBy w.drew w8 vb/\w8.ownsRow w0.heap.size 58 2 (.slice (some ⟨gC,0,none⟩) (fc.length+1) cC9) (fc.length+1) (Xh fc++[.int .i64 (n:Int),.int .i64 ar])/\((Value.slice (some ⟨gC,0,none⟩) (fc.length+1) cC9).ownBlock=vb\/∀ b,(Value.slice (some ⟨gC,0,none⟩) (fc.length+1) cC9).ownBlock=some b->w.drew.heap.size<=b)/\w9=w8.setCell ⟨gF,k*4+3,none⟩ (.slice (some ⟨gC,0,none⟩) (fc.length+1) cC9)) l9 w9) hJ rfl rfl rfl (by decide) (by decide) (w':=w'.setCell ⟨gF,k*4+3,none⟩ (.slice (some ⟨gC,0,none⟩) (fc.length+1) cC9)) (by simp [execOp,Act.eval,e157,e155,k1,j1,lb2,go_sem]) (Xa hW (by decide) (by decide) hall (Zg _ hi (by kernel_rfl)) (⟨w',hg,O7,L7.imp id (fun h7 b hb7=>by injection hb7 with hb7;simp only at hb7;omega),rfl⟩))) (fun a9 w9 h9=>⟨q2,gC,cC9,h9⟩)
 case fin =>
  intro l9 a1 w9 hJJ hl9
  obtain ⟨q2,gC,cC9,hJ,hW⟩:=hJJ
  have hq:=hW.q (hl9 10 (by decide))
  have hput:=Ys hJ rfl hl9 (fun i j h1 h2 h3=>Zgz j h2 i h1 h3)
  subst hput
  clear hJ hW hl9 c3 d0 d1
  obtain ⟨w8,q1,q4,q5,rfl⟩:=hq
  refine hK _ _ ?_
  simp only [Ja,isT,Zqz,Act.put,List.setIfInBounds_toArray,List.set_cons_zero,List.set_cons_succ]
  have M:=Yly (i:=((n:Int),ar)) (v' := .slice (some ⟨gC,0,none⟩) (fc.length+1) cC9) AD.out HK.out HV.out (by rw [HFE.out,Zhd];exact q4) (by rw [hvb];exact q1) (by rw [hvb];exact q5)
  clear hK K q1 q4 q5
  conv=>arg 2;whnf
  go_wp2
  go_ret
  exact ⟨⟨rfl,M.1⟩,Zz FR.out M.2,Zdg M.1⟩
theorem Zqk {w0 w:World} {p m:Nat} {c:CS} {pend pend' vd vF vL vB:Value} {bm:Nat} {cv:List Value} {lb:List Nat} (h:Zjb w0 w p m c pend vd vF vL vB bm cv lb) :
 Zjb w0 (w.setCell ⟨p,7,none⟩ pend') p m c pend' vd vF vL vB bm cv lb/\w.grownBy (w.setCell ⟨p,7,none⟩ pend') (some p) :=
 ⟨⟨Zy h.gr h.ge,h.ge,by rw [Zj h.box];rfl,Zfq h.ins h.box (Zm w p 7 pend'),h.lens⟩,Zm w p 7 pend'⟩
theorem Yol (w0 w:World) (p m:Nat) (c:CS) (x:Option Int) (e:Int) (vd vF vL vB:Value) (bm:Nat) (cv:List Value) (lb:List Nat) (h:Zjb w0 w p m c (Zgw x) vd vF vL vB bm cv lb) :
 Calls Tryz.prog 112 #[.pointer (some ⟨p,0,none⟩),.int .i64 e] w fun e' w'=>e' = .returned (.tuple #[])/\Zjb w0 w' p m c (Zgw (amV x e)) vd vF vL vB bm cv lb/\w.grownBy w' (some p):=by
 have A:=Hq h
 have c7:=Cq w p 7 _ _ _ h.box
 have z7:=frozen_of_row w p 7 _ _ h.box
 have hlt:p<w.heap.size:=(Gs h.box)
 clear h
 cases x with
 | none =>
   simp only [Zgw] at c7
   have E1:=Hq (Zqk (pend' := .iface 41 (.int .i64 e)) A.out)
   go_enter Tryz.func112,Tryz.ntmps112
   go_wp2
   go_end0
   exact ⟨rfl,E1.out.1,E1.out.2⟩
 | some y =>
   simp only [Zgw] at c7
   by_cases h3:e=143
   · have E1:=Hq (Zqk (pend' := .iface 41 (.int .i64 143)) A.out)
     subst h3
     go_enter Tryz.func112,Tryz.ntmps112
     go_wp2
     go_end0
     exact ⟨rfl,E1.out.1,E1.out.2⟩
   · have b3:(e == 143)=false:=beq_eq_false_iff_ne.2 h3
     have hv:amV (some y) e=some y:=by simp [amV,h3]
     rw [hv]
     clear h3 hv
     go_enter Tryz.func112,Tryz.ntmps112
     go_wp2
     go_end0
     exact ⟨rfl,A.out,Zb _ _⟩
def imF (p b o ln cc b9 k gF bi:Nat) (line:Int) (t:Nat->Value):Act:=⟨#[.pointer (some ⟨p,0,none⟩),.int .i64 line,.slice (some ⟨b,o,none⟩) (ln+1) cc,t 3,t 4,t 5,t 6,t 7,t 8,.pointer (some ⟨b9,0,none⟩),t 10,.int .i64 (k:Int),.pointer (some ⟨gF,k*4,none⟩),.pointer (some ⟨bi,0,none⟩),t 14,t 15,t 16,t 17,t 18,t 19,t 20,t 21,t 22,t 23,t 24,t 25,t 26,t 27,t 28,t 29,t 30,t 31,t 32,t 33,t 34,t 35,t 36,t 37,t 38,t 39,t 40,t 41,t 42,t 43,t 44,t 45,t 46,t 47,t 48,t 49,t 50,t 51,t 52,t 53,t 54,t 55,t 56,t 57,t 58,t 59,t 60,t 61,t 62,t 63,t 64,t 65,t 66,t 67,t 68,t 69,t 70,t 71,t 72,t 73,t 74,t 75,t 76,t 77,t 78,t 79,t 80,t 81,t 82,t 83,t 84,t 85,t 86,t 87,t 88,t 89,t 90,t 91,t 92,t 93,t 94,t 95,t 96,t 97,t 98,t 99,t 100,t 101,t 102,t 103,t 104,t 105,t 106,t 107,t 108,t 109,t 110,t 111,t 112,t 113,t 114,t 115,t 116,t 117,t 118,t 119,t 120,t 121,t 122,t 123,t 124,t 125,t 126,t 127,t 128,t 129,t 130,t 131,t 132,t 133,t 134,t 135,t 136,t 137,t 138,t 139,t 140,t 141,t 142,t 143,t 144,t 145,t 146,t 147,t 148,t 149,t 150,t 151,t 152,t 153,t 154,t 155,t 156,t 157],[]⟩
structure Yea (p b o ln cc b9 k gF bi:Nat) (line:Int) (a:Act):Prop where
 sz:a.tmps.size=158
 df:a.defers=[]
 s0:a.tmps.getD 0 undef = .pointer (some ⟨p,0,none⟩)
 s1:a.tmps.getD 1 undef = .int .i64 line
 s2:a.tmps.getD 2 undef = .slice (some ⟨b,o,none⟩) (ln+1) cc
 s9:a.tmps.getD 9 undef = .pointer (some ⟨b9,0,none⟩)
 s11:a.tmps.getD 11 undef = .int .i64 (k:Int)
 s12:a.tmps.getD 12 undef = .pointer (some ⟨gF,k*4,none⟩)
 s13:a.tmps.getD 13 undef = .pointer (some ⟨bi,0,none⟩)
theorem Zic {p b o ln cc b9 k gF bi:Nat} {line:Int} {a:Act} (H:Yea p b o ln cc b9 k gF bi line a):a=imF p b o ln cc b9 k gF bi line (fun i=>a.tmps.getD i undef):=by
 refine Zyo H.sz H.df fun j hj => ?_
 have hs:=H.sz
 rw [hs] at hj
 unfold tm
 rcases j with _|j
 · exact H.s0
 rcases j with _|j
 · exact H.s1
 rcases j with _|j
 · exact H.s2
 iterate 6 (rcases j with _|j;· rfl)
 rcases j with _|j
 · exact H.s9
 iterate 1 (rcases j with _|j;· rfl)
 rcases j with _|j
 · exact H.s11
 rcases j with _|j
 · exact H.s12
 rcases j with _|j
 · exact H.s13
 iterate 144 (rcases j with _|j;· rfl)
 omega
structure Zhk (w0 ww w:World) (p m k gF cF b o b9 bi:Nat) (c:CS) (x:Option Int) (n:Nat) (kd:Int) (q0:Pc) (rest:List Pc) (vd vL vB:Value) (bm:Nat) (cv:List Value) (lb:List Nat) (vc:Value):Prop where
 ps:Zjb w0 w p m c (Zgw x) vd (.slice (some ⟨gF,0,none⟩) c.funcs.length cF) vL vB bm cv lb
 hk:c.funcs.length=k+1
 hv:cv[k]? = some vc
 hp:Zkh w (some ⟨b,o,none⟩) (q0::rest)
 h9:∃ nm tk gv,w.heap[b9]? = some (.cells #[.string nm,.int .i64 kd,.int .i64 tk,.int .i64 gv] 144 (0,0))
 hi:w.heap[bi]? = some (.cells #[.int .i64 n,.int .i64 0] 58 (0,0))
 hE:w0.heap.size<=bi
 ne:∀ (k:Nat) (v:Value),cv[k]? = some v->v.ownBlock≠some bi
 fr:Fr ww w
theorem Zrb {w0 ww w w':World} {p m k gF cF b o b9 bi:Nat} {c:CS} {x:Option Int} {n:Nat} {kd:Int} {q0:Pc} {rest:List Pc} {vd vL vB:Value} {bm:Nat} {cv:List Value} {lb:List Nat} {vc:Value} (h:Zhk w0 ww w p m k gF cF b o b9 bi c x n kd q0 rest vd vL vB bm cv lb vc) (g:w.grownBy w' none) :
 Zhk w0 ww w' p m k gF cF b o b9 bi c x n kd q0 rest vd vL vB bm cv lb vc:=by
 obtain ⟨nm,tk,gv,h9⟩:=h.h9
 exact ⟨Xp h.ps g,h.hk,h.hv,Zak h.hp (Xg g),⟨nm,tk,gv,Zf h9 g (by simp)⟩,Zf h.hi g (by simp),h.hE,h.ne,Zz h.fr (Xg g)⟩
theorem Zoj {w0 ww w:World} {p m k gF cF b o b9 bi:Nat} {c:CS} {x:Option Int} {n:Nat} {kd:Int} {q0:Pc} {rest:List Pc} {vd vL vB:Value} {bm:Nat} {cv:List Value} {lb:List Nat} {vc:Value} (h:Zhk w0 ww w p m k gF cF b o b9 bi c x n kd q0 rest vd vL vB bm cv lb vc) (a:Int) :
 Zjb w0 (w.setCell ⟨bi,1,none⟩ (.int .i64 a)) p m c (Zgw x) vd (.slice (some ⟨gF,0,none⟩) c.funcs.length cF) vL vB bm cv lb/\(w.setCell ⟨bi,1,none⟩ (.int .i64 a)).heap[bi]? = some (.cells #[.int .i64 n,.int .i64 a] 58 (0,0))/\Fr ww (w.setCell ⟨bi,1,none⟩ (.int .i64 a)) :=
 ⟨Ygk h.ps h.hi (Or.inl rfl) h.ne h.hE (Zm _ _ _ _),by rw [Zj h.hi];rfl,Zz h.fr (Zot h.hi (by decide) (Zm _ _ _ _))⟩
theorem Ywz {w0 w:World} {p m:Nat} {c:CS} {pend vd vF vL vB:Value} {bm:Nat} {cv:List Value} {lb:List Nat} (h:Zjb w0 w p m c pend vd vF vL vB bm cv lb):PS w0 w p m c pend:=⟨vd,vF,vL,vB,bm,cv,lb,h⟩
theorem Zjr {w0 w:World} {p m m':Nat} {c:CS} {pend vd vF vL vB:Value} {bm:Nat} {cv:List Value} {lb:List Nat} (h:Zjb w0 w p m c pend vd vF vL vB bm cv lb) (hm:m<=m'):Zjb w0 w p m' c pend vd vF vL vB bm cv lb :=
 ⟨h.gr,h.ge,h.box,Znr h.ins hm,h.lens⟩
theorem Jk (s:Txt):(bs s).toList=s:=by rw [Lib.toList_data,Xs]
theorem Ynk {w0 ww w w':World} {p m k gF cF b o b9 bi:Nat} {c:CS} {x y:Option Int} {n:Nat} {kd:Int} {q0:Pc} {rest:List Pc} {vd vL vB:Value} {bm:Nat} {cv:List Value} {lb:List Nat} {vc:Value} (h:Zhk w0 ww w p m k gF cF b o b9 bi c x n kd q0 rest vd vL vB bm cv lb vc)
 (hps:Zjb w0 w' p m c (Zgw y) vd (.slice (some ⟨gF,0,none⟩) c.funcs.length cF) vL vB bm cv lb) (g:w.grownBy w' (some p)) (hne:some p≠some bi) :
 Zhk w0 ww w' p m k gF cF b o b9 bi c y n kd q0 rest vd vL vB bm cv lb vc:=by
 obtain ⟨nm,tk,gv,h9⟩:=h.h9
 have h2:=Zot h.ps.box (by decide) g
 refine ⟨hps,h.hk,h.hv,Zak h.hp h2,⟨nm,tk,gv,Zf h9 g (fun e => ?_)⟩,Zf h.hi g (fun e=>hne e),h.hE,h.ne,Zz h.fr h2⟩
 injection e with e
 have h1:=h.ps.box
 rw [<- e,h1] at h9
 injection h9 with h9;injection h9 with _ h9 _;revert h9;decide
theorem Yng (w0 ww w:World) (p m k gF cF b o b9 bi cc:Nat) (line:Int) (c:CS) (x:Option Int) (n:Nat) (kd:Int) (q0:Pc) (vd vL vB:Value) (bm:Nat) (cv:List Value) (lb:List Nat) (vc:Value) (h0:kd=0)
 (h:Zhk w0 ww w p m k gF cF b o b9 bi c x n kd q0 ([]:List Pc) vd vL vB bm cv lb vc) (hcc:([]:List Pc).length+1<=cc) (hl:([]:List Pc).length<=70000) (hm:m+2<=1000000) (R:Option (CS × Option Int)) (hR:R=some (Zjq c (n,0),x)) (a:Act) (ha:Yea p b o ([]:List Pc).length cc b9 k gF bi line a) (K:Act->World->Prop) (hK:∀ a w,Code.wp Tryz.prog (Zgc Tryz.f80 8) (bodyPost Tryz.prog Tryz.f80 (Yi w0 ww p (m+2) R)) a w->K a w) :
 Code.wp Tryz.prog (Zml Tryz.f80 8) (Exit.then K (bodyPost Tryz.prog Tryz.f80 (Yi w0 ww p (m+2) R))) a w:=by
 subst hR
 rw [Zic ha]
 generalize (fun i=>a.tmps.getD i undef)=t
 clear ha
 have HA:=Hq h
 obtain ⟨nm,tk,gv,h9⟩:=h.h9
 have e9:w.cell? ⟨b9,1,none⟩=some (.int .i64 kd):=Cq _ _ 1 _ _ _ h9
 have l9:=(Gs h9)
 have li:=(Gs h.hi)
 have hci:((([]:List Pc).length:Int)+1)<=cc:=by omega
 clear h9 h
 unfold imF
 iterate 151 (generalize t _=u)
 clear t
 conv=>arg 2;whnf
 subst h0
 by_cases hc1:cc=1
 all_goals
  go_wp2
  try clear K
  conv=>arg 2;whnf
  go_upto_region 28 with fail
  rename_i K28 hK28
  exact Zra w0 ww w p (m+1) k gF cF bi c x n 0 vd vL vB bm cv lb vc (Zjr HA.out.ps (by omega)) HA.out.hk HA.out.hv HA.out.hi (HA.out.ne _ _ HA.out.hv) HA.out.fr hm _ rfl _ ⟨rfl,rfl,rfl,rfl⟩ _ hK28
theorem Zuw (w0 ww w:World) (p m k gF cF b o b9 bi cc:Nat) (line:Int) (c:CS) (x:Option Int) (n:Nat) (kd:Int) (q0:Pc) (vd vL vB:Value) (bm:Nat) (cv:List Value) (lb:List Nat) (vc:Value) (r:Pc) (rs:List Pc) (h0:kd=0)
 (h:Zhk w0 ww w p m k gF cF b o b9 bi c x n kd q0 (r::rs) vd vL vB bm cv lb vc) (hcc:(r::rs).length+1<=cc) (hl:(r::rs).length<=70000) (hm:m+2<=1000000) (R:Option (CS × Option Int)) (hR:R=none) (a:Act) (ha:Yea p b o (r::rs).length cc b9 k gF bi line a) (K:Act->World->Prop) (hK:∀ a w,Code.wp Tryz.prog (Zgc Tryz.f80 8) (bodyPost Tryz.prog Tryz.f80 (Yi w0 ww p (m+2) R)) a w->K a w) :
 Code.wp Tryz.prog (Zml Tryz.f80 8) (Exit.then K (bodyPost Tryz.prog Tryz.f80 (Yi w0 ww p (m+2) R))) a w:=by
 subst hR
 rw [Zic ha]
 generalize (fun i=>a.tmps.getD i undef)=t
 clear ha
 have HA:=Hq h
 obtain ⟨nm,tk,gv,h9⟩:=h.h9
 have e9:w.cell? ⟨b9,1,none⟩=some (.int .i64 kd):=Cq _ _ 1 _ _ _ h9
 have l9:=(Gs h9)
 have li:=(Gs h.hi)
 have hci:(((r::rs).length:Int)+1)<=cc:=by omega
 clear h9 h
 unfold imF
 iterate 151 (generalize t _=u)
 clear t
 conv=>arg 2;whnf
 subst h0
 have hc1:¬ cc=1:=by simp at hcc;omega
 simp only [List.length_cons] at hcc hci hl
 go_wp2
 try clear K
 conv=>arg 2;whnf
 go_wp2
 go_ret
 exact ⟨rfl,HA.out.fr,HA.out.ps.gr⟩
theorem Ynh (w0 ww w:World) (p m k gF cF b o b9 bi cc:Nat) (line:Int) (c:CS) (x:Option Int) (n:Nat) (kd:Int) (q0:Pc) (vd vL vB:Value) (bm:Nat) (cv:List Value) (lb:List Nat) (vc:Value) (rest:List Pc) (h0:kd≠0) (h1:rest.length≠1)
 (h:Zhk w0 ww w p m k gF cF b o b9 bi c x n kd q0 rest vd vL vB bm cv lb vc) (hcc:rest.length+1<=cc) (hl:rest.length<=70000) (hm:m+2<=1000000) (R:Option (CS × Option Int)) (hR:R=none) (a:Act) (ha:Yea p b o rest.length cc b9 k gF bi line a) (K:Act->World->Prop) (hK:∀ a w,Code.wp Tryz.prog (Zgc Tryz.f80 8) (bodyPost Tryz.prog Tryz.f80 (Yi w0 ww p (m+2) R)) a w->K a w) :
 Code.wp Tryz.prog (Zml Tryz.f80 8) (Exit.then K (bodyPost Tryz.prog Tryz.f80 (Yi w0 ww p (m+2) R))) a w:=by
 subst hR
 rw [Zic ha]
 generalize (fun i=>a.tmps.getD i undef)=t
 clear ha
 have HA:=Hq h
 obtain ⟨nm,tk,gv,h9⟩:=h.h9
 have e9:w.cell? ⟨b9,1,none⟩=some (.int .i64 kd):=Cq _ _ 1 _ _ _ h9
 have l9:=(Gs h9)
 have li:=(Gs h.hi)
 have hci:((rest.length:Int)+1)<=cc:=by omega
 clear h9 h
 unfold imF
 iterate 151 (generalize t _=u)
 clear t
 conv=>arg 2;whnf
 have b0:(kd == 0)=false:=beq_eq_false_iff_ne.2 h0
 have b1:((rest.length:Int) != 1)=true:=by rw [bne_iff_ne];omega
 by_cases hc1:cc=1
 all_goals
  go_wp2
  try clear K
  conv=>arg 2;whnf
  go_wp2
  go_ret
  exact ⟨rfl,HA.out.fr,HA.out.ps.gr⟩
theorem Yni (w0 ww w:World) (p m k gF cF b o b9 bi cc:Nat) (line:Int) (c:CS) (x:Option Int) (n:Nat) (kd:Int) (q0:Pc) (vd vL vB:Value) (bm:Nat) (cv:List Value) (lb:List Nat) (vc:Value) (q:Pc) (h0:kd≠0) (h1:pcK q≠1) (h2:pcK q≠0)
 (h:Zhk w0 ww w p m k gF cF b o b9 bi c x n kd q0 [q] vd vL vB bm cv lb vc) (hcc:[q].length+1<=cc) (hl:[q].length<=70000) (hm:m+2<=1000000) (R:Option (CS × Option Int)) (hR:R=none) (a:Act) (ha:Yea p b o [q].length cc b9 k gF bi line a) (K:Act->World->Prop) (hK:∀ a w,Code.wp Tryz.prog (Zgc Tryz.f80 8) (bodyPost Tryz.prog Tryz.f80 (Yi w0 ww p (m+2) R)) a w->K a w) :
 Code.wp Tryz.prog (Zml Tryz.f80 8) (Exit.then K (bodyPost Tryz.prog Tryz.f80 (Yi w0 ww p (m+2) R))) a w:=by
 subst hR
 rw [Zic ha]
 generalize (fun i=>a.tmps.getD i undef)=t
 clear ha
 have HA:=Hq h
 obtain ⟨nm,tk,gv,h9⟩:=h.h9
 have e9:w.cell? ⟨b9,1,none⟩=some (.int .i64 kd):=Cq _ _ 1 _ _ _ h9
 have l9:=(Gs h9)
 have li:=(Gs h.hi)
 have hci:(([q].length:Int)+1)<=cc:=by omega
 clear h9 h
 unfold imF
 iterate 151 (generalize t _=u)
 clear t
 conv=>arg 2;whnf
 have b0:(kd == 0)=false:=beq_eq_false_iff_ne.2 h0
 have b1:(pcK q == 1)=false:=beq_eq_false_iff_ne.2 h1
 have b2:(pcK q != 0)=true:=by rw [bne_iff_ne];exact h2
 obtain ⟨b',o',e,hb2,x0,x1,x2,x3⟩:=Jb HA.out.hp (i:=1) (q:=q) rfl
 injection e with e;injection e with e1 e2
 subst e1;subst e2
 simp only [Nat.one_mul] at x0 x1 x2 x3
 have hc1:¬ cc=1:=by simp at hcc;omega
 simp only [List.length_cons,List.length_nil] at hcc hci hl
 go_wp2
 try clear K
 conv=>arg 2;whnf
 go_wp2
 go_ret
 exact ⟨rfl,HA.out.fr,HA.out.ps.gr⟩
theorem Ysu (w0 ww w:World) (p m k gF cF b o b9 bi cc:Nat) (line:Int) (c:CS) (x:Option Int) (n:Nat) (kd:Int) (q0:Pc) (vd vL vB:Value) (bm:Nat) (cv:List Value) (lb:List Nat) (vc:Value) (v:Int) (h0:kd≠0)
 (h:Zhk w0 ww w p m k gF cF b o b9 bi c x n kd q0 [Pc.num v false] vd vL vB bm cv lb vc) (hcc:[Pc.num v false].length+1<=cc) (hl:[Pc.num v false].length<=70000) (hm:m+2<=1000000) (R:Option (CS × Option Int)) (hR:R=some (Zjq c (n,v),x)) (a:Act) (ha:Yea p b o [Pc.num v false].length cc b9 k gF bi line a) (K:Act->World->Prop) (hK:∀ a w,Code.wp Tryz.prog (Zgc Tryz.f80 8) (bodyPost Tryz.prog Tryz.f80 (Yi w0 ww p (m+2) R)) a w->K a w) :
 Code.wp Tryz.prog (Zml Tryz.f80 8) (Exit.then K (bodyPost Tryz.prog Tryz.f80 (Yi w0 ww p (m+2) R))) a w:=by
 subst hR
 rw [Zic ha]
 generalize (fun i=>a.tmps.getD i undef)=t
 clear ha
 have HA:=Hq h
 obtain ⟨nm,tk,gv,h9⟩:=h.h9
 have e9:w.cell? ⟨b9,1,none⟩=some (.int .i64 kd):=Cq _ _ 1 _ _ _ h9
 have l9:=(Gs h9)
 have li:=(Gs h.hi)
 have hci:(([Pc.num v false].length:Int)+1)<=cc:=by omega
 clear h9 h
 unfold imF
 iterate 151 (generalize t _=u)
 clear t
 conv=>arg 2;whnf
 have b0:(kd == 0)=false:=beq_eq_false_iff_ne.2 h0
 obtain ⟨b',o',e,hb2,x0,x1,x2,x3⟩:=Jb HA.out.hp (i:=1) (q := .num v false) rfl
 injection e with e;injection e with e1 e2
 subst e1;subst e2
 simp only [Nat.one_mul,pcK,pcT,pcN,pcF] at x0 x1 x2 x3
 have hc1:¬ cc=1:=by simp at hcc;omega
 simp only [List.length_cons,List.length_nil] at hcc hci hl
 have y1:=Cq _ _ 1 _ _ _ HA.out.hi
 have z1:=frozen_of_row _ _ 1 _ _ HA.out.hi
 have ST:=Hq (Zoj HA.out v)
 go_wp2
 try clear K
 conv=>arg 2;whnf
 go_upto_region 28 with fail
 rename_i K28 hK28
 exact Zra w0 ww _ p (m+1) k gF cF bi c x n v vd vL vB bm cv lb vc (Zjr ST.out.1 (by omega)) HA.out.hk HA.out.hv ST.out.2.1 (HA.out.ne _ _ HA.out.hv) ST.out.2.2 hm _ rfl _ ⟨rfl,rfl,rfl,rfl⟩ _ hK28
theorem Ysw (w0 ww w:World) (p m k gF cF b o b9 bi cc:Nat) (line:Int) (c:CS) (x:Option Int) (n:Nat) (kd:Int) (q0:Pc) (vd vL vB:Value) (bm:Nat) (cv:List Value) (lb:List Nat) (vc:Value) (v:Int) (h0:kd≠0)
 (h:Zhk w0 ww w p m k gF cF b o b9 bi c x n kd q0 [Pc.num v true] vd vL vB bm cv lb vc) (hcc:[Pc.num v true].length+1<=cc) (hl:[Pc.num v true].length<=70000) (hm:m+2<=1000000) (R:Option (CS × Option Int)) (hR:R=some (Zjq c (n,v),amV x 143)) (a:Act) (ha:Yea p b o [Pc.num v true].length cc b9 k gF bi line a) (K:Act->World->Prop) (hK:∀ a w,Code.wp Tryz.prog (Zgc Tryz.f80 8) (bodyPost Tryz.prog Tryz.f80 (Yi w0 ww p (m+2) R)) a w->K a w) :
 Code.wp Tryz.prog (Zml Tryz.f80 8) (Exit.then K (bodyPost Tryz.prog Tryz.f80 (Yi w0 ww p (m+2) R))) a w:=by
 subst hR
 rw [Zic ha]
 generalize (fun i=>a.tmps.getD i undef)=t
 clear ha
 have HA:=Hq h
 obtain ⟨nm,tk,gv,h9⟩:=h.h9
 have e9:w.cell? ⟨b9,1,none⟩=some (.int .i64 kd):=Cq _ _ 1 _ _ _ h9
 have l9:=(Gs h9)
 have li:=(Gs h.hi)
 have hci:(([Pc.num v true].length:Int)+1)<=cc:=by omega
 clear h9 h
 unfold imF
 iterate 151 (generalize t _=u)
 clear t
 conv=>arg 2;whnf
 have b0:(kd == 0)=false:=beq_eq_false_iff_ne.2 h0
 obtain ⟨b',o',e,hb2,x0,x1,x2,x3⟩:=Jb HA.out.hp (i:=1) (q := .num v true) rfl
 injection e with e;injection e with e1 e2
 subst e1;subst e2
 simp only [Nat.one_mul,pcK,pcT,pcN,pcF] at x0 x1 x2 x3
 have hc1:¬ cc=1:=by simp at hcc;omega
 simp only [List.length_cons,List.length_nil] at hcc hci hl
 have AM:=Hq (Yol w0 w p m c x 143 vd _ vL vB bm cv lb HA.out.ps)
 have HPI:some p≠some bi:=fun e=>by injection e with e;have h1:=HA.out.ps.box;have h2:=HA.out.hi;rw [<- e,h1] at h2;injection h2 with h2;injection h2 with _ h2 _;revert h2;decide
 go_wp2
 try clear K
 conv=>arg 2;whnf
 go_upto_region 28 with (go_at_call 112;refine AM.out.mono ?_;rintro e w2 ⟨rfl,hps,hg⟩;have IA:=Hq (Ynk HA.out hps hg HPI);clear hps hg;obtain ⟨b',o',e,hb2,x0,x1,x2,x3⟩:=Jb IA.out.hp (i:=1) (q := .num v true) rfl;injection e with e;injection e with e1 e2;subst e1;subst e2;simp only [Nat.one_mul,pcK,pcT,pcN,pcF] at x0 x1 x2 x3;have y1:=Cq _ _ 1 _ _ _ IA.out.hi;have z1:=frozen_of_row _ _ 1 _ _ IA.out.hi;have li2:=(Gs IA.out.hi);have ST:=Hq (Zoj IA.out v))
 rename_i K28 hK28
 exact Zra w0 ww _ p (m+1) k gF cF bi c (amV x 143) n v vd vL vB bm cv lb vc (Zjr ST.out.1 (by omega)) HA.out.hk HA.out.hv ST.out.2.1 (HA.out.ne _ _ HA.out.hv) ST.out.2.2 hm _ rfl _ ⟨rfl,rfl,rfl,rfl⟩ _ hK28
theorem Ynf (w0 ww w:World) (p m k gF cF b o b9 bi cc:Nat) (line:Int) (c:CS) (x:Option Int) (n:Nat) (kd:Int) (q0:Pc) (vd vL vB:Value) (bm:Nat) (cv:List Value) (lb:List Nat) (vc:Value) (s:Txt) (h0:kd≠0) (h3:kd≠3) (h4:kd≠4) (h5:kd≠5)
 (h:Zhk w0 ww w p m k gF cF b o b9 bi c x n kd q0 [Pc.word s] vd vL vB bm cv lb vc) (hcc:[Pc.word s].length+1<=cc) (hl:[Pc.word s].length<=70000) (hm:m+2<=1000000) (R:Option (CS × Option Int)) (hR:R=none) (a:Act) (ha:Yea p b o [Pc.word s].length cc b9 k gF bi line a) (K:Act->World->Prop) (hK:∀ a w,Code.wp Tryz.prog (Zgc Tryz.f80 8) (bodyPost Tryz.prog Tryz.f80 (Yi w0 ww p (m+2) R)) a w->K a w) :
 Code.wp Tryz.prog (Zml Tryz.f80 8) (Exit.then K (bodyPost Tryz.prog Tryz.f80 (Yi w0 ww p (m+2) R))) a w:=by
 subst hR
 rw [Zic ha]
 generalize (fun i=>a.tmps.getD i undef)=t
 clear ha
 have HA:=Hq h
 obtain ⟨nm,tk,gv,h9⟩:=h.h9
 have e9:w.cell? ⟨b9,1,none⟩=some (.int .i64 kd):=Cq _ _ 1 _ _ _ h9
 have l9:=(Gs h9)
 have li:=(Gs h.hi)
 have hci:(([Pc.word s].length:Int)+1)<=cc:=by omega
 clear h9 h
 unfold imF
 iterate 151 (generalize t _=u)
 clear t
 conv=>arg 2;whnf
 have b0:(kd == 0)=false:=beq_eq_false_iff_ne.2 h0
 have b3:(kd == 3)=false:=beq_eq_false_iff_ne.2 h3
 have b4:(kd == 4)=false:=beq_eq_false_iff_ne.2 h4
 have b5:(kd == 5)=false:=beq_eq_false_iff_ne.2 h5
 obtain ⟨b',o',e,hb2,x0,x1,x2,x3⟩:=Jb HA.out.hp (i:=1) (q := .word s) rfl
 injection e with e;injection e with e1 e2
 subst e1;subst e2
 simp only [Nat.one_mul,pcK,pcT,pcN,pcF] at x0 x1 x2 x3
 have hc1:¬ cc=1:=by simp at hcc;omega
 simp only [List.length_cons,List.length_nil] at hcc hci hl
 go_wp2
 try clear K
 conv=>arg 2;whnf
 go_wp2
 go_ret
 exact ⟨rfl,HA.out.fr,HA.out.ps.gr⟩
theorem Yst (w0 ww w:World) (p m k gF cF b o b9 bi cc:Nat) (line:Int) (c:CS) (x:Option Int) (n:Nat) (kd:Int) (q0:Pc) (vd vL vB:Value) (bm:Nat) (cv:List Value) (lb:List Nat) (vc:Value) (s:Txt) (j:Nat) (h0:kd=5) (hj:Xb callT s=some j)
 (h:Zhk w0 ww w p m k gF cF b o b9 bi c x n kd q0 [Pc.word s] vd vL vB bm cv lb vc) (hcc:[Pc.word s].length+1<=cc) (hl:[Pc.word s].length<=70000) (hm:m+2<=1000000) (R:Option (CS × Option Int)) (hR:R=some (Zjq c (n,(j:Int)),x)) (a:Act) (ha:Yea p b o [Pc.word s].length cc b9 k gF bi line a) (K:Act->World->Prop) (hK:∀ a w,Code.wp Tryz.prog (Zgc Tryz.f80 8) (bodyPost Tryz.prog Tryz.f80 (Yi w0 ww p (m+2) R)) a w->K a w) :
 Code.wp Tryz.prog (Zml Tryz.f80 8) (Exit.then K (bodyPost Tryz.prog Tryz.f80 (Yi w0 ww p (m+2) R))) a w:=by
 subst hR
 rw [Zic ha]
 generalize (fun i=>a.tmps.getD i undef)=t
 clear ha
 have HA:=Hq h
 obtain ⟨nm,tk,gv,h9⟩:=h.h9
 have e9:w.cell? ⟨b9,1,none⟩=some (.int .i64 kd):=Cq _ _ 1 _ _ _ h9
 have l9:=(Gs h9)
 have li:=(Gs h.hi)
 have hci:(([Pc.word s].length:Int)+1)<=cc:=by omega
 clear h9 h
 unfold imF
 iterate 151 (generalize t _=u)
 clear t
 conv=>arg 2;whnf
 subst h0
 obtain ⟨b',o',e,hb2,x0,x1,x2,x3⟩:=Jb HA.out.hp (i:=1) (q := .word s) rfl
 injection e with e;injection e with e1 e2
 subst e1;subst e2
 simp only [Nat.one_mul,pcK,pcT,pcN,pcF] at x0 x1 x2 x3
 have hc1:¬ cc=1:=by simp at hcc;omega
 simp only [List.length_cons,List.length_nil] at hcc hci hl
 have SN0:=Zlx (bs s) w
 rw [Jk,hj] at SN0
 simp only [Zgd] at SN0
 have SN:=Hq SN0
 clear hj SN0
 go_wp2
 try clear K
 conv=>arg 2;whnf
 go_upto_region 28 with (go_at_call 115;refine SN.out.mono ?_;rintro e w2 ⟨rfl,hg⟩;have IA:=Hq (Zrb HA.out hg);clear hg;have y1:=Cq _ _ 1 _ _ _ IA.out.hi;have z1:=frozen_of_row _ _ 1 _ _ IA.out.hi;have li2:=(Gs IA.out.hi);have ST:=Hq (Zoj IA.out j))
 rename_i K28 hK28
 exact Zra w0 ww _ p (m+1) k gF cF bi c x n j vd vL vB bm cv lb vc (Zjr ST.out.1 (by omega)) HA.out.hk HA.out.hv ST.out.2.1 (HA.out.ne _ _ HA.out.hv) ST.out.2.2 hm _ rfl _ ⟨rfl,rfl,rfl,rfl⟩ _ hK28
theorem Zxy (w0 ww w:World) (p m k gF cF b o b9 bi cc:Nat) (line:Int) (c:CS) (x:Option Int) (n:Nat) (kd:Int) (q0:Pc) (vd vL vB:Value) (bm:Nat) (cv:List Value) (lb:List Nat) (vc:Value) (s:Txt) (h0:kd=5) (hj:Xb callT s=none)
 (h:Zhk w0 ww w p m k gF cF b o b9 bi c x n kd q0 [Pc.word s] vd vL vB bm cv lb vc) (hcc:[Pc.word s].length+1<=cc) (hl:[Pc.word s].length<=70000) (hm:m+2<=1000000) (R:Option (CS × Option Int)) (hR:R=none) (a:Act) (ha:Yea p b o [Pc.word s].length cc b9 k gF bi line a) (K:Act->World->Prop) (hK:∀ a w,Code.wp Tryz.prog (Zgc Tryz.f80 8) (bodyPost Tryz.prog Tryz.f80 (Yi w0 ww p (m+2) R)) a w->K a w) :
 Code.wp Tryz.prog (Zml Tryz.f80 8) (Exit.then K (bodyPost Tryz.prog Tryz.f80 (Yi w0 ww p (m+2) R))) a w:=by
 subst hR
 rw [Zic ha]
 generalize (fun i=>a.tmps.getD i undef)=t
 clear ha
 have HA:=Hq h
 obtain ⟨nm,tk,gv,h9⟩:=h.h9
 have e9:w.cell? ⟨b9,1,none⟩=some (.int .i64 kd):=Cq _ _ 1 _ _ _ h9
 have l9:=(Gs h9)
 have li:=(Gs h.hi)
 have hci:(([Pc.word s].length:Int)+1)<=cc:=by omega
 clear h9 h
 unfold imF
 iterate 151 (generalize t _=u)
 clear t
 conv=>arg 2;whnf
 subst h0
 obtain ⟨b',o',e,hb2,x0,x1,x2,x3⟩:=Jb HA.out.hp (i:=1) (q := .word s) rfl
 injection e with e;injection e with e1 e2
 subst e1;subst e2
 simp only [Nat.one_mul,pcK,pcT,pcN,pcF] at x0 x1 x2 x3
 have hc1:¬ cc=1:=by simp at hcc;omega
 simp only [List.length_cons,List.length_nil] at hcc hci hl
 have SN0:=Zlx (bs s) w
 rw [Jk,hj] at SN0
 simp only [Zgd] at SN0
 have SN:=Hq SN0
 clear hj SN0
 go_wp2
 try clear K
 conv=>arg 2;whnf
 go_wp2_with (go_at_call 115;refine SN.out.mono ?_;rintro e w2 ⟨rfl,hg⟩;have IA:=Hq (Zrb HA.out hg);clear hg)
 go_ret
 exact ⟨rfl,IA.out.fr,IA.out.ps.gr⟩
end Go.Proofs.YteciblfmgdlipaaGreatDoor.AS
