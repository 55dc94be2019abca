/-
  Part of a proof: contracts of functions and lemmas, each stated by its own theorem. Conditions: as each theorem states.
-/
import Derived.Test.YteciblfmgdlipaaGreatDoorMR05
import Derived.Test.YteciblfmgdlipaaGreatDoorMR04
import Derived.Lib.AppendStr
import Derived.Deep.Cut
import Derived.Test.YteciblfmgdlipaaGreatDoorMR03
import Derived.Outline
set_option linter.unusedSimpArgs false
set_option linter.unusedVariables false
set_option maxRecDepth 100000
set_option maxHeartbeats 16000000
namespace Go.Proofs.YteciblfmgdlipaaGreatDoor.AS
open Go.RowKit Go.Great CK
theorem Yr {w0 w w':World} {p m:Nat} {c:CS} {pend vd vF vL vB:Value} {bm:Nat} {cv:List Value} {lb:List Nat} (h:Zge w0 w p m c pend vd vF vL vB bm cv lb) (g:w.grownBy w' none):Zge w0 w' p m c pend vd vF vL vB bm cv lb :=
 ⟨Za h.gr g,h.ge,Zf h.box g (by simp),Zkp h.ins g,h.lens⟩
theorem Ybn {w0 w w1:World} {p m:Nat} {c:CS} {pend vd vd' vF vL vB:Value} {bm:Nat} {cv:List Value} {lb:List Nat} {t:Txt} (h:Zge w0 w p m c pend vd vF vL vB bm cv lb)
 (ho:w1.ownsRow w0.heap.size 5 1 vd' (c.data++t).length ((Zfp (c.data++t)).map (Value.int .u8))) (g:w.grownBy w1 vd.ownBlock) :
 PS w0 (w1.setCell ⟨p,1,none⟩ vd') p (m+t.length) { c with data:=c.data++t } pend/\Fr w (w1.setCell ⟨p,1,none⟩ vd'):=by
 have hd:=h.ins.own.dt
 have hI:=Ybk h.ins ho g
 have hb:=Zf h.box g (Ye hd h.box (by decide))
 have gs:=Zo w1 p 1 vd'
 refine ⟨⟨vd',vF,vL,vB,bm,cv,lb,?_,h.ge,by rw [Zl hb];rfl,Zdo hI hb gs,h.lens⟩,Zn (Zll hd (by decide) g) (Zlm hb (by decide) gs)⟩
 exact Yd (Yj h.gr g (fun k hk=>(World.ownsRow.lt hd k hk).1)) h.ge
theorem Zty (a b:Txt):Zfp (a++b)=Zfp a++Zfp b:=by simp [Zfp]
theorem Zss (t:Txt):Lib.strCells (bs t)=(Zfp t).map (Value.int .u8):=by simp [Lib.strCells,Zfp,bs]
def ad:Nat->Nat
 | 0=>25
 | 1=>26
 | 2=>27
 | 3=>28
 | 4=>29
 | 5=>30
 | 6=>31
 | 7=>32
 | 8=>33
 | 9=>34
 | 10=>35
 | 11=>36
 | 12=>37
 | 13=>38
 | 14=>1014
 | _=>5000
theorem Zgd:∀ i,i<15->∀ j,j<15->j≠i->ad j≠ad i:=by decide
theorem Yiv (i:Nat) (h:i<15):i=0\/i=1\/i=2\/i=3\/i=4\/i=5\/i=6\/i=7\/i=8\/i=9\/i=10\/i=11\/i=12\/i=13\/i=14:=by omega
theorem Yes (j:Nat) (hj:j∈[0,1]):∀ i,i<15->ad i≠j:=by revert j;decide
def adv (E p b o nd cd cc nn:Nat) (pd:Option Addr) (tx:ByteArray) (ys:List Value) (pv:Option Addr) (cv9:Nat):Nat->Value
 | 0 => .pointer (some ⟨p,0,none⟩)
 | 1 => .pointer (some ⟨p,0,none⟩)
 | 2 => .pointer (some ⟨p,0,none⟩)
 | 3 => .pointer (some ⟨p,0,none⟩)
 | 4 => .pointer (some ⟨p,1,none⟩)
 | 5 => .slice pd nd cd
 | 6 => .slice (some ⟨b,o,none⟩) 1 cc
 | 7 => .pointer (some ⟨b,o,none⟩)
 | 8 => .pointer (some ⟨b,o+1,none⟩)
 | 9 => .string tx
 | 10 => .slice pv nn cv9
 | 11 => .pointer (some ⟨p,0,none⟩)
 | 12 => .pointer (some ⟨p,0,none⟩)
 | 13 => .pointer (some ⟨p,1,none⟩)
 | 14=>undef
 | _=>undef
def adF (E p b o nd cd cc nn:Nat) (pd:Option Addr) (tx:ByteArray) (ys:List Value) (pv:Option Addr) (cv9:Nat):Nat->World->Prop
 | 10=>fun w9=>w9.ownsRow E 5 1 (.slice pv nn cv9) nn ys
 | _=>fun _=>True
theorem Ypl {E p b o nd cd cc nn:Nat} {pd:Option Addr} {tx:ByteArray} {ys:List Value} {pv:Option Addr} {cv9:Nat} {pv2:Option Addr} {cv92:Nat} {l:Array Bool} (hcl:∀ p∈([(2,1),(3,2),(4,3),(5,4),(7,6),(8,7),(9,8),(10,5),(10,9),(11,0),(12,11),(13,12),(14,13),(14,10)]:List (Nat × Nat)),l.getD (Prod.fst p) false=true->l.getD (Prod.snd p) false=true) (hun:l.getD 10 false=false):∀ i,i<15->l.getD i false=true->ad i<39->adv E p b o nd cd cc nn pd tx ys pv2 cv92 i=adv E p b o nd cd cc nn pd tx ys pv cv9 i:=by
 intro i hi hl _
 rcases Yiv i hi with rfl|rfl|rfl|rfl|rfl|rfl|rfl|rfl|rfl|rfl|rfl|rfl|rfl|rfl|rfl
 · rfl
 · rfl
 · rfl
 · rfl
 · rfl
 · rfl
 · rfl
 · rfl
 · rfl
 · rfl
 · exact Zm (hl) hun
 · rfl
 · rfl
 · rfl
 · rfl
def Zfk (c:CS) (x:Option Int) (ps:List Pc):Option (CS × Option Int) :=
 match ps with
 | [.str t]=>if 0<c.funcs.length then none else some ({ c with data:=c.data++t },x)
 | _=>none
theorem Ymj (w0 w:World) (p m:Nat) (c:CS) (x:Option Int) (t:Txt) (b o cc:Nat) (h:PS w0 w p m c (Zeg x)) (hp:Zhr w (some ⟨b,o,none⟩) [.str t]) (hf:c.funcs.length=0) (hm:m+t.length<=1000000) :
 Calls Tryz.prog 78 #[.pointer (some ⟨p,0,none⟩),.slice (some ⟨b,o,none⟩) 1 cc] w (Zp w0 w p (m+t.length) (some ({ c with data:=c.data++t },x))):=by
 have HS:=Hq h
 obtain ⟨vd,vF,vL,vB,bm,cv,lb,hA⟩:=h
 obtain ⟨pF,cF,hvF⟩:=Jc hA
 obtain ⟨pd,cd,hvd⟩:=Zk hA.ins.own.dt
 rw [Jk] at hvd
 subst hvF;subst hvd
 have A:=Hq (Yr hA (Zg (Zd w none)))
 have hz1:=hA.ins.z1
 have bx:=hA.box
 have c1:w.cell? ⟨p,1,none⟩=some (.slice pd c.data.length cd):=Cq w p 1 _ _ _ bx
 have c2:w.cell? ⟨p,2,none⟩=some (.slice pF c.funcs.length cF):=Cq w p 2 _ _ _ bx
 have z1:=frozen_of_row w p 1 _ _ bx
 have hlt:p<w.heap.size:=(Gs bx)
 obtain ⟨b',o',e,hb,d0,d1,d2,d3⟩:=Xb hp (i:=0) (q := .str t) rfl
 injection e with e;injection e with e1 e2
 subst e1;subst e2
 simp only [Nat.zero_mul,Nat.add_zero,pcK,pcT,pcN,pcF] at d0 d1 d2 d3
 obtain ⟨bi,bi0,bi1,bi2,bi3⟩:=info_parts Jn
 have hfi:(c.funcs.length:Int)=0:=by omega
 have HNE:some p≠(Value.slice pd c.data.length cd).ownBlock:=fun e=>Ye hA.ins.own.dt bx (by decide) e.symm
 have HNB:some b≠(Value.slice pd c.data.length cd).ownBlock:=by
  obtain ⟨b',o',cs,fz,e,hb,_⟩:=hp (by simp)
  injection e with e;injection e with e1 e2
  subst e1
  intro e3
  rcases hA.ins.own.dt.2 with ⟨e4,_⟩|⟨g0,cap,cur,e4,_,hg,_⟩
  · rw [e4] at e3;cases e3
  · injection e4 with e4 _ _
    subst e4
    injection e3 with e3
    simp only at e3
    subst e3
    rw [hb] at hg;injection hg with hg;injection hg with _ h2 _;revert h2;decide
 have hE:=hA.gr.size
 have hts:(bs t).size=t.length:=Zi t
 generalize hvb:(Value.slice pd c.data.length cd).ownBlock=vb at *
 clear hA bx hp
 go_enter Tryz.func78,Tryz.ntmps78
 go_upto_region 3 with fail
 rename_i K hK
 refine Xa (n:=15) (J:=fun a0 l a1 w1=>∃ (pv:Option Addr) (cv9:Nat),RJ a0 39 15 ad (adv w0.heap.size p b o c.data.length cd cc (c.data.length+t.length) pd (bs t) ((Zfp c.data).map (Value.int .u8)++(Zfp t).map (Value.int .u8)) pv cv9) l a1/\Zcs 14 15 10 [(2,1),(3,2),(4,3),(5,4),(7,6),(8,7),(9,8),(10,5),(10,9),(11,0),(12,11),(13,12),(14,13),(14,10)] [] (fun w9=>World.grownBy w.drew w9 vb) (fun w9=>w9.ownsRow w0.heap.size 5 1 (.slice pd c.data.length cd) c.data.length ((Zfp c.data).map (Value.int .u8))) (adF w0.heap.size p b o c.data.length cd cc (c.data.length+t.length) pd (bs t) ((Zfp c.data).map (Value.int .u8)++(Zfp t).map (Value.int .u8)) pv cv9) (fun w9=>∃ (w8:World),World.grownBy w.drew w8 vb/\w8.ownsRow w0.heap.size 5 1 (.slice pv (c.data.length+t.length) cv9) (c.data.length+t.length) ((Zfp c.data).map (Value.int .u8)++(Zfp t).map (Value.int .u8))/\w9=w8.setCell ⟨p,1,none⟩ (.slice pv (c.data.length+t.length) cv9)) l w1) (by kernel_rfl) rfl (Xx (by kernel_rfl)) (fun l a1 w1 h=>by obtain ⟨_,_,h,_⟩:=h;exact h.sz) ⟨none,0,Yz rfl,Yf (Zd _ _) (by have:=A.out.ins.own.dt;rw [Jk] at this;exact this)⟩ ?step ?fin
 case step =>
  intro l a1 w' i hJJ hi hin
  obtain ⟨pv,cv9,hJ,hW⟩:=hJJ
  have hun:l.getD i false=false:=getD_both (mem_ready.1 hi).1
  have hns:=Jv hW hin hun
  have hg:=hW.g hns
  have l0:=Nat.lt_of_lt_of_le hlt hg.size
  have l1:=Nat.lt_of_lt_of_le hb hg.size
  rcases Yiv i hin with rfl|rfl|rfl|rfl|rfl|rfl|rfl|rfl|rfl|rfl|rfl|rfl|rfl|rfl|rfl
  · have e0:a1.tmps.getD 0 undef = .pointer (some ⟨p,0,none⟩):=hJ.un 0 (fun i hi _=>Yes 0 (by decide) i hi)
    exact Zh (Zc hJ hW hi hun rfl (by rfl) rfl (by decide) (by decide) (Zgd _ (by decide)) (w':=w') (by simp [execOp,resolve,invoke,builtin,Act.eval,e0,l0,l1,go_sem,adv]) (⟨by decide,by kernel_rfl,True.intro⟩)) (fun a9 w9 h9=>⟨pv,cv9,h9⟩)
  · have e0:a1.tmps.getD 0 undef = .pointer (some ⟨p,0,none⟩):=hJ.un 0 (fun i hi _=>Yes 0 (by decide) i hi)
    exact Zh (Zc hJ hW hi hun rfl (by rfl) rfl (by decide) (by decide) (Zgd _ (by decide)) (w':=w') (by simp [execOp,resolve,invoke,builtin,Act.eval,e0,l0,l1,go_sem,adv]) (⟨by decide,by kernel_rfl,True.intro⟩)) (fun a9 w9 h9=>⟨pv,cv9,h9⟩)
  · have e26:a1.tmps.getD 26 undef = .pointer (some ⟨p,0,none⟩):=(Ze hJ hi 1 (by kernel_rfl))
    exact Zh (Zc hJ hW hi hun rfl (by rfl) rfl (by decide) (by decide) (Zgd _ (by decide)) (w':=w') (by simp [execOp,resolve,invoke,builtin,Act.eval,e26,l0,l1,go_sem,adv]) (⟨by decide,by kernel_rfl,True.intro⟩)) (fun a9 w9 h9=>⟨pv,cv9,h9⟩)
  · have e27:a1.tmps.getD 27 undef = .pointer (some ⟨p,0,none⟩):=(Ze hJ hi 2 (by kernel_rfl))
    exact Zh (Zc hJ hW hi hun rfl (by rfl) rfl (by decide) (by decide) (Zgd _ (by decide)) (w':=w') (by simp [execOp,resolve,invoke,builtin,Act.eval,e27,l0,l1,go_sem,adv]) (⟨by decide,by kernel_rfl,True.intro⟩)) (fun a9 w9 h9=>⟨pv,cv9,h9⟩)
  · have e28:a1.tmps.getD 28 undef = .pointer (some ⟨p,0,none⟩):=(Ze hJ hi 3 (by kernel_rfl))
    exact Zh (Zc hJ hW hi hun rfl (by rfl) rfl (by decide) (by decide) (Zgd _ (by decide)) (w':=w') (by simp [execOp,resolve,invoke,builtin,Act.eval,e28,l0,l1,go_sem,adv]) (⟨by decide,by kernel_rfl,True.intro⟩)) (fun a9 w9 h9=>⟨pv,cv9,h9⟩)
  · have e29:a1.tmps.getD 29 undef = .pointer (some ⟨p,1,none⟩):=(Ze hJ hi 4 (by kernel_rfl))
    have h0:=hg.cell c1 HNE
    exact Zh (Zc hJ hW hi hun rfl (by rfl) rfl (by decide) (by decide) (Zgd _ (by decide)) (w':=w') (by simp [execOp,resolve,invoke,builtin,Act.eval,e29,h0,l0,l1,go_sem,adv]) (⟨by decide,by kernel_rfl,True.intro⟩)) (fun a9 w9 h9=>⟨pv,cv9,h9⟩)
  · have e1:a1.tmps.getD 1 undef = .slice (some ⟨b,o,none⟩) 1 cc:=hJ.un 1 (fun i hi _=>Yes 1 (by decide) i hi)
    exact Zh (Zc hJ hW hi hun rfl (by rfl) rfl (by decide) (by decide) (Zgd _ (by decide)) (w':=w') (by simp [execOp,resolve,invoke,builtin,Act.eval,e1,l0,l1,go_sem,adv]) (⟨by decide,by kernel_rfl,True.intro⟩)) (fun a9 w9 h9=>⟨pv,cv9,h9⟩)
  · have e31:a1.tmps.getD 31 undef = .slice (some ⟨b,o,none⟩) 1 cc:=(Ze hJ hi 6 (by kernel_rfl))
    exact Zh (Zc hJ hW hi hun rfl (by rfl) rfl (by decide) (by decide) (Zgd _ (by decide)) (w':=w') (by first|(simp [execOp,resolve,invoke,builtin,Act.eval,e31,l0,l1,go_sem,adv];done)|(simp [execOp,resolve,invoke,builtin,Act.eval,e31,l0,l1,go_sem,adv];omega)|(simp [execOp,resolve,invoke,builtin,Act.eval,e31,l0,l1,go_sem,adv];intro h;omega)|(simp [execOp,resolve,invoke,builtin,Act.eval,e31,l0,l1,go_sem,adv];intros;omega)) (⟨by decide,by kernel_rfl,True.intro⟩)) (fun a9 w9 h9=>⟨pv,cv9,h9⟩)
  · have e32:a1.tmps.getD 32 undef = .pointer (some ⟨b,o,none⟩):=(Ze hJ hi 7 (by kernel_rfl))
    exact Zh (Zc hJ hW hi hun rfl (by rfl) rfl (by decide) (by decide) (Zgd _ (by decide)) (w':=w') (by simp [execOp,resolve,invoke,builtin,Act.eval,e32,l0,l1,go_sem,adv]) (⟨by decide,by kernel_rfl,True.intro⟩)) (fun a9 w9 h9=>⟨pv,cv9,h9⟩)
  · have e33:a1.tmps.getD 33 undef = .pointer (some ⟨b,o+1,none⟩):=(Ze hJ hi 8 (by kernel_rfl))
    have h0:=hg.cell d1 HNB
    exact Zh (Zc hJ hW hi hun rfl (by rfl) rfl (by decide) (by decide) (Zgd _ (by decide)) (w':=w') (by simp [execOp,resolve,invoke,builtin,Act.eval,e33,h0,l0,l1,go_sem,adv]) (⟨by decide,by kernel_rfl,True.intro⟩)) (fun a9 w9 h9=>⟨pv,cv9,h9⟩)
  · have e30:a1.tmps.getD 30 undef = .slice pd c.data.length cd:=(Ze hJ hi 5 (by kernel_rfl))
    have e34:a1.tmps.getD 34 undef = .string (bs t):=(Ze hJ hi 9 (by kernel_rfl))
    have own:=hW.u hun
    obtain ⟨v8,w8,hap,hown,hgr,-⟩:=Lib.run_append_own_string (P:=Tryz.prog) (w:=w') w0.heap.size 23 9 23 5 bi Xk Jf bi0 bi1 bi2 bi3 _ c.data.length ((Zfp c.data).map (Value.int .u8)) own (bs t) (by unfold maxLen;omega) (by omega) (Nat.le_trans hE hg.size)
    rw [hts,Zss] at hown
    rw [hvb] at hgr
    obtain ⟨pv2,cv92,hv⟩:=Zk hown
    subst hv
    refine Xf (v:=adv w0.heap.size p b o c.data.length cd cc (c.data.length+t.length) pd (bs t) ((Zfp c.data).map (Value.int .u8)++(Zfp t).map (Value.int .u8)) pv2 cv92 10) (w':=w8) rfl (by rfl) (by simp [execOp,resolve,invoke,builtin,Act.eval,e30,e34,hap,Result.andThen,adv]) ⟨pv2,cv92,?_,Zv hW (by decide) hun (by decide) (Zj _ hi (by kernel_rfl)) (Za hg hgr) (fun hne0 hun0 hB0=>absurd rfl hne0) (fun j hj hne hl hcu hF => ?_) (hown)⟩
    · exact Xm (val:=adv w0.heap.size p b o c.data.length cd cc (c.data.length+t.length) pd (bs t) ((Zfp c.data).map (Value.int .u8)++(Zfp t).map (Value.int .u8)) pv2 cv92) (Xo hJ (Ypl hW.cl hun)) (by decide) (by decide) (Zgd _ (by decide))
    · rcases Yiv j hj with rfl|rfl|rfl|rfl|rfl|rfl|rfl|rfl|rfl|rfl|rfl|rfl|rfl|rfl|rfl
      · exact True.intro
      · exact True.intro
      · exact True.intro
      · exact True.intro
      · exact True.intro
      · exact True.intro
      · exact True.intro
      · exact True.intro
      · exact True.intro
      · exact True.intro
      · exact absurd rfl hne
      · exact True.intro
      · exact True.intro
      · exact True.intro
      · exact True.intro
  · have e25:a1.tmps.getD 25 undef = .pointer (some ⟨p,0,none⟩):=(Ze hJ hi 0 (by kernel_rfl))
    exact Zh (Zc hJ hW hi hun rfl (by rfl) rfl (by decide) (by decide) (Zgd _ (by decide)) (w':=w') (by simp [execOp,resolve,invoke,builtin,Act.eval,e25,l0,l1,go_sem,adv]) (⟨by decide,by kernel_rfl,True.intro⟩)) (fun a9 w9 h9=>⟨pv,cv9,h9⟩)
  · have e36:a1.tmps.getD 36 undef = .pointer (some ⟨p,0,none⟩):=(Ze hJ hi 11 (by kernel_rfl))
    exact Zh (Zc hJ hW hi hun rfl (by rfl) rfl (by decide) (by decide) (Zgd _ (by decide)) (w':=w') (by simp [execOp,resolve,invoke,builtin,Act.eval,e36,l0,l1,go_sem,adv]) (⟨by decide,by kernel_rfl,True.intro⟩)) (fun a9 w9 h9=>⟨pv,cv9,h9⟩)
  · have e37:a1.tmps.getD 37 undef = .pointer (some ⟨p,0,none⟩):=(Ze hJ hi 12 (by kernel_rfl))
    exact Zh (Zc hJ hW hi hun rfl (by rfl) rfl (by decide) (by decide) (Zgd _ (by decide)) (w':=w') (by simp [execOp,resolve,invoke,builtin,Act.eval,e37,l0,l1,go_sem,adv]) (⟨by decide,by kernel_rfl,True.intro⟩)) (fun a9 w9 h9=>⟨pv,cv9,h9⟩)
  · have e38:a1.tmps.getD 38 undef = .pointer (some ⟨p,1,none⟩):=(Ze hJ hi 13 (by kernel_rfl))
    have e35:a1.tmps.getD 35 undef = .slice pv (c.data.length+t.length) cv9:=(Ze hJ hi 10 (by kernel_rfl))
    have F10:=hW.f hns 10 (by decide) (Zb hi 10 (by kernel_rfl)) (Zdt (by decide))
    have bx2:=hg.block p hlt HNE
    have k1:=hg.cell c1 HNE
    have j1:w'.frozen? ⟨p,1,none⟩=false:=(World.frozen?_of_block bx2).trans z1
    have lb2:=Nat.lt_of_lt_of_le hlt hg.size
    have hall:∀ j,j<15->j≠14->l.getD j false=true:=by
     intro j hj hne
     rcases Yiv j hj with rfl|rfl|rfl|rfl|rfl|rfl|rfl|rfl|rfl|rfl|rfl|rfl|rfl|rfl|rfl
     · exact hW.cl (11,0) (by decide) (hW.cl (12,11) (by decide) (hW.cl (13,12) (by decide) (Zb hi 13 (by kernel_rfl))))
     · exact hW.cl (2,1) (by decide) (hW.cl (3,2) (by decide) (hW.cl (4,3) (by decide) (hW.cl (5,4) (by decide) (hW.cl (10,5) (by decide) (Zb hi 10 (by kernel_rfl))))))
     · exact hW.cl (3,2) (by decide) (hW.cl (4,3) (by decide) (hW.cl (5,4) (by decide) (hW.cl (10,5) (by decide) (Zb hi 10 (by kernel_rfl)))))
     · exact hW.cl (4,3) (by decide) (hW.cl (5,4) (by decide) (hW.cl (10,5) (by decide) (Zb hi 10 (by kernel_rfl))))
     · exact hW.cl (5,4) (by decide) (hW.cl (10,5) (by decide) (Zb hi 10 (by kernel_rfl)))
     · exact hW.cl (10,5) (by decide) (Zb hi 10 (by kernel_rfl))
     · exact hW.cl (7,6) (by decide) (hW.cl (8,7) (by decide) (hW.cl (9,8) (by decide) (hW.cl (10,9) (by decide) (Zb hi 10 (by kernel_rfl)))))
     · exact hW.cl (8,7) (by decide) (hW.cl (9,8) (by decide) (hW.cl (10,9) (by decide) (Zb hi 10 (by kernel_rfl))))
     · exact hW.cl (9,8) (by decide) (hW.cl (10,9) (by decide) (Zb hi 10 (by kernel_rfl)))
     · exact hW.cl (10,9) (by decide) (Zb hi 10 (by kernel_rfl))
     · exact Zb hi 10 (by kernel_rfl)
     · exact hW.cl (12,11) (by decide) (hW.cl (13,12) (by decide) (Zb hi 13 (by kernel_rfl)))
     · exact hW.cl (13,12) (by decide) (Zb hi 13 (by kernel_rfl))
     · exact Zb hi 13 (by kernel_rfl)
     · exact absurd rfl hne
    exact Zh (Zbk (WS:=fun l9 w9=>Zcs 14 15 10 [(2,1),(3,2),(4,3),(5,4),(7,6),(8,7),(9,8),(10,5),(10,9),(11,0),(12,11),(13,12),(14,13),(14,10)] [] (fun w9=>World.grownBy w.drew w9 vb) (fun w9=>w9.ownsRow w0.heap.size 5 1 (.slice pd c.data.length cd) c.data.length ((Zfp c.data).map (Value.int .u8))) (adF w0.heap.size p b o c.data.length cd cc (c.data.length+t.length) pd (bs t) ((Zfp c.data).map (Value.int .u8)++(Zfp t).map (Value.int .u8)) pv cv9) (fun w9=>∃ (w8:World),World.grownBy w.drew w8 vb/\w8.ownsRow w0.heap.size 5 1 (.slice pv (c.data.length+t.length) cv9) (c.data.length+t.length) ((Zfp c.data).map (Value.int .u8)++(Zfp t).map (Value.int .u8))/\w9=w8.setCell ⟨p,1,none⟩ (.slice pv (c.data.length+t.length) cv9)) l9 w9) hJ rfl rfl rfl (by decide) (by decide) (w':=w'.setCell ⟨p,1,none⟩ (.slice pv (c.data.length+t.length) cv9)) (by simp [execOp,Act.eval,e38,e35,k1,j1,lb2,go_sem]) (Jh hW (by decide) (by decide) hall (Zj _ hi (by kernel_rfl)) (⟨w',hg,F10,rfl⟩))) (fun a9 w9 h9=>⟨pv,cv9,h9⟩)
 case fin =>
  intro l a1 w9 hJJ hl
  obtain ⟨pv,cv9,hJ,hW⟩:=hJJ
  have hq:=hW.q (hl 14 (by decide))
  have hput:=Xw hJ rfl hl (fun i j h1 h2 h3=>Zgd j h2 i h1 h3)
  subst hput
  clear hJ hW hl
  obtain ⟨w8,q1,q2,rfl⟩:=hq
  refine hK _ _ ?_
  simp only [Jy,ad,adv,Act.put,List.setIfInBounds_toArray,List.set_cons_zero,List.set_cons_succ]
  clear hK K
  have M:=Ybn A.out (t:=t) (by rw [Zty,List.map_append,List.length_append];exact q2) (by rw [hvb];exact q1)
  go_wp2
  go_ret
  exact ⟨⟨rfl,M.1⟩,Zn (Yk (Zg (Zd w none))) M.2,Zax M.1⟩
theorem Zjj (w0 w:World) (p m:Nat) (c:CS) (x:Option Int) (ps:List Pc) (pp:Option Addr) (cc N:Nat) (h:PS w0 w p m c (Zeg x)) (hp:Zhr w pp ps) (hn:ps.length<=70000) (hN:∀ t,ps=[.str t]->t.length<=N) (hm:m+N<=1000000) :
 Calls Tryz.prog 78 #[.pointer (some ⟨p,0,none⟩),.slice pp ps.length cc] w (Zp w0 w p (m+N) (Zfk c x ps)):=by
 have HS:=Hq h
 by_cases hl:ps.length=1
 · obtain ⟨q,rfl⟩:∃ q,ps=[q]:=by
    cases ps with
    | nil=>simp at hl
    | cons a r=>cases r with|nil=>exact ⟨a,rfl⟩|cons b r=>simp at hl
   obtain ⟨b,o,rfl,hb,d0,d1,d2,d3⟩:=Xb hp (i:=0) (q:=q) rfl
   simp only [Nat.zero_mul,Nat.add_zero] at d0 d1 d2 d3
   by_cases hk:(pcK q == 2)=true
   · obtain ⟨t,rfl⟩:∃ t,q = .str t:=by cases q <;> simp [pcK] at hk;exact ⟨_,rfl⟩
     by_cases hf:0<c.funcs.length
     · have hD:Zfk c x [.str t]=none:=by simp [Zfk,hf]
       rw [hD]
       obtain ⟨vd,vF,vL,vB,bm,cv,lb,hA⟩:=h
       obtain ⟨pF,cF,hvF⟩:=Jc hA
       subst hvF
       have c2:w.cell? ⟨p,2,none⟩=some (.slice pF c.funcs.length cF):=Cq w p 2 _ _ _ hA.box
       have hlt:p<w.heap.size:=(Gs hA.box)
       have hfi:0<(c.funcs.length:Int):=by omega
       simp only [pcK] at d0
       clear hA hf hD hp
       go_enter Tryz.func78,Tryz.ntmps78
       go_wp2
       go_ret
       exact ⟨rfl,Zim _,Zax HS.out⟩
     · have hD:Zfk c x [.str t]=some ({ c with data:=c.data++t },x):=by simp [Zfk,hf]
       rw [hD]
       have ht:=hN t rfl
       refine (Ymj w0 w p m c x t b o cc h hp (by omega) (by omega)).mono ?_
       rintro e w' ⟨⟨rfl,h1⟩,h2,h3⟩
       exact ⟨⟨rfl,Zia h1 (by omega)⟩,h2,h3⟩
   · have hD:Zfk c x [q]=none:=by cases q <;> first|rfl|(simp [pcK] at hk)
     rw [hD]
     have hb2:(pcK q != 2)=true:=by simpa [bne] using hk
     generalize pcK q=v0 at *
     generalize bs (pcT q)=v1 at *
     generalize pcN q=v2 at *
     generalize pcF q=v3 at *
     clear hp hk h
     go_enter Tryz.func78,Tryz.ntmps78
     go_wp2
     go_ret
     exact ⟨rfl,Zim _,Zax HS.out⟩
 · have hD:Zfk c x ps=none:=by
    unfold Zfk
    split
    · simp at hl
    · rfl
   rw [hD]
   have hb:((ps.length:Int) != 1)=true:=by rw [bne_iff_ne];omega
   clear hl hp h
   go_enter Tryz.func78,Tryz.ntmps78
   go_wp2
   go_ret
   exact ⟨rfl,Zim _,Zax HS.out⟩
def Zif (c:CS) (x:Option Int) (t:Txt):CS × Option Int :=
 let k:=c.funcs.length - 1
 let f:=c.lm.getD k fun _=>none
 if (f t).isSome then (c,amV x 142) else ({ c with lm:=c.lm.set k fun u=>if u=t then some ((c.funcs.getD k (0,0,0,[])).2.2.2.length:Int) else f u },x)
def Ynh (w0 w:World) (p m:Nat) (r:CS × Option Int) (e:Ending) (w':World):Prop:=e = .returned (.tuple #[])/\PS w0 w' p m r.1 (Zeg r.2)/\Fr w w'
theorem Yky {w0 w w1:World} {p m k b:Nat} {c:CS} {pend vd vF vL vB:Value} {bm:Nat} {cv:List Value} {lb:List Nat} {f:Txt->Option Int} (h:Zge w0 w p m c pend vd vF vL vB bm cv lb) (hb:lb[k]? = some b) (hm:∃ m' f',Zfi w b m' f')
 (ho:Zfi w1 b (m+1) f) (g:w.grownBy w1 (some b)):PS w0 w1 p (m+1) { c with lm:=c.lm.set k f } pend/\Fr w w1:=by
 obtain ⟨m',f',hm⟩:=hm
 have hk:k<c.lm.length:=by rw [<- h.ins.len1];exact (List.getElem?_eq_some_iff.1 hb).1
 have hE:=(h.ins.each k b _ hb (List.getElem?_eq_getElem hk)).2
 refine ⟨⟨vd,vF,vL,vB,bm,cv,lb,Zpf h.gr g hE,h.ge,Zf h.box g ?_,Ykv h.ins hb ho g,by show (c.lm.set k f).length=_;rw [List.length_set];exact h.lens⟩,Yjq hm g⟩
 intro e
 injection e with e
 exact Zdq hm h.box e
theorem Yv {w w':World} {a:Addr} {v:Value} (h:w.cell? a=some v) (e:w'=w.drew):w'.cell? a=some v:=by rw [e];exact h
def al:Nat->Nat
 | 0=>29
 | 1=>30
 | 2=>31
 | 3=>32
 | 4=>33
 | 5=>34
 | 6=>35
 | 7=>36
 | 8=>37
 | 9=>38
 | 10=>39
 | 11=>40
 | 12=>41
 | 13=>42
 | 14=>43
 | 15=>44
 | 16=>45
 | 17=>46
 | 18=>1018
 | _=>5000
theorem Zds:∀ i,i<19->∀ j,j<19->j≠i->al j≠al i:=by decide
theorem Ypi (i:Nat) (h:i<19):i=0\/i=1\/i=2\/i=3\/i=4\/i=5\/i=6\/i=7\/i=8\/i=9\/i=10\/i=11\/i=12\/i=13\/i=14\/i=15\/i=16\/i=17\/i=18:=by omega
theorem Zsj (j:Nat) (hj:j∈[0,1,4]):∀ i,i<19->al i≠j:=by revert j;decide
def alv (p b k gL cL gF cF lc cc:Nat) (pc:Option Addr) (tx:ByteArray):Nat->Value
 | 0 => .pointer (some ⟨p,0,none⟩)
 | 1 => .pointer (some ⟨p,0,none⟩)
 | 2 => .pointer (some ⟨p,5,none⟩)
 | 3 => .slice (some ⟨gL,0,none⟩) (k+1) cL
 | 4 => .int .i64 (k:Int)
 | 5 => .pointer (some ⟨gL,k,none⟩)
 | 6 => .map (some b)
 | 7 => .string tx
 | 8 => .pointer (some ⟨p,0,none⟩)
 | 9 => .pointer (some ⟨p,0,none⟩)
 | 10 => .pointer (some ⟨p,0,none⟩)
 | 11 => .pointer (some ⟨p,2,none⟩)
 | 12 => .slice (some ⟨gF,0,none⟩) (k+1) cF
 | 13 => .int .i64 (k:Int)
 | 14 => .pointer (some ⟨gF,k*4,none⟩)
 | 15 => .pointer (some ⟨gF,k*4+3,none⟩)
 | 16 => .slice pc lc cc
 | 17 => .int .i64 lc
 | 18=>undef
 | _=>undef
def alF (p b k gL cL gF cF lc cc:Nat) (pc:Option Addr) (tx:ByteArray)  : Nat->World->Prop
 | _=>fun _=>True
theorem Ycp (w0 w:World) (p m:Nat) (c:CS) (x:Option Int) (t:Txt) (h:PS w0 w p m c (Zeg x)) (hf:0<c.funcs.length) (ht:t.length<=1000000) (hm:m+1<=1000000) :
 Calls Tryz.prog 76 #[.pointer (some ⟨p,0,none⟩),.string (bs t)] w (Ynh w0 w p (m+1) (Zif c x t)):=by
 have HS:=Hq h
 have AM:=Hq (Zlt w0 w p m c x 142 h)
 obtain ⟨vd,vF,vL,vB,bm,cv,lb,hA⟩:=h
 obtain ⟨k,hk⟩:∃ k,c.funcs.length=k+1:=⟨c.funcs.length - 1,by omega⟩
 have A:=Hq (Yr hA (Zg (Zd w none)))
 have hlb:k<lb.length:=by rw [hA.ins.len1,hA.lens];omega
 have hlm:k<c.lm.length:=by rw [hA.lens];omega
 obtain ⟨b,hb⟩:∃ b,lb[k]? = some b:=⟨_,List.getElem?_eq_getElem hlb⟩
 obtain ⟨f,hfk⟩:∃ f,c.lm[k]? = some f:=⟨_,List.getElem?_eq_getElem hlm⟩
 obtain ⟨hM,hME⟩:=hA.ins.each k b f hb hfk
 obtain ⟨⟨fa,fl,fr,fc⟩,hfu⟩:∃ x,c.funcs[k]? = some x:=⟨_,List.getElem?_eq_getElem (by omega)⟩
 obtain ⟨vc,hvc⟩:∃ v,cv[k]? = some v:=⟨_,List.getElem?_eq_getElem (by rw [hA.ins.own.cl];omega)⟩
 obtain ⟨pc,cc,hpc⟩:=Zk (hA.ins.own.each k _ vc hfu hvc)
 simp only [] at hpc
 subst hpc
 obtain ⟨gF,cF,hvF,hgF,hcF⟩:=Xc hA.ins.own.fr (by omega)
 obtain ⟨gL,cL,hvL,hgL,hcL⟩:=Xc hA.ins.lrow (by omega)
 obtain ⟨q0,q1,q2,q3⟩:=Zbu c.funcs cv k _ _ hfu hvc
 have d3:=hcF _ _ q3 (by omega)
 have e0:=hcL k (.map (some b)) (by rw [List.getElem?_map,hb];rfl) (by omega)
 rw [hk] at hvF
 have hlen:lb.length=k+1:=by rw [hA.ins.len1,hA.lens,hk]
 rw [hlen] at hvL
 subst hvF;subst hvL
 have c2:w.cell? ⟨p,2,none⟩=some (.slice (some ⟨gF,0,none⟩) (k+1) cF):=Cq w p 2 _ _ _ hA.box
 have c5:w.cell? ⟨p,5,none⟩=some (.slice (some ⟨gL,0,none⟩) (k+1) cL):=Cq w p 5 _ _ _ hA.box
 have hlt:p<w.heap.size:=(Gs hA.box)
 have hok:=Zox hM t ht
 have hz2:=hA.ins.z3 _ (List.mem_of_getElem? hfu)
 have MM:=Hq hM
 have HL:c.lm.getD k (fun _=>none)=f:=by rw [List.getD_eq_getElem?_getD,hfk];rfl
 have HC:c.funcs.getD k (0,0,0,[])=(fa,fl,fr,fc):=by rw [List.getD_eq_getElem?_getD,hfu];rfl
 have hki:(k:Int)<=1000000:=by have:=hA.ins.z2;omega
 simp only [] at hz2
 cases hs:(f t).isSome with
 | true =>
   have HR:=Hq (show Zif c x t=(c,amV x 142) by unfold Zif;simp only [hk,Nat.add_sub_cancel,HL,hs,if_true])
   rw [hs] at hok
   clear hA hM hb hfk hfu hvc hcF hcL q0 q1 q2 q3 HL HC
   go_enter Tryz.func76,Tryz.ntmps76
   go_wp2_with (go_at_call 112;refine AM.out.mono ?_;rintro e w2 ⟨rfl,hps,hg⟩;have S2:=Hq hps;have G2:=Hq hg;clear hps hg)
   go_end0
   rw [HR.out]
   exact ⟨rfl,Zia S2.out (by omega),Zby HS.out G2.out⟩
 | false =>
   have HR:=Hq (show Zif c x t=({ c with lm:=c.lm.set k fun u=>if u=t then some (fc.length:Int) else f u },x) by unfold Zif;simp only [hk,Nat.add_sub_cancel,HL,HC,hs];rfl)
   have HB:=Hq hb
   rw [hs] at hok
   clear hA hM hb hfk hfu hvc hcF hcL q0 q1 q2 q3 HL HC
   go_enter Tryz.func76,Tryz.ntmps76
   go_upto_region 4 with fail
   refine Xa (n:=19) (J:=fun a0 l a1 w1=>RJ a0 47 19 al (alv p b k gL cL gF cF fc.length cc pc (bs t) ) l a1/\Zcs 18 19 0 [(1,0),(2,1),(3,2),(5,3),(5,4),(6,5),(9,8),(10,9),(11,10),(12,11),(14,12),(14,13),(15,14),(16,15),(17,16),(18,6),(18,7),(18,17)] [] (fun w9=>w9=w.drew) (fun _=>True) (alF p b k gL cL gF cF fc.length cc pc (bs t) ) (fun w9=>Zfi w9 b (m+1) (fun u=>if u=t then some (fc.length:Int) else f u)/\World.grownBy w.drew w9 (some b)) l w1) (by kernel_rfl) rfl (Xx (by kernel_rfl)) (fun l a1 w1 h=>by obtain ⟨h,_⟩:=h;exact h.sz) ⟨Yz rfl,Yf (rfl) (True.intro)⟩ ?step ?fin
   case step =>
    intro l a1 w' i hJJ hi hin
    obtain ⟨hJ,hW⟩:=hJJ
    have hun:l.getD i false=false:=getD_both (mem_ready.1 hi).1
    have hns:=Jv hW hin hun
    have hg:=hW.g hns
    have l0:p<w'.heap.size:=by rw [hg];exact hlt
    have l1:gL<w'.heap.size:=by rw [hg];exact hgL
    have l2:gF<w'.heap.size:=by rw [hg];exact hgF
    rcases Ypi i hin with rfl|rfl|rfl|rfl|rfl|rfl|rfl|rfl|rfl|rfl|rfl|rfl|rfl|rfl|rfl|rfl|rfl|rfl|rfl
    · have e0:a1.tmps.getD 0 undef = .pointer (some ⟨p,0,none⟩):=hJ.un 0 (fun i hi _=>Zsj 0 (by decide) i hi)
      exact Zc hJ hW hi hun rfl (by rfl) rfl (by decide) (by decide) (Zds _ (by decide)) (w':=w') (by simp [execOp,resolve,invoke,builtin,Act.eval,e0,l0,l1,l2,go_sem,alv]) (⟨by decide,by kernel_rfl,True.intro⟩)
    · have e29:a1.tmps.getD 29 undef = .pointer (some ⟨p,0,none⟩):=(Ze hJ hi 0 (by kernel_rfl))
      exact Zc hJ hW hi hun rfl (by rfl) rfl (by decide) (by decide) (Zds _ (by decide)) (w':=w') (by simp [execOp,resolve,invoke,builtin,Act.eval,e29,l0,l1,l2,go_sem,alv]) (⟨by decide,by kernel_rfl,True.intro⟩)
    · have e30:a1.tmps.getD 30 undef = .pointer (some ⟨p,0,none⟩):=(Ze hJ hi 1 (by kernel_rfl))
      exact Zc hJ hW hi hun rfl (by rfl) rfl (by decide) (by decide) (Zds _ (by decide)) (w':=w') (by simp [execOp,resolve,invoke,builtin,Act.eval,e30,l0,l1,l2,go_sem,alv]) (⟨by decide,by kernel_rfl,True.intro⟩)
    · have e31:a1.tmps.getD 31 undef = .pointer (some ⟨p,5,none⟩):=(Ze hJ hi 2 (by kernel_rfl))
      have h0:=Yv c5 hg
      exact Zc hJ hW hi hun rfl (by rfl) rfl (by decide) (by decide) (Zds _ (by decide)) (w':=w') (by simp [execOp,resolve,invoke,builtin,Act.eval,e31,h0,l0,l1,l2,go_sem,alv]) (⟨by decide,by kernel_rfl,True.intro⟩)
    · have e4:a1.tmps.getD 4 undef = .int .i64 (k:Int):=hJ.un 4 (fun i hi _=>Zsj 4 (by decide) i hi)
      exact Zc hJ hW hi hun rfl (by rfl) rfl (by decide) (by decide) (Zds _ (by decide)) (w':=w') (by simp [execOp,resolve,invoke,builtin,Act.eval,e4,l0,l1,l2,go_sem,alv]) (⟨by decide,by kernel_rfl,True.intro⟩)
    · have e32:a1.tmps.getD 32 undef = .slice (some ⟨gL,0,none⟩) (k+1) cL:=(Ze hJ hi 3 (by kernel_rfl))
      have e33:a1.tmps.getD 33 undef = .int .i64 (k:Int):=(Ze hJ hi 4 (by kernel_rfl))
      exact Zc hJ hW hi hun rfl (by rfl) rfl (by decide) (by decide) (Zds _ (by decide)) (w':=w') (by first|(simp [execOp,resolve,invoke,builtin,Act.eval,e32,e33,l0,l1,l2,go_sem,alv];done)|(simp [execOp,resolve,invoke,builtin,Act.eval,e32,e33,l0,l1,l2,go_sem,alv];omega)|(simp [execOp,resolve,invoke,builtin,Act.eval,e32,e33,l0,l1,l2,go_sem,alv];intro h;omega)|(simp [execOp,resolve,invoke,builtin,Act.eval,e32,e33,l0,l1,l2,go_sem,alv];intros;omega)) (⟨by decide,by kernel_rfl,True.intro⟩)
    · have e34:a1.tmps.getD 34 undef = .pointer (some ⟨gL,k,none⟩):=(Ze hJ hi 5 (by kernel_rfl))
      have h0:=Yv e0 hg
      exact Zc hJ hW hi hun rfl (by rfl) rfl (by decide) (by decide) (Zds _ (by decide)) (w':=w') (by simp [execOp,resolve,invoke,builtin,Act.eval,e34,h0,l0,l1,l2,go_sem,alv]) (⟨by decide,by kernel_rfl,True.intro⟩)
    · have e1:a1.tmps.getD 1 undef = .string (bs t):=hJ.un 1 (fun i hi _=>Zsj 1 (by decide) i hi)
      exact Zc hJ hW hi hun rfl (by rfl) rfl (by decide) (by decide) (Zds _ (by decide)) (w':=w') (by simp [execOp,resolve,invoke,builtin,Act.eval,e1,l0,l1,l2,go_sem,alv]) (⟨by decide,by kernel_rfl,True.intro⟩)
    · have e0:a1.tmps.getD 0 undef = .pointer (some ⟨p,0,none⟩):=hJ.un 0 (fun i hi _=>Zsj 0 (by decide) i hi)
      exact Zc hJ hW hi hun rfl (by rfl) rfl (by decide) (by decide) (Zds _ (by decide)) (w':=w') (by simp [execOp,resolve,invoke,builtin,Act.eval,e0,l0,l1,l2,go_sem,alv]) (⟨by decide,by kernel_rfl,True.intro⟩)
    · have e37:a1.tmps.getD 37 undef = .pointer (some ⟨p,0,none⟩):=(Ze hJ hi 8 (by kernel_rfl))
      exact Zc hJ hW hi hun rfl (by rfl) rfl (by decide) (by decide) (Zds _ (by decide)) (w':=w') (by simp [execOp,resolve,invoke,builtin,Act.eval,e37,l0,l1,l2,go_sem,alv]) (⟨by decide,by kernel_rfl,True.intro⟩)
    · have e38:a1.tmps.getD 38 undef = .pointer (some ⟨p,0,none⟩):=(Ze hJ hi 9 (by kernel_rfl))
      exact Zc hJ hW hi hun rfl (by rfl) rfl (by decide) (by decide) (Zds _ (by decide)) (w':=w') (by simp [execOp,resolve,invoke,builtin,Act.eval,e38,l0,l1,l2,go_sem,alv]) (⟨by decide,by kernel_rfl,True.intro⟩)
    · have e39:a1.tmps.getD 39 undef = .pointer (some ⟨p,0,none⟩):=(Ze hJ hi 10 (by kernel_rfl))
      exact Zc hJ hW hi hun rfl (by rfl) rfl (by decide) (by decide) (Zds _ (by decide)) (w':=w') (by simp [execOp,resolve,invoke,builtin,Act.eval,e39,l0,l1,l2,go_sem,alv]) (⟨by decide,by kernel_rfl,True.intro⟩)
    · have e40:a1.tmps.getD 40 undef = .pointer (some ⟨p,2,none⟩):=(Ze hJ hi 11 (by kernel_rfl))
      have h0:=Yv c2 hg
      exact Zc hJ hW hi hun rfl (by rfl) rfl (by decide) (by decide) (Zds _ (by decide)) (w':=w') (by simp [execOp,resolve,invoke,builtin,Act.eval,e40,h0,l0,l1,l2,go_sem,alv]) (⟨by decide,by kernel_rfl,True.intro⟩)
    · have e4:a1.tmps.getD 4 undef = .int .i64 (k:Int):=hJ.un 4 (fun i hi _=>Zsj 4 (by decide) i hi)
      exact Zc hJ hW hi hun rfl (by rfl) rfl (by decide) (by decide) (Zds _ (by decide)) (w':=w') (by simp [execOp,resolve,invoke,builtin,Act.eval,e4,l0,l1,l2,go_sem,alv]) (⟨by decide,by kernel_rfl,True.intro⟩)
    · have e41:a1.tmps.getD 41 undef = .slice (some ⟨gF,0,none⟩) (k+1) cF:=(Ze hJ hi 12 (by kernel_rfl))
      have e42:a1.tmps.getD 42 undef = .int .i64 (k:Int):=(Ze hJ hi 13 (by kernel_rfl))
      exact Zc hJ hW hi hun rfl (by rfl) rfl (by decide) (by decide) (Zds _ (by decide)) (w':=w') (by first|(simp [execOp,resolve,invoke,builtin,Act.eval,e41,e42,l0,l1,l2,go_sem,alv];done)|(simp [execOp,resolve,invoke,builtin,Act.eval,e41,e42,l0,l1,l2,go_sem,alv];omega)|(simp [execOp,resolve,invoke,builtin,Act.eval,e41,e42,l0,l1,l2,go_sem,alv];intro h;omega)|(simp [execOp,resolve,invoke,builtin,Act.eval,e41,e42,l0,l1,l2,go_sem,alv];intros;omega)) (⟨by decide,by kernel_rfl,True.intro⟩)
    · have e43:a1.tmps.getD 43 undef = .pointer (some ⟨gF,k*4,none⟩):=(Ze hJ hi 14 (by kernel_rfl))
      exact Zc hJ hW hi hun rfl (by rfl) rfl (by decide) (by decide) (Zds _ (by decide)) (w':=w') (by simp [execOp,resolve,invoke,builtin,Act.eval,e43,l0,l1,l2,go_sem,alv]) (⟨by decide,by kernel_rfl,True.intro⟩)
    · have e44:a1.tmps.getD 44 undef = .pointer (some ⟨gF,k*4+3,none⟩):=(Ze hJ hi 15 (by kernel_rfl))
      have h0:=Yv d3 hg
      exact Zc hJ hW hi hun rfl (by rfl) rfl (by decide) (by decide) (Zds _ (by decide)) (w':=w') (by simp [execOp,resolve,invoke,builtin,Act.eval,e44,h0,l0,l1,l2,go_sem,alv]) (⟨by decide,by kernel_rfl,True.intro⟩)
    · have e45:a1.tmps.getD 45 undef = .slice pc fc.length cc:=(Ze hJ hi 16 (by kernel_rfl))
      exact Zc hJ hW hi hun rfl (by rfl) rfl (by decide) (by decide) (Zds _ (by decide)) (w':=w') (by simp [execOp,resolve,invoke,builtin,Act.eval,e45,l0,l1,l2,go_sem,alv]) (⟨by decide,by kernel_rfl,True.intro⟩)
    · have e35:a1.tmps.getD 35 undef = .map (some b):=(Ze hJ hi 6 (by kernel_rfl))
      have e36:a1.tmps.getD 36 undef = .string (bs t):=(Ze hJ hi 7 (by kernel_rfl))
      have e46:a1.tmps.getD 46 undef = .int .i64 (fc.length:Int):=(Ze hJ hi 17 (by kernel_rfl))
      obtain ⟨w8,hmu,hM8,hg8⟩:=Zow (w:=w') (by rw [hg];exact Zw MM.out (Zg (Zd w none)) (by simp)) (by omega) t ht (fc.length:Int) (by omega)
      rw [hg] at hg8
      have hall:∀ j,j<19->j≠18->l.getD j false=true:=by
       intro j hj hne
       rcases Ypi j hj with rfl|rfl|rfl|rfl|rfl|rfl|rfl|rfl|rfl|rfl|rfl|rfl|rfl|rfl|rfl|rfl|rfl|rfl|rfl
       · exact hW.cl (1,0) (by decide) (hW.cl (2,1) (by decide) (hW.cl (3,2) (by decide) (hW.cl (5,3) (by decide) (hW.cl (6,5) (by decide) (Zb hi 6 (by kernel_rfl))))))
       · exact hW.cl (2,1) (by decide) (hW.cl (3,2) (by decide) (hW.cl (5,3) (by decide) (hW.cl (6,5) (by decide) (Zb hi 6 (by kernel_rfl)))))
       · exact hW.cl (3,2) (by decide) (hW.cl (5,3) (by decide) (hW.cl (6,5) (by decide) (Zb hi 6 (by kernel_rfl))))
       · exact hW.cl (5,3) (by decide) (hW.cl (6,5) (by decide) (Zb hi 6 (by kernel_rfl)))
       · exact hW.cl (5,4) (by decide) (hW.cl (6,5) (by decide) (Zb hi 6 (by kernel_rfl)))
       · exact hW.cl (6,5) (by decide) (Zb hi 6 (by kernel_rfl))
       · exact Zb hi 6 (by kernel_rfl)
       · exact Zb hi 7 (by kernel_rfl)
       · exact hW.cl (9,8) (by decide) (hW.cl (10,9) (by decide) (hW.cl (11,10) (by decide) (hW.cl (12,11) (by decide) (hW.cl (14,12) (by decide) (hW.cl (15,14) (by decide) (hW.cl (16,15) (by decide) (hW.cl (17,16) (by decide) (Zb hi 17 (by kernel_rfl)))))))))
       · exact hW.cl (10,9) (by decide) (hW.cl (11,10) (by decide) (hW.cl (12,11) (by decide) (hW.cl (14,12) (by decide) (hW.cl (15,14) (by decide) (hW.cl (16,15) (by decide) (hW.cl (17,16) (by decide) (Zb hi 17 (by kernel_rfl))))))))
       · exact hW.cl (11,10) (by decide) (hW.cl (12,11) (by decide) (hW.cl (14,12) (by decide) (hW.cl (15,14) (by decide) (hW.cl (16,15) (by decide) (hW.cl (17,16) (by decide) (Zb hi 17 (by kernel_rfl)))))))
       · exact hW.cl (12,11) (by decide) (hW.cl (14,12) (by decide) (hW.cl (15,14) (by decide) (hW.cl (16,15) (by decide) (hW.cl (17,16) (by decide) (Zb hi 17 (by kernel_rfl))))))
       · exact hW.cl (14,12) (by decide) (hW.cl (15,14) (by decide) (hW.cl (16,15) (by decide) (hW.cl (17,16) (by decide) (Zb hi 17 (by kernel_rfl)))))
       · exact hW.cl (14,13) (by decide) (hW.cl (15,14) (by decide) (hW.cl (16,15) (by decide) (hW.cl (17,16) (by decide) (Zb hi 17 (by kernel_rfl)))))
       · exact hW.cl (15,14) (by decide) (hW.cl (16,15) (by decide) (hW.cl (17,16) (by decide) (Zb hi 17 (by kernel_rfl))))
       · exact hW.cl (16,15) (by decide) (hW.cl (17,16) (by decide) (Zb hi 17 (by kernel_rfl)))
       · exact hW.cl (17,16) (by decide) (Zb hi 17 (by kernel_rfl))
       · exact Zb hi 17 (by kernel_rfl)
       · exact absurd rfl hne
      exact Zbk (WS:=fun l9 w9=>Zcs 18 19 0 [(1,0),(2,1),(3,2),(5,3),(5,4),(6,5),(9,8),(10,9),(11,10),(12,11),(14,12),(14,13),(15,14),(16,15),(17,16),(18,6),(18,7),(18,17)] [] (fun w9=>w9=w.drew) (fun _=>True) (alF p b k gL cL gF cF fc.length cc pc (bs t) ) (fun w9=>Zfi w9 b (m+1) (fun u=>if u=t then some (fc.length:Int) else f u)/\World.grownBy w.drew w9 (some b)) l9 w9) hJ rfl rfl rfl (by decide) (by decide) (w':=w8) (by simp [execOp,Act.eval,e35,e36,e46,hmu,go_sem]) (Jh hW (by decide) (by decide) hall (Zj _ hi (by kernel_rfl)) (⟨hM8,hg8⟩))
   case fin =>
    intro l a1 w9 hJJ hl
    obtain ⟨hJ,hW⟩:=hJJ
    have hq:=hW.q (hl 18 (by decide))
    have hput:=Xw hJ rfl hl (fun i j h1 h2 h3=>Zds j h2 i h1 h3)
    subst hput
    clear hJ hW hl
    obtain ⟨q1,q2⟩:=hq
    simp only [Jy,al,alv,Act.put,List.setIfInBounds_toArray,List.set_cons_zero,List.set_cons_succ]
    have M:=Yky A.out HB.out ⟨_,_,MM.out⟩ q1 q2
    go_wp2
    go_end0
    rw [HR.out]
    exact ⟨rfl,M.1,Zn (Yk (Zg (Zd w none))) M.2⟩
theorem Ydg (w:World) (a l r:Int):(Instr.buildSlice 24 1 #[(0,.agg #[.int .i64 a,.int .i64 l,.int .i64 r,.slice none 0 0])]).run Tryz.prog w = .ok (.slice (some ⟨w.heap.size,0,none⟩) 1 1) (w.alloc (.cells #[.int .i64 a,.int .i64 l,.int .i64 r,.slice none 0 0] 61)):=by kernel_rfl
theorem Yjp (w:World) (a l r:Int) (s:ByteArray) (b:Bool):(Instr.buildSlice 68 1 #[(0,.agg #[.int .i64 a,.int .i64 l,.int .i64 r,.string s,.bool b])]).run Tryz.prog w = .ok (.slice (some ⟨w.heap.size,0,none⟩) 1 1) (w.alloc (.cells #[.int .i64 a,.int .i64 l,.int .i64 r,.string s,.bool b] 131)):=by kernel_rfl
theorem Yoy (w:World) (a l:Int):(Instr.buildSlice 59 1 #[(0,.agg #[.int .i64 a,.int .i64 l])]).run Tryz.prog w = .ok (.slice (some ⟨w.heap.size,0,none⟩) 1 1) (w.alloc (.cells #[.int .i64 a,.int .i64 l] 58)):=by kernel_rfl
theorem Zvv:Tryz.prog.underlying 67=some (.slice 66):=by kernel_rfl
theorem Zqr:(Tryz.prog.info? 66).map (fun i=>(i.zero,i.size,i.bytes))=some (some (.map none),1,8):=by kernel_rfl
theorem Zwf:Tryz.prog.underlying 24=some (.slice 61):=by kernel_rfl
theorem Zrf:(Tryz.prog.info? 61).map (fun i=>(i.zero,i.size,i.bytes))=some (some (.agg #[.int .i64 0,.int .i64 0,.int .i64 0,.slice none 0 0]),4,48):=by kernel_rfl
theorem Zsh:Tryz.prog.underlying 68=some (.slice 131):=by kernel_rfl
theorem Zzl:(Tryz.prog.info? 131).map (fun i=>(i.zero,i.size,i.bytes))=some (some (.agg #[.int .i64 0,.int .i64 0,.int .i64 0,.string ⟨#[]⟩,.bool false]),5,48):=by kernel_rfl
theorem Yda:Tryz.prog.underlying 59=some (.slice 58):=by kernel_rfl
theorem Zyx:(Tryz.prog.info? 58).map (fun i=>(i.zero,i.size,i.bytes))=some (some (.agg #[.int .i64 0,.int .i64 0]),2,16):=by kernel_rfl
theorem Zhk {w:World} {e:Nat} {cs:List Value} {t:TypeId} (h:w.heap[e]? = some (.cells cs.toArray t (0,0))):∀ j u,cs[j]? = some u->w.cell? ((⟨e,0,none⟩:Addr).add j)=some u:=fun j u hj=>by
 have e1:((⟨e,0,none⟩:Addr).add j)=⟨e,j,none⟩:=by
  unfold Addr.add
  by_cases h0:j=0 <;> simp [h0]
 rw [e1]
 simp [World.cell?,h,hj]
theorem Yqw (a b c:Int) (p:Option Addr) (n k:Nat):∀ u∈[Value.int .i64 a,.int .i64 b,.int .i64 c,.slice p n k],u.oneCell'=true:=by
 intro u hu
 simp only [List.mem_cons,List.not_mem_nil,or_false] at hu
 rcases hu with rfl|rfl|rfl|rfl <;> rfl
theorem Znn:∀ (fs:List FnP) (cv:List Value) (f:FnP) (v:Value),cv.length=fs.length->Yp (fs++[f]) (cv++[v])=Yp fs cv++[.int .i64 f.1,.int .i64 f.2.1,.int .i64 f.2.2.1,v]
 | [],[],f,v,_=>rfl
 | [],_::_,f,v,h=>by simp at h
 | _::_,[],f,v,h=>by simp at h
 | g::r,u::s,f,v,h=>by
   have:=Znn r s f v (by simpa using h)
   simp only [List.cons_append,Yp,this]
theorem Ykw {w w':World} {E:Nat} {c:CS} {vd vF vF' vL vB:Value} {bm:Nat} {cv:List Value} {lb:List Nat} {m:Nat} {a l r:Int} (h:Zkd w E c vd vF vL vB bm cv lb m)
 (ho:w'.ownsRow E 61 4 vF' (c.funcs.length+1) (Yp c.funcs cv++[.int .i64 a,.int .i64 l,.int .i64 r,.slice none 0 0])) (g:w.grownBy w' vF.ownBlock) :
 Zkd w' E { c with funcs:=c.funcs++[(a,l,r,[])] } vd vF' vL vB bm (cv++[.slice none 0 0]) lb (m+1):=by
 have hd:=h.own.fr
 have hcl:=h.own.cl
 have new:∀ {α:Type} (l:List α) (x y:α) (k:Nat),(l++[x])[k]? = some y->(k<l.length/\l[k]? = some y)\/(k=l.length/\y=x):=fun l x y k hy=>by
  by_cases e:k<l.length
  · rw [List.getElem?_append_left e] at hy;exact Or.inl ⟨e,hy⟩
  · have hk:=(List.getElem?_eq_some_iff.1 hy).1
    simp at hk
    have:k=l.length:=by omega
    subst this
    rw [List.getElem?_append_right (Nat.le_refl _),Nat.sub_self] at hy
    simp at hy
    exact Or.inr ⟨rfl,hy.symm⟩
 refine ⟨⟨h.own.dt.kept g (Zx h.own.dt hd (by decide)),?_,by simp [hcl],fun k f v hf hv => ?_,fun i j v v' b hij hi hj hb => ?_⟩,
  Xu (Zw h.fm g (Yh h.fm hd)) (by omega),h.fmE,h.lrow.kept g (Zx h.lrow hd (by decide)),h.len1,fun i b f hb hf=>⟨Xu (Zw (h.each i b f hb hf).1 g (Yh (h.each i b f hb hf).1 hd)) (by omega),(h.each i b f hb hf).2⟩,h.dis,h.apart,
  h.brow.kept g (Zx h.brow hd (by decide)),by have:=h.z1;show c.data.length<=_;omega,by have:=h.z2;simp;omega,fun f hf => ?_,by have:=h.z4;show c.blk.length<=_;omega⟩
 · show w'.ownsRow E 61 4 vF' (c.funcs++[(a,l,r,[])]).length (Yp (c.funcs++[(a,l,r,[])]) (cv++[.slice none 0 0]))
   rw [Znn _ _ _ _ hcl,List.length_append]
   exact ho
 · rcases new _ _ _ _ hv with ⟨h1,h2⟩|⟨h1,h2⟩
   · rcases new _ _ _ _ hf with ⟨h3,h4⟩|⟨h3,h4⟩
     · exact (h.own.each k f v h4 h2).kept g (Zx (h.own.each k f v h4 h2) hd (by decide))
     · omega
   · rcases new _ _ _ _ hf with ⟨h3,h4⟩|⟨h3,h4⟩
     · omega
     · subst h4;subst h2
       exact World.ownsRow_nil _ _ _ _
 · rcases new _ _ _ _ hi with ⟨h1,h2⟩|⟨h1,h2⟩
   · rcases new _ _ _ _ hj with ⟨h3,h4⟩|⟨h3,h4⟩
     · exact h.own.dis i j v v' b hij h2 h4 hb
     · subst h4;simp [Value.ownBlock]
   · subst h2;simp [Value.ownBlock] at hb
 · rcases List.mem_append.1 hf with hf|hf
   · have:=h.z3 f hf;omega
   · simp at hf;subst hf;simp
theorem Ygj {w w1 w':World} {E:Nat} {c:CS} {vd vF vL vL' vB:Value} {bm:Nat} {cv:List Value} {lb:List Nat} {m:Nat} (h:Zkd w E c vd vF vL vB bm cv lb m) (hE:E<=w.heap.size)
 (g1:(w.alloc (.map #[] 0)).grownBy w1 none) (ho:w'.ownsRow E 66 1 vL' (lb.length+1) (lb.map (fun b=>Value.map (some b))++[.map (some w.heap.size)])) (g:w1.grownBy w' vL.ownBlock) :
 Zkd w' E { c with lm:=c.lm++[fun _=>none] } vd vF vL' vB bm cv (lb++[w.heap.size]) m:=by
 have h1:=Zkp h (Za (Ga w (.map #[] 0) none) g1)
 have hd:=h1.lrow
 have hM:=Zw (Zqs w) g1 (by simp)
 have new:∀ {α:Type} (l:List α) (x y:α) (k:Nat),(l++[x])[k]? = some y->(k<l.length/\l[k]? = some y)\/(k=l.length/\y=x):=fun l x y k hy=>by
  by_cases e:k<l.length
  · rw [List.getElem?_append_left e] at hy;exact Or.inl ⟨e,hy⟩
  · have hk:=(List.getElem?_eq_some_iff.1 hy).1
    simp at hk
    have:k=l.length:=by omega
    subst this
    rw [List.getElem?_append_right (Nat.le_refl _),Nat.sub_self] at hy
    simp at hy
    exact Or.inr ⟨rfl,hy.symm⟩
 have low:∀ (i:Nat) (b:Nat),lb[i]? = some b->b<w.heap.size:=fun i b hb=>by
  have hi:i<c.lm.length:=by rw [<- h.len1];exact (List.getElem?_eq_some_iff.1 hb).1
  exact Ycj (h.each i b _ hb (List.getElem?_eq_getElem hi)).1
 refine ⟨Zbg h1.own g (fun t sz v n xs ho ht=>Zx ho hd (by rcases ht with h|h|h <;> subst h <;> decide)),Zw h1.fm g (Yh h1.fm hd),h.fmE,by rw [List.map_append,List.length_append];exact ho,by simp [h.len1],fun i b f hb hf => ?_,fun i j b hi hj => ?_,?_,
  h1.brow.kept g (Zx h1.brow hd (by decide)),h.z1,h.z2,h.z3,h.z4⟩
 · rcases new _ _ _ _ hb with ⟨q1,q2⟩|⟨q1,q2⟩
   · rcases new _ _ _ _ hf with ⟨q3,q4⟩|⟨q3,q4⟩
     · obtain ⟨a1,a2⟩:=h1.each i b f q2 q4
       exact ⟨Zw a1 g (Yh a1 hd),a2⟩
     · have:=h.len1;omega
   · rcases new _ _ _ _ hf with ⟨q3,q4⟩|⟨q3,q4⟩
     · have:=h.len1;omega
     · subst q2;subst q4
       exact ⟨Xu (Zw hM g (Yh hM hd)) (Nat.zero_le _),hE⟩
 · rcases new _ _ _ _ hi with ⟨q1,q2⟩|⟨q1,q2⟩
   · rcases new _ _ _ _ hj with ⟨q3,q4⟩|⟨q3,q4⟩
     · exact h.dis i j b q2 q4
     · have:=low _ _ q2;omega
   · rcases new _ _ _ _ hj with ⟨q3,q4⟩|⟨q3,q4⟩
     · have:=low _ _ q4;omega
     · omega
 · intro hmem
   rcases List.mem_append.1 hmem with q|q
   · exact h.apart q
   · simp at q
     have:=Ycj h.fm
     omega
theorem Ybm {w0 w w1:World} {p m:Nat} {c:CS} {pend vd vF vL vB:Value} {bm:Nat} {cv:List Value} {lb:List Nat} {f:Txt->Option Int} (h:Zge w0 w p m c pend vd vF vL vB bm cv lb) (ho:Zfi w1 bm (m+1) f) (g:w.grownBy w1 (some bm)) :
 Zge w0 w1 p (m+1) { c with fm:=f } pend vd vF vL vB bm cv lb/\Fr w w1:=by
 have hm:=h.ins.fm
 refine ⟨⟨Zpf h.gr g h.ins.fmE,h.ge,Zf h.box g ?_,Ykx h.ins ho g,h.lens⟩,Yjq hm g⟩
 intro e
 injection e with e
 exact Zdq hm h.box e
structure Ync (w0 w:World) (p m:Nat) (c:CS) (pend:Value) (vd vF vL vB:Value) (bm:Nat) (cv:List Value) (lb:List Nat):Prop where
 gr:w0.grownBy w none
 ge:w0.heap.size<=p
 box:w.heap[p]? = some (.cells #[.int .i64 c.mem,vd,vF,.bool c.ms,.map (some bm),vL,vB,pend] 70 (0,0))
 ins:Zkd w w0.heap.size c vd vF vL vB bm cv lb m
 lens:c.lm.length+1=c.funcs.length
theorem Zvj {w0 w w1:World} {p m:Nat} {c:CS} {pend vd vF vF' vL vB:Value} {bm:Nat} {cv:List Value} {lb:List Nat} {a l r:Int} (h:Zge w0 w p m c pend vd vF vL vB bm cv lb)
 (ho:w1.ownsRow w0.heap.size 61 4 vF' (c.funcs.length+1) (Yp c.funcs cv++[.int .i64 a,.int .i64 l,.int .i64 r,.slice none 0 0])) (g:w.grownBy w1 vF.ownBlock) :
 Ync w0 (w1.setCell ⟨p,2,none⟩ vF') p (m+1) { c with funcs:=c.funcs++[(a,l,r,[])] } pend vd vF' vL vB bm (cv++[.slice none 0 0]) lb/\Fr w (w1.setCell ⟨p,2,none⟩ vF'):=by
 have hd:=h.ins.own.fr
 have hI:=Ykw h.ins ho g
 have hb:=Zf h.box g (Ye hd h.box (by decide))
 have gs:=Zo w1 p 2 vF'
 refine ⟨⟨?_,h.ge,by rw [Zl hb];rfl,Zdo hI hb gs,by show c.lm.length+1=(c.funcs++[_]).length;rw [h.lens,List.length_append];rfl⟩,Zn (Zll hd (by decide) g) (Zlm hb (by decide) gs)⟩
 exact Yd (Yj h.gr g (fun k hk=>(World.ownsRow.lt hd k hk).1)) h.ge
theorem Zqh {w0 w w1 w2:World} {p m:Nat} {c:CS} {pend vd vF vL vL' vB:Value} {bm:Nat} {cv:List Value} {lb:List Nat} (h:Ync w0 w p m c pend vd vF vL vB bm cv lb)
 (g1:(w.alloc (.map #[] 0)).grownBy w1 none) (ho:w2.ownsRow w0.heap.size 66 1 vL' (lb.length+1) (lb.map (fun b=>Value.map (some b))++[.map (some w.heap.size)])) (g:w1.grownBy w2 vL.ownBlock) :
 PS w0 (w2.setCell ⟨p,5,none⟩ vL') p m { c with lm:=c.lm++[fun _=>none] } pend/\Fr w (w2.setCell ⟨p,5,none⟩ vL'):=by
 have hd:=h.ins.lrow
 have hI:=Ygj h.ins h.gr.size g1 ho g
 have ga:=Za (Ga w (.map #[] 0) none) g1
 have hb1:=Zf h.box ga (by simp)
 have hd1:=hd.kept ga (Jw hd)
 have hb:=Zf hb1 g (Ye hd1 hb1 (by decide))
 have gs:=Zo w2 p 5 vL'
 refine ⟨⟨vd,vF,vL',vB,bm,cv,_,?_,h.ge,by rw [Zl hb];rfl,Zdo hI hb gs,by show (c.lm++[_]).length=_;rw [List.length_append];exact h.lens⟩,Zn (Zn (Yk ga) (Zll hd1 (by decide) g)) (Zlm hb (by decide) gs)⟩
 exact Yd (Yj (Za h.gr ga) g (fun k hk=>(World.ownsRow.lt hd1 k hk).1)) h.ge
theorem Zmw {w0 w w1 w2:World} {p m:Nat} {c:CS} {pend vd vF vL vB:Value} {bm:Nat} {cv:List Value} {lb:List Nat} (h:Ync w0 w p m c pend vd vF vL vB bm cv lb)
 (g1:w.grownBy w1 none) (g:w1.grownBy w2 vL.ownBlock) :
 w2.cell? ⟨p,5,none⟩=some vL/\w2.frozen? ⟨p,5,none⟩=false/\p<w2.heap.size:=by
 have hb1:=Zf h.box g1 (by simp)
 have hd1:=h.ins.lrow.kept g1 (Jw h.ins.lrow)
 have hb:=Zf hb1 g (Ye hd1 hb1 (by decide))
 exact ⟨Cq w2 p 5 _ _ _ hb,frozen_of_row w2 p 5 _ _ hb,(Gs hb)⟩
end Go.Proofs.YteciblfmgdlipaaGreatDoor.AS
namespace Go.Proofs.YteciblfmgdlipaaGreatDoor.CK
open Go.RowKit Go.Great
def Yjd (id:Nat):Code->Option Code
 | .region i o d=>if i=id then some (.region i o d) else none
 | .seq a b=>match Yjd id a with
   | some c=>some c
   | none=>Yjd id b
 | .block _ c=>Yjd id c
 | .scope c=>Yjd id c
 | .loop c=>Yjd id c
 | .cond _ a b=>match Yjd id a with
   | some c=>some c
   | none=>Yjd id b
 | _=>none
def Zoh (id:Nat):Code->Option Code
 | .seq (.region i o d) b=>if i=id then some b else Zoh id b
 | .seq a b=>match Zoh id a with
   | some c=>some c
   | none=>Zoh id b
 | .block _ c=>Zoh id c
 | .scope c=>Zoh id c
 | .loop c=>Zoh id c
 | .cond _ a b=>match Zoh id a with
   | some c=>some c
   | none=>Zoh id b
 | _=>none
noncomputable def Zjl (f:Func) (id:Nat):Code:=(f.body.bind (Yjd id)).getD .skip
noncomputable def Zdv (f:Func) (id:Nat):Code:=(f.body.bind (Zoh id)).getD .skip
end Go.Proofs.YteciblfmgdlipaaGreatDoor.CK
namespace Go.Proofs.YteciblfmgdlipaaGreatDoor.AS
open Go.RowKit Go.Great CK
def Zig (n:Nat):Int:=((shapeT[n]?).map fun r=>r.2.1).getD 0
def Zgt (c:CS) (i:Int × Int):CS :=
 let k:=c.funcs.length - 1
 let f:=c.funcs.getD k (0,0,0,[])
 { c with funcs:=c.funcs.set k (f.1,f.2.1,f.2.2.1,f.2.2.2++[i]) }
def Zws (c:CS) (line:Int) (s:Txt) (b:Bool):CS :=
 let k:=c.funcs.length - 1
 { c with blk:=c.blk++[⟨line,k,((c.funcs.getD k (0,0,0,[])).2.2.2.length:Int),s,b⟩] }
def Zgi (line:Int) (c:CS) (x:Option Int) (n:Nat) (kd:Int) (rest:List Pc):Option (CS × Option Int) :=
 if kd=0 then (match rest with|[]=>some (Zgt c (n,0),x)|_=>none)
 else match rest with
 | [.num v big]=>some (Zgt c (n,v),if big then amV x 143 else x)
 | [.word s] =>
   if kd=3\/kd=4 then some (Zgt (Zws c line s (kd == 4)) (n,0),x)
   else if kd=5 then (match Xi callT s with|none=>none|some j=>some (Zgt c (n,j),x))
   else none
 | _=>none
def Zii (line:Int) (c:CS) (x:Option Int) (ps:List Pc):Option (CS × Option Int) :=
 match ps with
 | .word t::rest=>match Xi shapeT t with
   | none=>none
   | some n=>if c.funcs.length=0 then none else Zgi line c x n (Zig n) rest
 | _=>none
theorem Ygu {w w1:World} {E:Nat} {D:Value} {g cF:Nat} {dl:List Int} {fs:List FnP} {cv:List Value} {i:Nat} {f f':FnP} {v v':Value} (h:Zuo w E D (.slice (some ⟨g,0,none⟩) fs.length cF) dl fs cv) (hf:fs[i]? = some f) (hv:cv[i]? = some v) (he:f.1=f'.1/\f.2.1=f'.2.1/\f.2.2.1=f'.2.2.1)
 (ho:w1.ownsRow E 58 2 v' f'.2.2.2.length (Zad f'.2.2.2)) (gr:w.grownBy w1 v.ownBlock) (hd:v'.ownBlock=v.ownBlock\/∀ b,v'.ownBlock=some b->w.heap.size<=b) :
 Zuo (w1.setCell ⟨g,i*4+3,none⟩ v') E D (.slice (some ⟨g,0,none⟩) fs.length cF) dl (fs.set i f') (cv.set i v'):=by
 have hil:=(List.getElem?_eq_some_iff.1 hf).1
 have hc:=h.each i f v hf hv
 have gs:=Zo w1 g (i*4+3) v'
 have fr1:=h.fr.kept gr (Zx h.fr hc (by decide))
 have dt1:=h.dt.kept gr (Zx h.dt hc (by decide))
 have hrow:(w1.setCell ⟨g,i*4+3,none⟩ v').ownsRow E 61 4 (.slice (some ⟨g,0,none⟩) fs.length cF) fs.length ((Yp fs cv).set (i*4+3) v'):=(fr1.stored _ _).1
 rw [Zrm] at hrow
 have hfl:Yp fs (cv.set i v')=Yp (fs.set i f') (cv.set i v'):=by
  refine Zin _ _ _ (by simp) fun j a b ha hb => ?_
  by_cases e:j=i
  · subst e
    rw [hf] at ha
    rw [List.getElem?_set_self hil] at hb
    injection ha with ha;injection hb with hb
    subst ha;subst hb
    exact he
  · rw [List.getElem?_set_ne (Ne.symm e)] at hb
    rw [ha] at hb
    injection hb with hb
    subst hb
    exact ⟨rfl,rfl,rfl⟩
 have ne:∀ (v2:Value) (n:Nat) (xs:List Value) (E':TypeId) (sz:Nat),w1.ownsRow E E' sz v2 n xs->E'≠61->v2.ownBlock=none\/v2.ownBlock≠some g:=fun v2 n xs E' sz ho hE=>Zx ho fr1 hE
 have hdd:∀ (k:Nat) (a:Value) (b:Nat),k≠i->cv[k]? = some a->a.ownBlock=some b->v'.ownBlock≠some b:=fun k a b hk ha hb e=>by
  rcases hd with hd|hd
  · exact h.dis k i a v b hk ha hv hb (hd ▸ e)
  · have hkl:k<fs.length:=by rw [<- h.cl];exact (List.getElem?_eq_some_iff.1 ha).1
    have h1:=(World.ownsRow.lt (h.each k _ a (List.getElem?_eq_getElem hkl) ha) b hb).2
    have h2:=hd b e
    omega
 refine ⟨dt1.kept gs (ne _ _ _ _ _ dt1 (by decide)),by rw [List.length_set,<- hfl];exact hrow,by rw [List.length_set,List.length_set];exact h.cl,fun k a b ha hb => ?_,fun k l a b bb hkl ha hb hab => ?_⟩
 · by_cases e:k=i
   · subst e
     rw [List.getElem?_set_self hil] at ha
     rw [List.getElem?_set_self (by rw [h.cl];exact hil)] at hb
     injection ha with ha;injection hb with hb
     subst ha;subst hb
     exact ho.kept gs (ne _ _ _ _ _ ho (by decide))
   · rw [List.getElem?_set_ne (Ne.symm e)] at ha hb
     have hk:=h.each k a b ha hb
     have hk1:=hk.kept gr (by
      cases hbb:b.ownBlock with
      | none=>exact Or.inl rfl
      | some q=>exact Or.inr (fun e2=>h.dis k i b v q e hb hv hbb e2.symm))
     exact hk1.kept gs (ne _ _ _ _ _ hk1 (by decide))
 · have hic:i<cv.length:=by rw [h.cl];exact hil
   by_cases e:k=i
   · subst e
     rw [List.getElem?_set_self hic] at ha
     rw [List.getElem?_set_ne hkl] at hb
     injection ha with ha
     subst ha
     intro e2
     exact hdd l b bb (Ne.symm hkl) hb e2 hab
   · rw [List.getElem?_set_ne (Ne.symm e)] at ha
     by_cases e2:l=i
     · subst e2
       rw [List.getElem?_set_self hic] at hb
       injection hb with hb
       subst hb
       exact hdd k a bb e ha hab
     · rw [List.getElem?_set_ne (Ne.symm e2)] at hb
       exact h.dis k l a b bb hkl ha hb hab
theorem Ygm {w0 w w1:World} {p m k g cF:Nat} {c:CS} {pend vd vL vB:Value} {bm:Nat} {cv:List Value} {lb:List Nat} {v v':Value} {i:Int × Int} (h:Zge w0 w p m c pend vd (.slice (some ⟨g,0,none⟩) c.funcs.length cF) vL vB bm cv lb) (hk:c.funcs.length=k+1) (hv:cv[k]? = some v)
 (ho:w1.ownsRow w0.heap.size 58 2 v' ((c.funcs.getD k (0,0,0,[])).2.2.2.length+1) (Zad ((c.funcs.getD k (0,0,0,[])).2.2.2++[i]))) (gr:w.grownBy w1 v.ownBlock) (hd:v'.ownBlock=v.ownBlock\/∀ b,v'.ownBlock=some b->w.heap.size<=b) :
 PS w0 (w1.setCell ⟨g,k*4+3,none⟩ v') p (m+1) (Zgt c i) pend/\Fr w (w1.setCell ⟨g,k*4+3,none⟩ v'):=by
 have hf:c.funcs[k]? = some (c.funcs.getD k (0,0,0,[])):=by
  rw [List.getD_eq_getElem?_getD,List.getElem?_eq_getElem (by omega:k<c.funcs.length)];rfl
 generalize hfe:c.funcs.getD k (0,0,0,[])=f at *
 have hput:Zgt c i={ c with funcs:=c.funcs.set k (f.1,f.2.1,f.2.2.1,f.2.2.2++[i]) }:=by
  unfold Zgt
  simp only [hk,Nat.add_sub_cancel,hfe]
 rw [hput]
 have I:=h.ins
 have hc:=I.own.each k f v hf hv
 have gs:=Zo w1 g (k*4+3) v'
 have O:=Ygu (f':=(f.1,f.2.1,f.2.2.1,f.2.2.2++[i])) I.own hf hv ⟨rfl,rfl,rfl⟩ (by simp only [List.length_append,List.length_singleton];exact ho) gr hd
 have fr1:=I.own.fr.kept gr (Zx I.own.fr hc (by decide))
 have row:∀ {t:TypeId} {sz n:Nat} {v2:Value} {xs:List Value},w.ownsRow w0.heap.size t sz v2 n xs->t≠58->t≠61->(w1.setCell ⟨g,k*4+3,none⟩ v').ownsRow w0.heap.size t sz v2 n xs:=fun ho t1 t2=>by
  have h1:=ho.kept gr (Zx ho hc t1)
  exact h1.kept gs (Zx h1 fr1 t2)
 have map:∀ {b m':Nat} {f':Txt->Option Int},Zfi w b m' f'->m'<=m->Zfi (w1.setCell ⟨g,k*4+3,none⟩ v') b (m+1) f':=fun hm hle=>by
  have h1:=Zw hm gr (Yh hm hc)
  exact Xu (Zw h1 gs (Yh h1 fr1)) (by omega)
 have hb1:=Zf h.box gr (Ye hc h.box (by decide))
 have hb2:=Zf hb1 gs (Ye fr1 hb1 (by decide))
 refine ⟨⟨vd,_,vL,vB,bm,cv.set k v',lb,?_,h.ge,hb2,⟨?_,map I.fm (Nat.le_refl _),I.fmE,row I.lrow (by decide) (by decide),I.len1,fun j b f' hj hf'=>⟨map (I.each j b f' hj hf').1 (Nat.le_refl _),(I.each j b f' hj hf').2⟩,I.dis,I.apart,row I.brow (by decide) (by decide),
  by have:=I.z1;show c.data.length<=_;omega,by have:=I.z2;simp only [List.length_set];omega,fun q hq => ?_,by have:=I.z4;show c.blk.length<=_;omega⟩,by simp only [List.length_set];exact h.lens⟩,Zn (Zll hc (by decide) gr) (Zll fr1 (by decide) gs)⟩
 · have g1:=Yj h.gr gr (fun b hb=>(World.ownsRow.lt hc b hb).1)
   exact Yj g1 gs (fun b hb=>(World.ownsRow.lt fr1 b hb).1)
 · exact O
 · rcases List.mem_or_eq_of_mem_set hq with hq|hq
   · have:=I.z3 q hq;omega
   · subst hq
     have:=I.z3 f (List.mem_of_getElem? hf)
     simp only [List.length_append,List.length_singleton];omega
theorem Zvk {w0 w w1:World} {p m:Nat} {c:CS} {pend vd vF vL vB vB':Value} {bm:Nat} {cv:List Value} {lb:List Nat} {x:BlP} (h:Zge w0 w p m c pend vd vF vL vB bm cv lb)
 (ho:w1.ownsRow w0.heap.size 131 5 vB' (c.blk.length+1) (blV c.blk++bl5 x)) (g:w.grownBy w1 vB.ownBlock) :
 Zge w0 (w1.setCell ⟨p,6,none⟩ vB') p (m+1) { c with blk:=c.blk++[x] } pend vd vF vL vB' bm cv lb/\Fr w (w1.setCell ⟨p,6,none⟩ vB'):=by
 have hd:=h.ins.brow
 have hI:=Ygk h.ins ho g
 have hb:=Zf h.box g (Ye hd h.box (by decide))
 have gs:=Zo w1 p 6 vB'
 refine ⟨⟨?_,h.ge,by rw [Zl hb];rfl,Zdo hI hb gs,h.lens⟩,Zn (Zll hd (by decide) g) (Zlm hb (by decide) gs)⟩
 exact Yd (Yj h.gr g (fun k hk=>(World.ownsRow.lt hd k hk).1)) h.ge
theorem Ybl {w0 w w':World} {p m bi:Nat} {c:CS} {pend vd vF vL vB:Value} {bm:Nat} {cv:List Value} {lb:List Nat} {cs:Array Value} {t:TypeId} (h:Zge w0 w p m c pend vd vF vL vB bm cv lb) (hb:w.heap[bi]? = some (.cells cs t (0,0)))
 (ht:t=58\/t=144) (hne:∀ (k:Nat) (v:Value),cv[k]? = some v->v.ownBlock≠some bi) (hE:w0.heap.size<=bi) (g:w.grownBy w' (some bi)):Zge w0 w' p m c pend vd vF vL vB bm cv lb:=by
 have I:=h.ins
 have row:∀ {t':TypeId} {sz n:Nat} {v2:Value} {xs:List Value},w.ownsRow w0.heap.size t' sz v2 n xs->t'≠t->w'.ownsRow w0.heap.size t' sz v2 n xs:=fun ho h1=>ho.kept g (Zmt ho hb h1)
 have map:∀ {b m':Nat} {f':Txt->Option Int},Zfi w b m' f'->Zfi w' b m' f':=fun hm=>Zw hm g (fun e=>by injection e with e;exact Zdq hm hb e)
 have T:∀ {t':TypeId},t'≠58->t'≠144->t'≠t:=fun h1 h2 e=>by
  rcases ht with q|q
  · exact h1 (e.trans q)
  · exact h2 (e.trans q)
 refine ⟨Zpf h.gr g hE,h.ge,Zf h.box g (fun e => ?_),⟨⟨row I.own.dt (T (by decide) (by decide)),row I.own.fr (T (by decide) (by decide)),I.own.cl,fun k f v hf hv=>(I.own.each k f v hf hv).kept g (Or.inr (hne k v hv)),I.own.dis⟩,map I.fm,I.fmE,row I.lrow (T (by decide) (by decide)),I.len1,fun j b f' hj hf'=>⟨map (I.each j b f' hj hf').1,(I.each j b f' hj hf').2⟩,I.dis,I.apart,row I.brow (T (by decide) (by decide)),I.z1,I.z2,I.z3,I.z4⟩,h.lens⟩
 injection e with e
 have hbx:=h.box
 rw [e,hbx] at hb
 injection hb with hb;injection hb with _ hb _
 exact T (by decide) (by decide) hb
theorem Yrc (a b:Int):∀ u∈[Value.int .i64 a,.int .i64 b],u.oneCell'=true:=by
 intro u hu
 simp only [List.mem_cons,List.not_mem_nil,or_false] at hu
 rcases hu with rfl|rfl <;> rfl
theorem Zil {w:World} {E g c:Nat} {t:TypeId} {sz n:Nat} {xs:List Value} (h:w.ownsRow E t sz (.slice (some ⟨g,0,none⟩) n c) n xs) (o:Nat):w.frozen? ⟨g,o,none⟩=false:=by
 rcases h.2 with ⟨e,_⟩|⟨g0,cap,cur,e,_,hg,_⟩
 · cases e
 · injection e with e _ _
   injection e with e;injection e with e
   subst e
   exact frozen_of_row w g o _ _ hg
def inF (k gF bi:Nat) (t:Nat->Value):Act:=⟨#[t 0,t 1,t 2,t 3,t 4,t 5,t 6,t 7,t 8,t 9,t 10,t 11,.pointer (some ⟨gF,k*4,none⟩),.pointer (some ⟨bi,0,none⟩),t 14,t 15,t 16,t 17,t 18,t 19,t 20,t 21,t 22,t 23,t 24,t 25,t 26,t 27,t 28,t 29,t 30,t 31,t 32,t 33,t 34,t 35,t 36,t 37,t 38,t 39,t 40,t 41,t 42,t 43,t 44,t 45,t 46,t 47,t 48,t 49,t 50,t 51,t 52,t 53,t 54,t 55,t 56,t 57,t 58,t 59,t 60,t 61,t 62,t 63,t 64,t 65,t 66,t 67,t 68,t 69,t 70,t 71,t 72,t 73,t 74,t 75,t 76,t 77,t 78,t 79,t 80,t 81,t 82,t 83,t 84,t 85,t 86,t 87,t 88,t 89,t 90,t 91,t 92,t 93,t 94,t 95,t 96,t 97,t 98,t 99,t 100,t 101,t 102,t 103,t 104,t 105,t 106,t 107,t 108,t 109,t 110,t 111,t 112,t 113,t 114,t 115,t 116,t 117,t 118,t 119,t 120,t 121,t 122,t 123,t 124,t 125,t 126,t 127,t 128,t 129,t 130,t 131,t 132,t 133,t 134,t 135,t 136,t 137,t 138,t 139,t 140,t 141,t 142,t 143,t 144,t 145,t 146,t 147,t 148,t 149,t 150,t 151,t 152,t 153,t 154,t 155,t 156,t 157],[]⟩
structure Yqy (k gF bi:Nat) (a:Act):Prop where
 sz:a.tmps.size=158
 df:a.defers=[]
 s12:a.tmps.getD 12 undef = .pointer (some ⟨gF,k*4,none⟩)
 s13:a.tmps.getD 13 undef = .pointer (some ⟨bi,0,none⟩)
theorem Yox {k gF bi:Nat} {a:Act} (H:Yqy k gF bi a):a=inF k gF bi (fun i=>a.tmps.getD i undef):=by
 refine Zum H.sz H.df fun j hj => ?_
 have hs:=H.sz
 rw [hs] at hj
 unfold tm
 iterate 12 (rcases j with _|j;· rfl)
 rcases j with _|j
 · exact H.s12
 rcases j with _|j
 · exact H.s13
 iterate 144 (rcases j with _|j;· rfl)
 omega
def isT:Nat->Nat
 | 0=>148
 | 1=>149
 | 2=>150
 | 3=>151
 | 4=>152
 | 5=>153
 | 6=>154
 | 7=>155
 | 8=>156
 | 9=>157
 | 10=>1010
 | _=>5000
theorem Zei:∀ i,i<11->∀ j,j<11->j≠i->isT j≠isT i:=by decide
theorem Znj (i:Nat) (h:i<11):i=0\/i=1\/i=2\/i=3\/i=4\/i=5\/i=6\/i=7\/i=8\/i=9\/i=10:=by omega
theorem Ztx (j:Nat) (hj:j∈[12,13]):∀ i,i<11->isT i≠j:=by revert j;decide
def Zni (E k gF bi lc cc sz n:Nat) (ar:Int) (pc:Option Addr) (ys:List Value) (vb:Option Nat) (q2:Nat) (gC:Nat) (cC9:Nat):Nat->Value
 | 0 => .pointer (some ⟨gF,k*4,none⟩)
 | 1 => .pointer (some ⟨gF,k*4,none⟩)
 | 2 => .pointer (some ⟨gF,k*4,none⟩)
 | 3 => .pointer (some ⟨gF,k*4+3,none⟩)
 | 4 => .slice pc lc cc
 | 5 => .agg #[.int .i64 (n:Int),.int .i64 ar]
 | 6 => .slice (some ⟨q2,0,none⟩) 1 1
 | 7 => .slice (some ⟨gC,0,none⟩) (lc+1) cC9
 | 8 => .pointer (some ⟨gF,k*4,none⟩)
 | 9 => .pointer (some ⟨gF,k*4+3,none⟩)
 | 10=>undef
 | _=>undef
def Yqx (E k gF bi lc cc sz n:Nat) (ar:Int) (pc:Option Addr) (ys:List Value) (vb:Option Nat) (q2:Nat) (gC:Nat) (cC9:Nat):Nat->World->Prop
 | 6=>fun w9=>w9.heap[q2]? = some (.cells #[.int .i64 (n:Int),.int .i64 ar] 58 (0,0))
 | 7=>fun w9=>w9.ownsRow E 58 2 (.slice (some ⟨gC,0,none⟩) (lc+1) cC9) (lc+1) (ys++[.int .i64 (n:Int),.int .i64 ar])/\(some gC=vb\/sz<=gC)
 | _=>fun _=>True
theorem Yow {E k gF bi lc cc sz n:Nat} {ar:Int} {pc:Option Addr} {ys:List Value} {vb:Option Nat} {q2:Nat} {gC:Nat} {cC9:Nat} {q22:Nat} {l:Array Bool} (hcl:∀ p∈([(2,1),(3,2),(4,3),(6,5),(7,4),(7,6),(8,0),(9,8),(10,9),(10,7)]:List (Nat × Nat)),l.getD (Prod.fst p) false=true->l.getD (Prod.snd p) false=true) (hun:l.getD 6 false=false):∀ i,i<11->l.getD i false=true->isT i<158->Zni E k gF bi lc cc sz n ar pc ys vb q22 gC cC9 i=Zni E k gF bi lc cc sz n ar pc ys vb q2 gC cC9 i:=by
 intro i hi hl _
 rcases Znj i hi with rfl|rfl|rfl|rfl|rfl|rfl|rfl|rfl|rfl|rfl|rfl
 · rfl
 · rfl
 · rfl
 · rfl
 · rfl
 · rfl
 · exact Zm (hl) hun
 · rfl
 · rfl
 · rfl
 · rfl
theorem Yov {E k gF bi lc cc sz n:Nat} {ar:Int} {pc:Option Addr} {ys:List Value} {vb:Option Nat} {q2:Nat} {gC:Nat} {cC9:Nat} {gC2:Nat} {cC92:Nat} {l:Array Bool} (hcl:∀ p∈([(2,1),(3,2),(4,3),(6,5),(7,4),(7,6),(8,0),(9,8),(10,9),(10,7)]:List (Nat × Nat)),l.getD (Prod.fst p) false=true->l.getD (Prod.snd p) false=true) (hun:l.getD 7 false=false):∀ i,i<11->l.getD i false=true->isT i<158->Zni E k gF bi lc cc sz n ar pc ys vb q2 gC2 cC92 i=Zni E k gF bi lc cc sz n ar pc ys vb q2 gC cC9 i:=by
 intro i hi hl _
 rcases Znj i hi with rfl|rfl|rfl|rfl|rfl|rfl|rfl|rfl|rfl|rfl|rfl
 · rfl
 · rfl
 · rfl
 · rfl
 · rfl
 · rfl
 · rfl
 · exact Zm (hl) hun
 · rfl
 · rfl
 · rfl
theorem Znk (w0 ww w:World) (p m k gF cF bi:Nat) (c:CS) (x:Option Int) (n:Nat) (ar:Int) (vd vL vB:Value) (bm:Nat) (cv:List Value) (lb:List Nat) (vc:Value)
 (h:Zge w0 w p m c (Zeg x) vd (.slice (some ⟨gF,0,none⟩) c.funcs.length cF) vL vB bm cv lb) (hk:c.funcs.length=k+1) (hv:cv[k]? = some vc) (hb:w.heap[bi]? = some (.cells #[.int .i64 n,.int .i64 ar] 58 (0,0))) (hne:vc.ownBlock≠some bi)
 (hFr:Fr ww w) (hm:m+1<=1000000) (R:Option (CS × Option Int)) (hR:R=some (Zgt c (n,ar),x)) (a:Act) (ha:Yqy k gF bi a) (K:Act->World->Prop) (hK:∀ a w,Code.wp Tryz.prog (Zdv Tryz.f80 28) (bodyPost Tryz.prog Tryz.f80 (Zp w0 ww p (m+1) R)) a w->K a w) :
 Code.wp Tryz.prog (Zjl Tryz.f80 28) (Exit.then K (bodyPost Tryz.prog Tryz.f80 (Zp w0 ww p (m+1) R))) a w:=by
 subst hR
 rw [Yox ha]
 generalize (fun i=>a.tmps.getD i undef)=t
 clear ha
 have HA:=Hq h
 have HV:=Hq hv
 have FR:=Hq (Zn hFr (Yk (Zg (Zd w none))))
 have hf:c.funcs[k]? = some (c.funcs.getD k (0,0,0,[])):=by
  rw [List.getD_eq_getElem?_getD,List.getElem?_eq_getElem (by omega:k<c.funcs.length)];rfl
 have AD:=Hq (Yr h (Zg (Zd w none)))
 have hz:=h.ins.z3 _ (List.mem_of_getElem? hf)
 have ho:=h.ins.own.each k _ vc hf hv
 have hE:=h.gr.size
 obtain ⟨g',cap',hvF,hgF,hcF⟩:=Xc h.ins.own.fr (by omega)
 injection hvF with hvF _ _
 injection hvF with hvF;injection hvF with hvF
 subst hvF
 obtain ⟨-,-,-,q3⟩:=Zbu c.funcs cv k _ _ hf hv
 have c3:=hcF _ _ q3 (by omega)
 have z3:=Zil h.ins.own.fr (k*4+3)
 have HNF:some gF≠vc.ownBlock:=by
  intro e
  rcases Zx h.ins.own.fr ho (by decide) with q|q
  · cases q
  · exact q e
 have HNB:some bi≠vc.ownBlock:=fun e=>hne e.symm
 have hlb:bi<w.heap.size:=(Gs hb)
 have d0:=Cq _ _ 0 _ _ _ hb
 have d1:=Cq _ _ 1 _ _ _ hb
 have OWN:=Hq (ho.kept (Zg (Zd w none)) (Jw ho))
 obtain ⟨pc,cc,hvc⟩:=Zk ho
 generalize hfe:c.funcs.getD k (0,0,0,[])=f at *
 obtain ⟨fa,fl,fr,fc⟩:=f
 simp only [] at hz hvc
 subst hvc
 have HFE:=Hq hfe
 have hdr:=World.size_drew w
 obtain ⟨vb,hvb⟩:∃ vb,(Value.slice pc fc.length cc).ownBlock=vb:=⟨_,rfl⟩
 rw [hvb] at HNF HNB
 obtain ⟨ni,ni0,ni1,ni2,ni3⟩:=info_parts Zyx
 have HK:=Hq hk
 clear h hf ho hcF q3 hb hfe hv hne hFr hk
 unfold inF
 generalize t 0=u,t 1=u,t 2=u,t 3=u,t 4=u,t 5=u,t 6=u,t 7=u,t 8=u,t 9=u,t 10=u,t 11=u,t 14=u,t 15=u,t 16=u,t 17=u,t 18=u,t 19=u,t 20=u,t 21=u,t 22=u,t 23=u,t 24=u,t 25=u,t 26=u,t 27=u,t 28=u,t 29=u,t 30=u,t 31=u,t 32=u,t 33=u,t 34=u,t 35=u,t 36=u,t 37=u,t 38=u,t 39=u,t 40=u,t 41=u,t 42=u,t 43=u,t 44=u,t 45=u,t 46=u,t 47=u,t 48=u,t 49=u,t 50=u,t 51=u,t 52=u,t 53=u,t 54=u,t 55=u,t 56=u,t 57=u,t 58=u,t 59=u,t 60=u,t 61=u,t 62=u,t 63=u,t 64=u,t 65=u,t 66=u,t 67=u,t 68=u,t 69=u,t 70=u,t 71=u,t 72=u,t 73=u,t 74=u,t 75=u,t 76=u,t 77=u,t 78=u,t 79=u,t 80=u,t 81=u,t 82=u,t 83=u,t 84=u,t 85=u,t 86=u,t 87=u,t 88=u,t 89=u,t 90=u,t 91=u,t 92=u,t 93=u,t 94=u,t 95=u,t 96=u,t 97=u,t 98=u,t 99=u,t 100=u,t 101=u,t 102=u,t 103=u,t 104=u,t 105=u,t 106=u,t 107=u,t 108=u,t 109=u,t 110=u,t 111=u,t 112=u,t 113=u,t 114=u,t 115=u,t 116=u,t 117=u,t 118=u,t 119=u,t 120=u,t 121=u,t 122=u,t 123=u,t 124=u,t 125=u,t 126=u,t 127=u,t 128=u,t 129=u,t 130=u,t 131=u,t 132=u,t 133=u,t 134=u,t 135=u,t 136=u,t 137=u,t 138=u,t 139=u,t 140=u,t 141=u,t 142=u,t 143=u,t 144=u,t 145=u,t 146=u,t 147=u,t 148=u,t 149=u,t 150=u,t 151=u,t 152=u,t 153=u,t 154=u,t 155=u,t 156=u,t 157=u
 clear t
 conv=>arg 2;whnf
 refine Xa (n:=11) (J:=fun a0 l a1 w1=>∃ (q2:Nat) (gC:Nat) (cC9:Nat),RJ a0 158 11 isT (Zni w0.heap.size k gF bi fc.length cc w.heap.size n ar pc (Zad fc) vb q2 gC cC9) l a1/\Zcs 10 11 7 [(2,1),(3,2),(4,3),(6,5),(7,4),(7,6),(8,0),(9,8),(10,9),(10,7)] [(6,7)] (fun w9=>World.grownBy w.drew w9 vb) (fun w9=>w9.ownsRow w0.heap.size 58 2 (.slice pc fc.length cc) fc.length (Zad fc)) (Yqx w0.heap.size k gF bi fc.length cc w.heap.size n ar pc (Zad fc) vb q2 gC cC9) (fun w9=>∃ (w8:World),World.grownBy w.drew w8 vb/\w8.ownsRow w0.heap.size 58 2 (.slice (some ⟨gC,0,none⟩) (fc.length+1) cC9) (fc.length+1) (Zad fc++[.int .i64 (n:Int),.int .i64 ar])/\((Value.slice (some ⟨gC,0,none⟩) (fc.length+1) cC9).ownBlock=vb\/∀ b,(Value.slice (some ⟨gC,0,none⟩) (fc.length+1) cC9).ownBlock=some b->w.drew.heap.size<=b)/\w9=w8.setCell ⟨gF,k*4+3,none⟩ (.slice (some ⟨gC,0,none⟩) (fc.length+1) cC9)) l w1) (by kernel_rfl) rfl (Xx (by kernel_rfl)) (fun l a1 w1 h=>by obtain ⟨_,_,_,h,_⟩:=h;exact h.sz) ⟨0,0,0,Yz rfl,Yf (Zd _ _) (OWN.out)⟩ ?step ?fin
 case step =>
  intro l a1 w' i hJJ hi hin
  obtain ⟨q2,gC,cC9,hJ,hW⟩:=hJJ
  have hun:l.getD i false=false:=getD_both (mem_ready.1 hi).1
  have hns:=Jv hW hin hun
  have hg:=hW.g hns
  have l0:=Nat.lt_of_lt_of_le hgF hg.size
  have l1:=Nat.lt_of_lt_of_le hlb hg.size
  rcases Znj i hin with rfl|rfl|rfl|rfl|rfl|rfl|rfl|rfl|rfl|rfl|rfl
  · have e12:a1.tmps.getD 12 undef = .pointer (some ⟨gF,k*4,none⟩):=hJ.un 12 (fun i hi _=>Ztx 12 (by decide) i hi)
    exact Zh (Zc hJ hW hi hun rfl (by rfl) rfl (by decide) (by decide) (Zei _ (by decide)) (w':=w') (by simp [execOp,resolve,invoke,builtin,Act.eval,e12,l0,l1,go_sem,Zni]) (⟨by decide,by kernel_rfl,True.intro⟩)) (fun a9 w9 h9=>⟨q2,gC,cC9,h9⟩)
  · have e12:a1.tmps.getD 12 undef = .pointer (some ⟨gF,k*4,none⟩):=hJ.un 12 (fun i hi _=>Ztx 12 (by decide) i hi)
    exact Zh (Zc hJ hW hi hun rfl (by rfl) rfl (by decide) (by decide) (Zei _ (by decide)) (w':=w') (by simp [execOp,resolve,invoke,builtin,Act.eval,e12,l0,l1,go_sem,Zni]) (⟨by decide,by kernel_rfl,True.intro⟩)) (fun a9 w9 h9=>⟨q2,gC,cC9,h9⟩)
  · have e149:a1.tmps.getD 149 undef = .pointer (some ⟨gF,k*4,none⟩):=(Ze hJ hi 1 (by kernel_rfl))
    exact Zh (Zc hJ hW hi hun rfl (by rfl) rfl (by decide) (by decide) (Zei _ (by decide)) (w':=w') (by simp [execOp,resolve,invoke,builtin,Act.eval,e149,l0,l1,go_sem,Zni]) (⟨by decide,by kernel_rfl,True.intro⟩)) (fun a9 w9 h9=>⟨q2,gC,cC9,h9⟩)
  · have e150:a1.tmps.getD 150 undef = .pointer (some ⟨gF,k*4,none⟩):=(Ze hJ hi 2 (by kernel_rfl))
    exact Zh (Zc hJ hW hi hun rfl (by rfl) rfl (by decide) (by decide) (Zei _ (by decide)) (w':=w') (by simp [execOp,resolve,invoke,builtin,Act.eval,e150,l0,l1,go_sem,Zni]) (⟨by decide,by kernel_rfl,True.intro⟩)) (fun a9 w9 h9=>⟨q2,gC,cC9,h9⟩)
  · have e151:a1.tmps.getD 151 undef = .pointer (some ⟨gF,k*4+3,none⟩):=(Ze hJ hi 3 (by kernel_rfl))
    have h0:=hg.cell c3 HNF
    exact Zh (Zc hJ hW hi hun rfl (by rfl) rfl (by decide) (by decide) (Zei _ (by decide)) (w':=w') (by simp [execOp,resolve,invoke,builtin,Act.eval,e151,h0,l0,l1,go_sem,Zni]) (⟨by decide,by kernel_rfl,True.intro⟩)) (fun a9 w9 h9=>⟨q2,gC,cC9,h9⟩)
  · have e13:a1.tmps.getD 13 undef = .pointer (some ⟨bi,0,none⟩):=hJ.un 13 (fun i hi _=>Ztx 13 (by decide) i hi)
    have h0:=hg.cell d0 HNB
    have h1:=hg.cell d1 HNB
    exact Zh (Zc hJ hW hi hun rfl (by rfl) rfl (by decide) (by decide) (Zei _ (by decide)) (w':=w') (by simp [execOp,resolve,invoke,builtin,Act.eval,e13,h0,h1,l0,l1,go_sem,Zni]) (⟨by decide,by kernel_rfl,True.intro⟩)) (fun a9 w9 h9=>⟨q2,gC,cC9,h9⟩)
  · have e153:a1.tmps.getD 153 undef = .agg #[.int .i64 (n:Int),.int .i64 ar]:=(Ze hJ hi 5 (by kernel_rfl))
    have f153:=e153
    rw [Array.getD_eq_getD_getElem?] at f153
    refine Xf (v:=Zni w0.heap.size k gF bi fc.length cc w.heap.size n ar pc (Zad fc) vb w'.heap.size gC cC9 6) (w':=w'.alloc (.cells #[.int .i64 (n:Int),.int .i64 ar] 58)) rfl (by rfl) (by simp [execOp,Act.eval,e153,f153,Yoy,Result.andThen,Zni]) ⟨w'.heap.size,gC,cC9,?_,Zv hW (by decide) hun (by decide) (Zj _ hi (by kernel_rfl)) (Za hg (Ga _ _ _)) (fun hne0 hun0 hB0=>hB0.alloc _) (fun j hj hne hl hcu hF => ?_) (heap_alloc_new w' _)⟩
    · exact Xm (val:=Zni w0.heap.size k gF bi fc.length cc w.heap.size n ar pc (Zad fc) vb w'.heap.size gC cC9) (Xo hJ (Yow hW.cl hun)) (by decide) (by decide) (Zei _ (by decide))
    · rcases Znj j hj with rfl|rfl|rfl|rfl|rfl|rfl|rfl|rfl|rfl|rfl|rfl
      · exact True.intro
      · exact True.intro
      · exact True.intro
      · exact True.intro
      · exact True.intro
      · exact True.intro
      · exact absurd rfl hne
      · exact Zm (hW.cl (7,6) (by decide) (hl)) hun
      · exact True.intro
      · exact True.intro
      · exact True.intro
  · have e152:a1.tmps.getD 152 undef = .slice pc fc.length cc:=(Ze hJ hi 4 (by kernel_rfl))
    have e154:a1.tmps.getD 154 undef = .slice (some ⟨q2,0,none⟩) 1 1:=(Ze hJ hi 6 (by kernel_rfl))
    have F6:=hW.f hns 6 (by decide) (Zb hi 6 (by kernel_rfl)) (Zcu (c:=7) (by decide) hun)
    have own:=hW.u hun
    obtain ⟨v8,w8,hap,hown,hgr,-,hat⟩:=run_append_own_at (P:=Tryz.prog) w' w0.heap.size 59 59 58 ni (.agg #[.int .i64 0,.int .i64 0]) 2 16 Yda ni0 ni1 ni2 ni3 rfl (by decide) _ fc.length (Zad fc) own ⟨q2,0,none⟩ 1 1 [.int .i64 (n:Int),.int .i64 ar] rfl (Zhk F6) (Yrc _ _) (by unfold maxLen;omega) (by omega) (Nat.le_trans hE hg.size)
    rw [hvb] at hgr hat
    obtain ⟨gC2,cC92,hv⟩:=Zcc hown
    subst hv
    have hgs:=hg.size
    have hat2:some gC2=vb\/w.heap.size<=gC2:=hat.imp id (fun e=>by injection e with e;simp only at e;omega)
    refine Xf (v:=Zni w0.heap.size k gF bi fc.length cc w.heap.size n ar pc (Zad fc) vb q2 gC2 cC92 7) (w':=w8) rfl (by rfl) (by simp [execOp,resolve,invoke,builtin,Act.eval,e152,e154,hap,Result.andThen,Zni]) ⟨q2,gC2,cC92,?_,Zv hW (by decide) hun (by decide) (Zj _ hi (by kernel_rfl)) (Za hg hgr) (fun hne0 hun0 hB0=>absurd rfl hne0) (fun j hj hne hl hcu hF => ?_) (⟨hown,hat2⟩)⟩
    · exact Xm (val:=Zni w0.heap.size k gF bi fc.length cc w.heap.size n ar pc (Zad fc) vb q2 gC2 cC92) (Xo hJ (Yov hW.cl hun)) (by decide) (by decide) (Zei _ (by decide))
    · rcases Znj j hj with rfl|rfl|rfl|rfl|rfl|rfl|rfl|rfl|rfl|rfl|rfl
      · exact True.intro
      · exact True.intro
      · exact True.intro
      · exact True.intro
      · exact True.intro
      · exact True.intro
      · exact absurd rfl (hcu (6,7) (by decide) rfl).1
      · exact absurd rfl hne
      · exact True.intro
      · exact True.intro
      · exact True.intro
  · have e148:a1.tmps.getD 148 undef = .pointer (some ⟨gF,k*4,none⟩):=(Ze hJ hi 0 (by kernel_rfl))
    exact Zh (Zc hJ hW hi hun rfl (by rfl) rfl (by decide) (by decide) (Zei _ (by decide)) (w':=w') (by simp [execOp,resolve,invoke,builtin,Act.eval,e148,l0,l1,go_sem,Zni]) (⟨by decide,by kernel_rfl,True.intro⟩)) (fun a9 w9 h9=>⟨q2,gC,cC9,h9⟩)
  · have e156:a1.tmps.getD 156 undef = .pointer (some ⟨gF,k*4,none⟩):=(Ze hJ hi 8 (by kernel_rfl))
    exact Zh (Zc hJ hW hi hun rfl (by rfl) rfl (by decide) (by decide) (Zei _ (by decide)) (w':=w') (by simp [execOp,resolve,invoke,builtin,Act.eval,e156,l0,l1,go_sem,Zni]) (⟨by decide,by kernel_rfl,True.intro⟩)) (fun a9 w9 h9=>⟨q2,gC,cC9,h9⟩)
  · have e157:a1.tmps.getD 157 undef = .pointer (some ⟨gF,k*4+3,none⟩):=(Ze hJ hi 9 (by kernel_rfl))
    have e155:a1.tmps.getD 155 undef = .slice (some ⟨gC,0,none⟩) (fc.length+1) cC9:=(Ze hJ hi 7 (by kernel_rfl))
    have F7:=hW.f hns 7 (by decide) (Zb hi 7 (by kernel_rfl)) (Zdt (by decide))
    have k1:=hg.cell c3 HNF
    have bx2:=hg.block gF hgF HNF
    have j1:w'.frozen? ⟨gF,k*4+3,none⟩=false:=(World.frozen?_of_block bx2).trans z3
    have lb2:=Nat.lt_of_lt_of_le hgF hg.size
    have O7:w'.ownsRow w0.heap.size 58 2 (.slice (some ⟨gC,0,none⟩) (fc.length+1) cC9) (fc.length+1) (Zad fc++[.int .i64 (n:Int),.int .i64 ar]):=F7.1
    have L7:some gC=vb\/w.heap.size<=gC:=F7.2
    have hall:∀ j,j<11->j≠10->l.getD j false=true:=by
     intro j hj hne
     rcases Znj j hj with rfl|rfl|rfl|rfl|rfl|rfl|rfl|rfl|rfl|rfl|rfl
     · exact hW.cl (8,0) (by decide) (hW.cl (9,8) (by decide) (Zb hi 9 (by kernel_rfl)))
     · exact hW.cl (2,1) (by decide) (hW.cl (3,2) (by decide) (hW.cl (4,3) (by decide) (hW.cl (7,4) (by decide) (Zb hi 7 (by kernel_rfl)))))
     · exact hW.cl (3,2) (by decide) (hW.cl (4,3) (by decide) (hW.cl (7,4) (by decide) (Zb hi 7 (by kernel_rfl))))
     · exact hW.cl (4,3) (by decide) (hW.cl (7,4) (by decide) (Zb hi 7 (by kernel_rfl)))
     · exact hW.cl (7,4) (by decide) (Zb hi 7 (by kernel_rfl))
     · exact hW.cl (6,5) (by decide) (hW.cl (7,6) (by decide) (Zb hi 7 (by kernel_rfl)))
     · exact hW.cl (7,6) (by decide) (Zb hi 7 (by kernel_rfl))
     · exact Zb hi 7 (by kernel_rfl)
     · exact hW.cl (9,8) (by decide) (Zb hi 9 (by kernel_rfl))
     · exact Zb hi 9 (by kernel_rfl)
     · exact absurd rfl hne
    exact Zh (Zbk (WS:=fun l9 w9=>Zcs 10 11 7 [(2,1),(3,2),(4,3),(6,5),(7,4),(7,6),(8,0),(9,8),(10,9),(10,7)] [(6,7)] (fun w9=>World.grownBy w.drew w9 vb) (fun w9=>w9.ownsRow w0.heap.size 58 2 (.slice pc fc.length cc) fc.length (Zad fc)) (Yqx w0.heap.size k gF bi fc.length cc w.heap.size n ar pc (Zad fc) vb q2 gC cC9) (fun w9=>∃ (w8:World),World.grownBy w.drew w8 vb/\w8.ownsRow w0.heap.size 58 2 (.slice (some ⟨gC,0,none⟩) (fc.length+1) cC9) (fc.length+1) (Zad fc++[.int .i64 (n:Int),.int .i64 ar])/\((Value.slice (some ⟨gC,0,none⟩) (fc.length+1) cC9).ownBlock=vb\/∀ b,(Value.slice (some ⟨gC,0,none⟩) (fc.length+1) cC9).ownBlock=some b->w.drew.heap.size<=b)/\w9=w8.setCell ⟨gF,k*4+3,none⟩ (.slice (some ⟨gC,0,none⟩) (fc.length+1) cC9)) l9 w9) hJ rfl rfl rfl (by decide) (by decide) (w':=w'.setCell ⟨gF,k*4+3,none⟩ (.slice (some ⟨gC,0,none⟩) (fc.length+1) cC9)) (by simp [execOp,Act.eval,e157,e155,k1,j1,lb2,go_sem]) (Jh hW (by decide) (by decide) hall (Zj _ hi (by kernel_rfl)) (⟨w',hg,O7,L7.imp id (fun h7 b hb7=>by injection hb7 with hb7;simp only at hb7;omega),rfl⟩))) (fun a9 w9 h9=>⟨q2,gC,cC9,h9⟩)
 case fin =>
  intro l9 a1 w9 hJJ hl9
  obtain ⟨q2,gC,cC9,hJ,hW⟩:=hJJ
  have hq:=hW.q (hl9 10 (by decide))
  have hput:=Xw hJ rfl hl9 (fun i j h1 h2 h3=>Zei j h2 i h1 h3)
  subst hput
  clear hJ hW hl9 c3 d0 d1
  obtain ⟨w8,q1,q4,q5,rfl⟩:=hq
  refine hK _ _ ?_
  simp only [Jy,isT,Zni,Act.put,List.setIfInBounds_toArray,List.set_cons_zero,List.set_cons_succ]
  have M:=Ygm (i:=((n:Int),ar)) (v' := .slice (some ⟨gC,0,none⟩) (fc.length+1) cC9) AD.out HK.out HV.out (by rw [HFE.out,Zrn];exact q4) (by rw [hvb];exact q1) (by rw [hvb];exact q5)
  clear hK K q1 q4 q5
  conv=>arg 2;whnf
  go_wp2
  go_ret
  exact ⟨⟨rfl,M.1⟩,Zn FR.out M.2,Zax M.1⟩
end Go.Proofs.YteciblfmgdlipaaGreatDoor.AS
