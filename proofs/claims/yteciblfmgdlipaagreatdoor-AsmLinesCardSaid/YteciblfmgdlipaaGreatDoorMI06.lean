/-
  Part of a proof: contracts of functions and lemmas, each stated by its own theorem. Conditions: as each theorem states.
-/
import Derived.Test.YteciblfmgdlipaaGreatDoorMI05
import Derived.Lib.AppendStr
import Derived.Deep.Cut
import Derived.Test.YteciblfmgdlipaaGreatDoorMI03
set_option linter.unusedSimpArgs false
set_option linter.unusedVariables false
set_option maxRecDepth 100000
set_option maxHeartbeats 16000000
namespace Go.Proofs.YteciblfmgdlipaaGreatDoor.AS
open Go.RowKit Go.Great CK
theorem Xp {w0 w w':World} {p m:Nat} {c:CS} {pend vd vF vL vB:Value} {bm:Nat} {cv:List Value} {lb:List Nat} (h:Zjb w0 w p m c pend vd vF vL vB bm cv lb) (g:w.grownBy w' none):Zjb w0 w' p m c pend vd vF vL vB bm cv lb :=
 ⟨Za h.gr g,h.ge,Zf h.box g (by simp),Zns h.ins g,h.lens⟩
theorem Ygm {w0 w w1:World} {p m:Nat} {c:CS} {pend vd vd' vF vL vB:Value} {bm:Nat} {cv:List Value} {lb:List Nat} {t:Txt} (h:Zjb w0 w p m c pend vd vF vL vB bm cv lb)
 (ho:w1.ownsRow w0.heap.size 5 1 vd' (c.data++t).length ((Zcq (c.data++t)).map (Value.int .u8))) (g:w.grownBy w1 vd.ownBlock) :
 PS w0 (w1.setCell ⟨p,1,none⟩ vd') p (m+t.length) { c with data:=c.data++t } pend/\Fr w (w1.setCell ⟨p,1,none⟩ vd'):=by
 have hd:=h.ins.own.dt
 have hI:=Ygj h.ins ho g
 have hb:=Zf h.box g (Zn hd h.box (by decide))
 have gs:=Zm w1 p 1 vd'
 refine ⟨⟨vd',vF,vL,vB,bm,cv,lb,?_,h.ge,by rw [Zj hb];rfl,Zfq hI hb gs,h.lens⟩,Zz (Zos hd (by decide) g) (Zot hb (by decide) gs)⟩
 exact Zy (Yf h.gr g (fun k hk=>(World.ownsRow.lt hd k hk).1)) h.ge
theorem Zof (a b:Txt):Zcq (a++b)=Zcq a++Zcq b:=by simp [Zcq]
theorem Znj (t:Txt):Lib.strCells (bs t)=(Zcq t).map (Value.int .u8):=by simp [Lib.strCells,Zcq,bs]
def ad:Nat->Nat
 | 0=>25
 | 1=>26
 | 2=>27
 | 3=>28
 | 4=>29
 | 5=>30
 | 6=>31
 | 7=>32
 | 8=>33
 | 9=>34
 | 10=>35
 | 11=>36
 | 12=>37
 | 13=>38
 | 14=>1014
 | _=>5000
theorem Zja:∀ i,i<15->∀ j,j<15->j≠i->ad j≠ad i:=by decide
theorem Ytt (i:Nat) (h:i<15):i=0\/i=1\/i=2\/i=3\/i=4\/i=5\/i=6\/i=7\/i=8\/i=9\/i=10\/i=11\/i=12\/i=13\/i=14:=by omega
theorem Yju (j:Nat) (hj:j∈[0,1]):∀ i,i<15->ad i≠j:=by revert j;decide
def adv (E p b o nd cd cc nn:Nat) (pd:Option Addr) (tx:ByteArray) (ys:List Value) (pv:Option Addr) (cv9:Nat):Nat->Value
 | 0 => .pointer (some ⟨p,0,none⟩)
 | 1 => .pointer (some ⟨p,0,none⟩)
 | 2 => .pointer (some ⟨p,0,none⟩)
 | 3 => .pointer (some ⟨p,0,none⟩)
 | 4 => .pointer (some ⟨p,1,none⟩)
 | 5 => .slice pd nd cd
 | 6 => .slice (some ⟨b,o,none⟩) 1 cc
 | 7 => .pointer (some ⟨b,o,none⟩)
 | 8 => .pointer (some ⟨b,o+1,none⟩)
 | 9 => .string tx
 | 10 => .slice pv nn cv9
 | 11 => .pointer (some ⟨p,0,none⟩)
 | 12 => .pointer (some ⟨p,0,none⟩)
 | 13 => .pointer (some ⟨p,1,none⟩)
 | 14=>undef
 | _=>undef
def adF (E p b o nd cd cc nn:Nat) (pd:Option Addr) (tx:ByteArray) (ys:List Value) (pv:Option Addr) (cv9:Nat):Nat->World->Prop
 | 10=>fun w9=>w9.ownsRow E 5 1 (.slice pv nn cv9) nn ys
 | _=>fun _=>True
theorem Yvz {E p b o nd cd cc nn:Nat} {pd:Option Addr} {tx:ByteArray} {ys:List Value} {pv:Option Addr} {cv9:Nat} {pv2:Option Addr} {cv92:Nat} {l:Array Bool} (hcl:∀ p∈([(2,1),(3,2),(4,3),(5,4),(7,6),(8,7),(9,8),(10,5),(10,9),(11,0),(12,11),(13,12),(14,13),(14,10)]:List (Nat × Nat)),l.getD (Prod.fst p) false=true->l.getD (Prod.snd p) false=true) (hun:l.getD 10 false=false):∀ i,i<15->l.getD i false=true->ad i<39->adv E p b o nd cd cc nn pd tx ys pv2 cv92 i=adv E p b o nd cd cc nn pd tx ys pv cv9 i:=by
 intro i hi hl _
 rcases Ytt i hi with rfl|rfl|rfl|rfl|rfl|rfl|rfl|rfl|rfl|rfl|rfl|rfl|rfl|rfl|rfl <;> first|rfl|exact Zk (hl) hun
def Zhx (c:CS) (x:Option Int) (ps:List Pc):Option (CS × Option Int) :=
 match ps with
 | [.str t]=>if 0<c.funcs.length then none else some ({ c with data:=c.data++t },x)
 | _=>none
theorem Yti (w0 w:World) (p m:Nat) (c:CS) (x:Option Int) (t:Txt) (b o cc:Nat) (h:PS w0 w p m c (Zgw x)) (hp:Zkh w (some ⟨b,o,none⟩) [.str t]) (hf:c.funcs.length=0) (hm:m+t.length<=1000000) :
 Calls Tryz.prog 78 #[.pointer (some ⟨p,0,none⟩),.slice (some ⟨b,o,none⟩) 1 cc] w (Yi w0 w p (m+t.length) (some ({ c with data:=c.data++t },x))):=by
 have HS:=Hq h
 obtain ⟨vd,vF,vL,vB,bm,cv,lb,hA⟩:=h
 obtain ⟨pF,cF,hvF⟩:=Zan hA
 obtain ⟨pd,cd,hvd⟩:=Zi hA.ins.own.dt
 rw [Yh] at hvd
 subst hvF;subst hvd
 have A:=Hq (Xp hA (Ze (Zb w none)))
 have hz1:=hA.ins.z1
 have bx:=hA.box
 have c1:w.cell? ⟨p,1,none⟩=some (.slice pd c.data.length cd):=Cq w p 1 _ _ _ bx
 have c2:w.cell? ⟨p,2,none⟩=some (.slice pF c.funcs.length cF):=Cq w p 2 _ _ _ bx
 have z1:=frozen_of_row w p 1 _ _ bx
 have hlt:p<w.heap.size:=(Gs bx)
 obtain ⟨b',o',e,hb,d0,d1,d2,d3⟩:=Jb hp (i:=0) (q := .str t) rfl
 injection e with e;injection e with e1 e2
 subst e1;subst e2
 simp only [Nat.zero_mul,Nat.add_zero,pcK,pcT,pcN,pcF] at d0 d1 d2 d3
 obtain ⟨bi,bi0,bi1,bi2,bi3⟩:=info_parts Zaz
 have hfi:(c.funcs.length:Int)=0:=by omega
 have HNE:some p≠(Value.slice pd c.data.length cd).ownBlock:=fun e=>Zn hA.ins.own.dt bx (by decide) e.symm
 have HNB:some b≠(Value.slice pd c.data.length cd).ownBlock:=by
  obtain ⟨b',o',cs,fz,e,hb,_⟩:=hp (by simp)
  injection e with e;injection e with e1 e2
  subst e1
  intro e3
  rcases hA.ins.own.dt.2 with ⟨e4,_⟩|⟨g0,cap,cur,e4,_,hg,_⟩
  · rw [e4] at e3;cases e3
  · injection e4 with e4 _ _
    subst e4
    injection e3 with e3
    simp only at e3
    subst e3
    rw [hb] at hg;injection hg with hg;injection hg with _ h2 _;revert h2;decide
 have hE:=hA.gr.size
 have hts:(bs t).size=t.length:=Zl t
 generalize hvb:(Value.slice pd c.data.length cd).ownBlock=vb at *
 clear hA bx hp
 go_enter Tryz.func78,Tryz.ntmps78
 go_upto_region 3 with fail
 rename_i K hK
 refine Yd (n:=15) (J:=fun a0 l a1 w1=>∃ (pv:Option Addr) (cv9:Nat),RJ a0 39 15 ad (adv w0.heap.size p b o c.data.length cd cc (c.data.length+t.length) pd (bs t) ((Zcq c.data).map (Value.int .u8)++(Zcq t).map (Value.int .u8)) pv cv9) l a1/\Zas 14 15 10 [(2,1),(3,2),(4,3),(5,4),(7,6),(8,7),(9,8),(10,5),(10,9),(11,0),(12,11),(13,12),(14,13),(14,10)] [] (fun w9=>World.grownBy w.drew w9 vb) (fun w9=>w9.ownsRow w0.heap.size 5 1 (.slice pd c.data.length cd) c.data.length ((Zcq c.data).map (Value.int .u8))) (adF w0.heap.size p b o c.data.length cd cc (c.data.length+t.length) pd (bs t) ((Zcq c.data).map (Value.int .u8)++(Zcq t).map (Value.int .u8)) pv cv9) (fun w9=>∃ (w8:World),World.grownBy w.drew w8 vb/\w8.ownsRow w0.heap.size 5 1 (.slice pv (c.data.length+t.length) cv9) (c.data.length+t.length) ((Zcq c.data).map (Value.int .u8)++(Zcq t).map (Value.int .u8))/\w9=w8.setCell ⟨p,1,none⟩ (.slice pv (c.data.length+t.length) cv9)) l w1) (by kernel_rfl) rfl (Yt (by kernel_rfl)) (fun l a1 w1 h=>by obtain ⟨_,_,h,_⟩:=h;exact h.sz) ⟨none,0,Yc rfl,Zu (Zb _ _) (by have:=A.out.ins.own.dt;rw [Yh] at this;exact this)⟩ ?step ?fin
 case step =>
  intro l a1 w' i hJJ hi hin
  obtain ⟨pv,cv9,hJ,hW⟩:=hJJ
  have hun:l.getD i false=false:=getD_both (mem_ready.1 hi).1
  have hns:=Xe hW hin hun
  have hg:=hW.g hns
  have l0:=Nat.lt_of_lt_of_le hlt hg.size
  have l1:=Nat.lt_of_lt_of_le hb hg.size
  rcases Ytt i hin with rfl|rfl|rfl|rfl|rfl|rfl|rfl|rfl|rfl|rfl|rfl|rfl|rfl|rfl|rfl
  · have e0:a1.tmps.getD 0 undef = .pointer (some ⟨p,0,none⟩):=hJ.un 0 (fun i hi _=>Yju 0 (by decide) i hi)
    exact Zc (Zd hJ hW hi hun (hne:=Zja _ (by decide)) (hrun:=by simp [execOp,Act.eval,e0,go_sem,adv])) (fun a9 w9 h9=>⟨pv,cv9,h9⟩)
  · have e0:a1.tmps.getD 0 undef = .pointer (some ⟨p,0,none⟩):=hJ.un 0 (fun i hi _=>Yju 0 (by decide) i hi)
    exact Zc (Zd hJ hW hi hun (hne:=Zja _ (by decide)) (hrun:=by simp [execOp,Act.eval,e0,go_sem,adv])) (fun a9 w9 h9=>⟨pv,cv9,h9⟩)
  · have e26:a1.tmps.getD 26 undef = .pointer (some ⟨p,0,none⟩):=rjt hJ hi 1
    exact Zc (Zd hJ hW hi hun (hne:=Zja _ (by decide)) (hrun:=by simp [execOp,Act.eval,e26,go_sem,adv])) (fun a9 w9 h9=>⟨pv,cv9,h9⟩)
  · have e27:a1.tmps.getD 27 undef = .pointer (some ⟨p,0,none⟩):=rjt hJ hi 2
    exact Zc (Zd hJ hW hi hun (hne:=Zja _ (by decide)) (hrun:=by simp [execOp,Act.eval,e27,go_sem,adv])) (fun a9 w9 h9=>⟨pv,cv9,h9⟩)
  · have e28:a1.tmps.getD 28 undef = .pointer (some ⟨p,0,none⟩):=rjt hJ hi 3
    exact Zc (Zd hJ hW hi hun (hne:=Zja _ (by decide)) (hrun:=by simp [execOp,Act.eval,e28,go_sem,adv])) (fun a9 w9 h9=>⟨pv,cv9,h9⟩)
  · have e29:a1.tmps.getD 29 undef = .pointer (some ⟨p,1,none⟩):=rjt hJ hi 4
    have h0:=hg.cell c1 HNE
    exact Zc (Zd hJ hW hi hun (hne:=Zja _ (by decide)) (hrun:=by simp [execOp,Act.eval,e29,h0,l0,l1,go_sem,adv])) (fun a9 w9 h9=>⟨pv,cv9,h9⟩)
  · have e1:a1.tmps.getD 1 undef = .slice (some ⟨b,o,none⟩) 1 cc:=hJ.un 1 (fun i hi _=>Yju 1 (by decide) i hi)
    exact Zc (Zd hJ hW hi hun (hne:=Zja _ (by decide)) (hrun:=by simp [execOp,resolve,invoke,builtin,Act.eval,e1,l0,l1,go_sem,adv])) (fun a9 w9 h9=>⟨pv,cv9,h9⟩)
  · have e31:a1.tmps.getD 31 undef = .slice (some ⟨b,o,none⟩) 1 cc:=rjt hJ hi 6
    exact Zc (Zd hJ hW hi hun (hne:=Zja _ (by decide)) (hrun:=by simp [execOp,resolve,invoke,builtin,Act.eval,e31,l0,l1,go_sem,adv] <;> (intros;omega))) (fun a9 w9 h9=>⟨pv,cv9,h9⟩)
  · have e32:a1.tmps.getD 32 undef = .pointer (some ⟨b,o,none⟩):=rjt hJ hi 7
    exact Zc (Zd hJ hW hi hun (hne:=Zja _ (by decide)) (hrun:=by simp [execOp,Act.eval,e32,go_sem,adv])) (fun a9 w9 h9=>⟨pv,cv9,h9⟩)
  · have e33:a1.tmps.getD 33 undef = .pointer (some ⟨b,o+1,none⟩):=rjt hJ hi 8
    have h0:=hg.cell d1 HNB
    exact Zc (Zd hJ hW hi hun (hne:=Zja _ (by decide)) (hrun:=by simp [execOp,Act.eval,e33,h0,l0,l1,go_sem,adv])) (fun a9 w9 h9=>⟨pv,cv9,h9⟩)
  · have e30:a1.tmps.getD 30 undef = .slice pd c.data.length cd:=rjt hJ hi 5
    have e34:a1.tmps.getD 34 undef = .string (bs t):=rjt hJ hi 9
    have own:=hW.u hun
    obtain ⟨v8,w8,hap,hown,hgr,-⟩:=Lib.run_append_own_string (P:=Tryz.prog) (w:=w') w0.heap.size 23 9 23 5 bi Xv Xl bi0 bi1 bi2 bi3 _ c.data.length ((Zcq c.data).map (Value.int .u8)) own (bs t) (by unfold maxLen;omega) (by omega) (Nat.le_trans hE hg.size)
    rw [hts,Znj] at hown
    rw [hvb] at hgr
    obtain ⟨pv2,cv92,hv⟩:=Zi hown
    subst hv
    refine Zt (v:=adv w0.heap.size p b o c.data.length cd cc (c.data.length+t.length) pd (bs t) ((Zcq c.data).map (Value.int .u8)++(Zcq t).map (Value.int .u8)) pv2 cv92 10) (w':=w8) rfl (by rfl) (by simp [execOp,resolve,invoke,builtin,Act.eval,e30,e34,hap,Result.andThen,adv]) ⟨pv2,cv92,?_,Zo hW (by decide) hun (by decide) (Zg _ hi (by kernel_rfl)) (Za hg hgr) (fun hne0 hun0 hB0=>absurd rfl hne0) (fun j hj hne hl hcu hF => ?_) (hown)⟩
    · exact Yg (val:=adv w0.heap.size p b o c.data.length cd cc (c.data.length+t.length) pd (bs t) ((Zcq c.data).map (Value.int .u8)++(Zcq t).map (Value.int .u8)) pv2 cv92) (Yj hJ (Yvz hW.cl hun)) (by decide) (by decide) (Zja _ (by decide))
    · rcases Ytt j hj with rfl|rfl|rfl|rfl|rfl|rfl|rfl|rfl|rfl|rfl|rfl|rfl|rfl|rfl|rfl <;> first|exact True.intro|exact absurd rfl hne
  · have e25:a1.tmps.getD 25 undef = .pointer (some ⟨p,0,none⟩):=rjt hJ hi 0
    exact Zc (Zd hJ hW hi hun (hne:=Zja _ (by decide)) (hrun:=by simp [execOp,Act.eval,e25,go_sem,adv])) (fun a9 w9 h9=>⟨pv,cv9,h9⟩)
  · have e36:a1.tmps.getD 36 undef = .pointer (some ⟨p,0,none⟩):=rjt hJ hi 11
    exact Zc (Zd hJ hW hi hun (hne:=Zja _ (by decide)) (hrun:=by simp [execOp,Act.eval,e36,go_sem,adv])) (fun a9 w9 h9=>⟨pv,cv9,h9⟩)
  · have e37:a1.tmps.getD 37 undef = .pointer (some ⟨p,0,none⟩):=rjt hJ hi 12
    exact Zc (Zd hJ hW hi hun (hne:=Zja _ (by decide)) (hrun:=by simp [execOp,Act.eval,e37,go_sem,adv])) (fun a9 w9 h9=>⟨pv,cv9,h9⟩)
  · have e38:a1.tmps.getD 38 undef = .pointer (some ⟨p,1,none⟩):=rjt hJ hi 13
    have e35:a1.tmps.getD 35 undef = .slice pv (c.data.length+t.length) cv9:=rjt hJ hi 10
    have F10:=hW.f hns 10 (by decide) (Zq hi 10 (by kernel_rfl)) (Zat (by decide))
    have bx2:=hg.block p hlt HNE
    have k1:=hg.cell c1 HNE
    have j1:w'.frozen? ⟨p,1,none⟩=false:=(World.frozen?_of_block bx2).trans z1
    have lb2:=Nat.lt_of_lt_of_le hlt hg.size
    have hall:∀ j,j<15->j≠14->l.getD j false=true:=Jp hi hW.cl (by kernel_rfl)
    exact Zc (Jo (WS:=fun l9 w9=>Zas 14 15 10 [(2,1),(3,2),(4,3),(5,4),(7,6),(8,7),(9,8),(10,5),(10,9),(11,0),(12,11),(13,12),(14,13),(14,10)] [] (fun w9=>World.grownBy w.drew w9 vb) (fun w9=>w9.ownsRow w0.heap.size 5 1 (.slice pd c.data.length cd) c.data.length ((Zcq c.data).map (Value.int .u8))) (adF w0.heap.size p b o c.data.length cd cc (c.data.length+t.length) pd (bs t) ((Zcq c.data).map (Value.int .u8)++(Zcq t).map (Value.int .u8)) pv cv9) (fun w9=>∃ (w8:World),World.grownBy w.drew w8 vb/\w8.ownsRow w0.heap.size 5 1 (.slice pv (c.data.length+t.length) cv9) (c.data.length+t.length) ((Zcq c.data).map (Value.int .u8)++(Zcq t).map (Value.int .u8))/\w9=w8.setCell ⟨p,1,none⟩ (.slice pv (c.data.length+t.length) cv9)) l9 w9) hJ rfl rfl rfl (by decide) (by decide) (w':=w'.setCell ⟨p,1,none⟩ (.slice pv (c.data.length+t.length) cv9)) (by simp [execOp,Act.eval,e38,e35,k1,j1,lb2,go_sem]) (Xa hW (by decide) (by decide) hall (Zg _ hi (by kernel_rfl)) (⟨w',hg,F10,rfl⟩))) (fun a9 w9 h9=>⟨pv,cv9,h9⟩)
 case fin =>
  intro l a1 w9 hJJ hl
  obtain ⟨pv,cv9,hJ,hW⟩:=hJJ
  have hq:=hW.q (hl 14 (by decide))
  have hput:=Ys hJ rfl hl (fun i j h1 h2 h3=>Zja j h2 i h1 h3)
  subst hput
  clear hJ hW hl
  obtain ⟨w8,q1,q2,rfl⟩:=hq
  refine hK _ _ ?_
  simp only [Ja,ad,adv,Act.put,List.setIfInBounds_toArray,List.set_cons_zero,List.set_cons_succ]
  clear hK K
  have M:=Ygm A.out (t:=t) (by rw [Zof,List.map_append,List.length_append];exact q2) (by rw [hvb];exact q1)
  go_wp2
  go_ret
  exact ⟨⟨rfl,M.1⟩,Zz (Xg (Ze (Zb w none))) M.2,Zdg M.1⟩
theorem Zmi (w0 w:World) (p m:Nat) (c:CS) (x:Option Int) (ps:List Pc) (pp:Option Addr) (cc N:Nat) (h:PS w0 w p m c (Zgw x)) (hp:Zkh w pp ps) (hn:ps.length<=70000) (hN:∀ t,ps=[.str t]->t.length<=N) (hm:m+N<=1000000) :
 Calls Tryz.prog 78 #[.pointer (some ⟨p,0,none⟩),.slice pp ps.length cc] w (Yi w0 w p (m+N) (Zhx c x ps)):=by
 have HS:=Hq h
 by_cases hl:ps.length=1
 · obtain ⟨q,rfl⟩:∃ q,ps=[q]:=by
    cases ps with
    | nil=>simp at hl
    | cons a r=>cases r with|nil=>exact ⟨a,rfl⟩|cons b r=>simp at hl
   obtain ⟨b,o,rfl,hb,d0,d1,d2,d3⟩:=Jb hp (i:=0) (q:=q) rfl
   simp only [Nat.zero_mul,Nat.add_zero] at d0 d1 d2 d3
   by_cases hk:(pcK q == 2)=true
   · obtain ⟨t,rfl⟩:∃ t,q = .str t:=by cases q <;> simp [pcK] at hk;exact ⟨_,rfl⟩
     by_cases hf:0<c.funcs.length
     · have hD:Zhx c x [.str t]=none:=by simp [Zhx,hf]
       rw [hD]
       obtain ⟨vd,vF,vL,vB,bm,cv,lb,hA⟩:=h
       obtain ⟨pF,cF,hvF⟩:=Zan hA
       subst hvF
       have c2:w.cell? ⟨p,2,none⟩=some (.slice pF c.funcs.length cF):=Cq w p 2 _ _ _ hA.box
       have hlt:p<w.heap.size:=(Gs hA.box)
       have hfi:0<(c.funcs.length:Int):=by omega
       simp only [pcK] at d0
       clear hA hf hD hp
       go_enter Tryz.func78,Tryz.ntmps78
       go_wp2
       go_ret
       exact ⟨rfl,Zlm _,Zdg HS.out⟩
     · have hD:Zhx c x [.str t]=some ({ c with data:=c.data++t },x):=by simp [Zhx,hf]
       rw [hD]
       have ht:=hN t rfl
       refine (Yti w0 w p m c x t b o cc h hp (by omega) (by omega)).mono ?_
       rintro e w' ⟨⟨rfl,h1⟩,h2,h3⟩
       exact ⟨⟨rfl,Zkv h1 (by omega)⟩,h2,h3⟩
   · have hD:Zhx c x [q]=none:=by cases q <;> first|rfl|(simp [pcK] at hk)
     rw [hD]
     have hb2:(pcK q != 2)=true:=by simpa [bne] using hk
     generalize pcK q=v0 at *
     generalize bs (pcT q)=v1 at *
     generalize pcN q=v2 at *
     generalize pcF q=v3 at *
     clear hp hk h
     go_enter Tryz.func78,Tryz.ntmps78
     go_wp2
     go_ret
     exact ⟨rfl,Zlm _,Zdg HS.out⟩
 · have hD:Zhx c x ps=none:=by
    unfold Zhx
    split
    · simp at hl
    · rfl
   rw [hD]
   have hb:((ps.length:Int) != 1)=true:=by rw [bne_iff_ne];omega
   clear hl hp h
   go_enter Tryz.func78,Tryz.ntmps78
   go_wp2
   go_ret
   exact ⟨rfl,Zlm _,Zdg HS.out⟩
def Zlf (c:CS) (x:Option Int) (t:Txt):CS × Option Int :=
 let k:=c.funcs.length - 1
 let f:=c.lm.getD k fun _=>none
 if (f t).isSome then (c,amV x 142) else ({ c with lm:=c.lm.set k fun u=>if u=t then some ((c.funcs.getD k (0,0,0,[])).2.2.2.length:Int) else f u },x)
def Yuf (w0 w:World) (p m:Nat) (r:CS × Option Int) (e:Ending) (w':World):Prop:=e = .returned (.tuple #[])/\PS w0 w' p m r.1 (Zgw r.2)/\Fr w w'
theorem Yrm {w0 w w1:World} {p m k b:Nat} {c:CS} {pend vd vF vL vB:Value} {bm:Nat} {cv:List Value} {lb:List Nat} {f:Txt->Option Int} (h:Zjb w0 w p m c pend vd vF vL vB bm cv lb) (hb:lb[k]? = some b) (hm:∃ m' f',Zhs w b m' f')
 (ho:Zhs w1 b (m+1) f) (g:w.grownBy w1 (some b)):PS w0 w1 p (m+1) { c with lm:=c.lm.set k f } pend/\Fr w w1:=by
 obtain ⟨m',f',hm⟩:=hm
 have hk:k<c.lm.length:=by rw [<- h.ins.len1];exact (List.getElem?_eq_some_iff.1 hb).1
 have hE:=(h.ins.each k b _ hb (List.getElem?_eq_getElem hk)).2
 refine ⟨⟨vd,vF,vL,vB,bm,cv,lb,Zsv h.gr g hE,h.ge,Zf h.box g ?_,Yrj h.ins hb ho g,by show (c.lm.set k f).length=_;rw [List.length_set];exact h.lens⟩,Ypp hm g⟩
 intro e
 injection e with e
 exact Zfs hm h.box e
theorem Xy {w w':World} {a:Addr} {v:Value} (h:w.cell? a=some v) (e:w'=w.drew):w'.cell? a=some v:=by rw [e];exact h
def al:Nat->Nat
 | 0=>29
 | 1=>30
 | 2=>31
 | 3=>32
 | 4=>33
 | 5=>34
 | 6=>35
 | 7=>36
 | 8=>37
 | 9=>38
 | 10=>39
 | 11=>40
 | 12=>41
 | 13=>42
 | 14=>43
 | 15=>44
 | 16=>45
 | 17=>46
 | 18=>1018
 | _=>5000
theorem Zfz:∀ i,i<19->∀ j,j<19->j≠i->al j≠al i:=by decide
theorem Yxo (i:Nat) (h:i<19):i=0\/i=1\/i=2\/i=3\/i=4\/i=5\/i=6\/i=7\/i=8\/i=9\/i=10\/i=11\/i=12\/i=13\/i=14\/i=15\/i=16\/i=17\/i=18:=by omega
theorem Zvv (j:Nat) (hj:j∈[0,1,4]):∀ i,i<19->al i≠j:=by revert j;decide
def alv (p b k gL cL gF cF lc cc:Nat) (pc:Option Addr) (tx:ByteArray):Nat->Value
 | 0 => .pointer (some ⟨p,0,none⟩)
 | 1 => .pointer (some ⟨p,0,none⟩)
 | 2 => .pointer (some ⟨p,5,none⟩)
 | 3 => .slice (some ⟨gL,0,none⟩) (k+1) cL
 | 4 => .int .i64 (k:Int)
 | 5 => .pointer (some ⟨gL,k,none⟩)
 | 6 => .map (some b)
 | 7 => .string tx
 | 8 => .pointer (some ⟨p,0,none⟩)
 | 9 => .pointer (some ⟨p,0,none⟩)
 | 10 => .pointer (some ⟨p,0,none⟩)
 | 11 => .pointer (some ⟨p,2,none⟩)
 | 12 => .slice (some ⟨gF,0,none⟩) (k+1) cF
 | 13 => .int .i64 (k:Int)
 | 14 => .pointer (some ⟨gF,k*4,none⟩)
 | 15 => .pointer (some ⟨gF,k*4+3,none⟩)
 | 16 => .slice pc lc cc
 | 17 => .int .i64 lc
 | 18=>undef
 | _=>undef
def alF (p b k gL cL gF cF lc cc:Nat) (pc:Option Addr) (tx:ByteArray)  : Nat->World->Prop
 | _=>fun _=>True
theorem Yhp (w0 w:World) (p m:Nat) (c:CS) (x:Option Int) (t:Txt) (h:PS w0 w p m c (Zgw x)) (hf:0<c.funcs.length) (ht:t.length<=1000000) (hm:m+1<=1000000) :
 Calls Tryz.prog 76 #[.pointer (some ⟨p,0,none⟩),.string (bs t)] w (Yuf w0 w p (m+1) (Zlf c x t)):=by
 have HS:=Hq h
 have AM:=Hq (Zpg w0 w p m c x 142 h)
 obtain ⟨vd,vF,vL,vB,bm,cv,lb,hA⟩:=h
 obtain ⟨k,hk⟩:∃ k,c.funcs.length=k+1:=⟨c.funcs.length - 1,by omega⟩
 have A:=Hq (Xp hA (Ze (Zb w none)))
 have hlb:k<lb.length:=by rw [hA.ins.len1,hA.lens];omega
 have hlm:k<c.lm.length:=by rw [hA.lens];omega
 obtain ⟨b,hb⟩:∃ b,lb[k]? = some b:=⟨_,List.getElem?_eq_getElem hlb⟩
 obtain ⟨f,hfk⟩:∃ f,c.lm[k]? = some f:=⟨_,List.getElem?_eq_getElem hlm⟩
 obtain ⟨hM,hME⟩:=hA.ins.each k b f hb hfk
 obtain ⟨⟨fa,fl,fr,fc⟩,hfu⟩:∃ x,c.funcs[k]? = some x:=⟨_,List.getElem?_eq_getElem (by omega)⟩
 obtain ⟨vc,hvc⟩:∃ v,cv[k]? = some v:=⟨_,List.getElem?_eq_getElem (by rw [hA.ins.own.cl];omega)⟩
 obtain ⟨pc,cc,hpc⟩:=Zi (hA.ins.own.each k _ vc hfu hvc)
 simp only [] at hpc
 subst hpc
 obtain ⟨gF,cF,hvF,hgF,hcF⟩:=Zv hA.ins.own.fr (by omega)
 obtain ⟨gL,cL,hvL,hgL,hcL⟩:=Zv hA.ins.lrow (by omega)
 obtain ⟨q0,q1,q2,q3⟩:=Zad c.funcs cv k _ _ hfu hvc
 have d3:=hcF _ _ q3 (by omega)
 have e0:=hcL k (.map (some b)) (by rw [List.getElem?_map,hb];rfl) (by omega)
 rw [hk] at hvF
 have hlen:lb.length=k+1:=by rw [hA.ins.len1,hA.lens,hk]
 rw [hlen] at hvL
 subst hvF;subst hvL
 have c2:w.cell? ⟨p,2,none⟩=some (.slice (some ⟨gF,0,none⟩) (k+1) cF):=Cq w p 2 _ _ _ hA.box
 have c5:w.cell? ⟨p,5,none⟩=some (.slice (some ⟨gL,0,none⟩) (k+1) cL):=Cq w p 5 _ _ _ hA.box
 have hlt:p<w.heap.size:=(Gs hA.box)
 have hok:=Zsm hM t ht
 have hz2:=hA.ins.z3 _ (List.mem_of_getElem? hfu)
 have MM:=Hq hM
 have HL:c.lm.getD k (fun _=>none)=f:=by rw [List.getD_eq_getElem?_getD,hfk];rfl
 have HC:c.funcs.getD k (0,0,0,[])=(fa,fl,fr,fc):=by rw [List.getD_eq_getElem?_getD,hfu];rfl
 have hki:(k:Int)<=1000000:=by have:=hA.ins.z2;omega
 simp only [] at hz2
 cases hs:(f t).isSome with
 | true =>
   have HR:=Hq (show Zlf c x t=(c,amV x 142) by unfold Zlf;simp only [hk,Nat.add_sub_cancel,HL,hs,if_true])
   rw [hs] at hok
   clear hA hM hb hfk hfu hvc hcF hcL q0 q1 q2 q3 HL HC
   go_enter Tryz.func76,Tryz.ntmps76
   go_wp2_with (go_at_call 112;refine AM.out.mono ?_;rintro e w2 ⟨rfl,hps,hg⟩;have S2:=Hq hps;have G2:=Hq hg;clear hps hg)
   go_end0
   rw [HR.out]
   exact ⟨rfl,Zkv S2.out (by omega),Zea HS.out G2.out⟩
 | false =>
   have HR:=Hq (show Zlf c x t=({ c with lm:=c.lm.set k fun u=>if u=t then some (fc.length:Int) else f u },x) by unfold Zlf;simp only [hk,Nat.add_sub_cancel,HL,HC,hs];rfl)
   have HB:=Hq hb
   rw [hs] at hok
   clear hA hM hb hfk hfu hvc hcF hcL q0 q1 q2 q3 HL HC
   go_enter Tryz.func76,Tryz.ntmps76
   go_upto_region 4 with fail
   refine Yd (n:=19) (J:=fun a0 l a1 w1=>RJ a0 47 19 al (alv p b k gL cL gF cF fc.length cc pc (bs t) ) l a1/\Zas 18 19 0 [(1,0),(2,1),(3,2),(5,3),(5,4),(6,5),(9,8),(10,9),(11,10),(12,11),(14,12),(14,13),(15,14),(16,15),(17,16),(18,6),(18,7),(18,17)] [] (fun w9=>w9=w.drew) (fun _=>True) (alF p b k gL cL gF cF fc.length cc pc (bs t) ) (fun w9=>Zhs w9 b (m+1) (fun u=>if u=t then some (fc.length:Int) else f u)/\World.grownBy w.drew w9 (some b)) l w1) (by kernel_rfl) rfl (Yt (by kernel_rfl)) (fun l a1 w1 h=>by obtain ⟨h,_⟩:=h;exact h.sz) ⟨Yc rfl,Zu (rfl) (True.intro)⟩ ?step ?fin
   case step =>
    intro l a1 w' i hJJ hi hin
    obtain ⟨hJ,hW⟩:=hJJ
    have hun:l.getD i false=false:=getD_both (mem_ready.1 hi).1
    have hns:=Xe hW hin hun
    have hg:=hW.g hns
    have l0:p<w'.heap.size:=by rw [hg];exact hlt
    have l1:gL<w'.heap.size:=by rw [hg];exact hgL
    have l2:gF<w'.heap.size:=by rw [hg];exact hgF
    rcases Yxo i hin with rfl|rfl|rfl|rfl|rfl|rfl|rfl|rfl|rfl|rfl|rfl|rfl|rfl|rfl|rfl|rfl|rfl|rfl|rfl
    · have e0:a1.tmps.getD 0 undef = .pointer (some ⟨p,0,none⟩):=hJ.un 0 (fun i hi _=>Zvv 0 (by decide) i hi)
      exact Zd hJ hW hi hun (hne:=Zfz _ (by decide)) (hrun:=by simp [execOp,Act.eval,e0,go_sem,alv])
    · have e29:a1.tmps.getD 29 undef = .pointer (some ⟨p,0,none⟩):=rjt hJ hi 0
      exact Zd hJ hW hi hun (hne:=Zfz _ (by decide)) (hrun:=by simp [execOp,Act.eval,e29,go_sem,alv])
    · have e30:a1.tmps.getD 30 undef = .pointer (some ⟨p,0,none⟩):=rjt hJ hi 1
      exact Zd hJ hW hi hun (hne:=Zfz _ (by decide)) (hrun:=by simp [execOp,Act.eval,e30,go_sem,alv])
    · have e31:a1.tmps.getD 31 undef = .pointer (some ⟨p,5,none⟩):=rjt hJ hi 2
      have h0:=Xy c5 hg
      exact Zd hJ hW hi hun (hne:=Zfz _ (by decide)) (hrun:=by simp [execOp,Act.eval,e31,h0,l0,l1,l2,go_sem,alv])
    · have e4:a1.tmps.getD 4 undef = .int .i64 (k:Int):=hJ.un 4 (fun i hi _=>Zvv 4 (by decide) i hi)
      exact Zd hJ hW hi hun (hne:=Zfz _ (by decide)) (hrun:=by simp [execOp,Act.eval,e4,l0,l1,l2,go_sem,alv])
    · have e32:a1.tmps.getD 32 undef = .slice (some ⟨gL,0,none⟩) (k+1) cL:=rjt hJ hi 3
      have e33:a1.tmps.getD 33 undef = .int .i64 (k:Int):=rjt hJ hi 4
      exact Zd hJ hW hi hun (hne:=Zfz _ (by decide)) (hrun:=by simp [execOp,Act.eval,e32,e33,l0,l1,l2,go_sem,alv] <;> (intros;omega))
    · have e34:a1.tmps.getD 34 undef = .pointer (some ⟨gL,k,none⟩):=rjt hJ hi 5
      have h0:=Xy e0 hg
      exact Zd hJ hW hi hun (hne:=Zfz _ (by decide)) (hrun:=by simp [execOp,Act.eval,e34,h0,l0,l1,l2,go_sem,alv])
    · have e1:a1.tmps.getD 1 undef = .string (bs t):=hJ.un 1 (fun i hi _=>Zvv 1 (by decide) i hi)
      exact Zd hJ hW hi hun (hne:=Zfz _ (by decide)) (hrun:=by simp [execOp,Act.eval,e1,l0,l1,l2,go_sem,alv])
    · have e0:a1.tmps.getD 0 undef = .pointer (some ⟨p,0,none⟩):=hJ.un 0 (fun i hi _=>Zvv 0 (by decide) i hi)
      exact Zd hJ hW hi hun (hne:=Zfz _ (by decide)) (hrun:=by simp [execOp,Act.eval,e0,go_sem,alv])
    · have e37:a1.tmps.getD 37 undef = .pointer (some ⟨p,0,none⟩):=rjt hJ hi 8
      exact Zd hJ hW hi hun (hne:=Zfz _ (by decide)) (hrun:=by simp [execOp,Act.eval,e37,go_sem,alv])
    · have e38:a1.tmps.getD 38 undef = .pointer (some ⟨p,0,none⟩):=rjt hJ hi 9
      exact Zd hJ hW hi hun (hne:=Zfz _ (by decide)) (hrun:=by simp [execOp,Act.eval,e38,go_sem,alv])
    · have e39:a1.tmps.getD 39 undef = .pointer (some ⟨p,0,none⟩):=rjt hJ hi 10
      exact Zd hJ hW hi hun (hne:=Zfz _ (by decide)) (hrun:=by simp [execOp,Act.eval,e39,go_sem,alv])
    · have e40:a1.tmps.getD 40 undef = .pointer (some ⟨p,2,none⟩):=rjt hJ hi 11
      have h0:=Xy c2 hg
      exact Zd hJ hW hi hun (hne:=Zfz _ (by decide)) (hrun:=by simp [execOp,Act.eval,e40,h0,l0,l1,l2,go_sem,alv])
    · have e4:a1.tmps.getD 4 undef = .int .i64 (k:Int):=hJ.un 4 (fun i hi _=>Zvv 4 (by decide) i hi)
      exact Zd hJ hW hi hun (hne:=Zfz _ (by decide)) (hrun:=by simp [execOp,Act.eval,e4,l0,l1,l2,go_sem,alv])
    · have e41:a1.tmps.getD 41 undef = .slice (some ⟨gF,0,none⟩) (k+1) cF:=rjt hJ hi 12
      have e42:a1.tmps.getD 42 undef = .int .i64 (k:Int):=rjt hJ hi 13
      exact Zd hJ hW hi hun (hne:=Zfz _ (by decide)) (hrun:=by simp [execOp,Act.eval,e41,e42,l0,l1,l2,go_sem,alv] <;> (intros;omega))
    · have e43:a1.tmps.getD 43 undef = .pointer (some ⟨gF,k*4,none⟩):=rjt hJ hi 14
      exact Zd hJ hW hi hun (hne:=Zfz _ (by decide)) (hrun:=by simp [execOp,Act.eval,e43,go_sem,alv])
    · have e44:a1.tmps.getD 44 undef = .pointer (some ⟨gF,k*4+3,none⟩):=rjt hJ hi 15
      have h0:=Xy d3 hg
      exact Zd hJ hW hi hun (hne:=Zfz _ (by decide)) (hrun:=by simp [execOp,Act.eval,e44,h0,l0,l1,l2,go_sem,alv])
    · have e45:a1.tmps.getD 45 undef = .slice pc fc.length cc:=rjt hJ hi 16
      exact Zd hJ hW hi hun (hne:=Zfz _ (by decide)) (hrun:=by simp [execOp,resolve,invoke,builtin,Act.eval,e45,l0,l1,l2,go_sem,alv])
    · have e35:a1.tmps.getD 35 undef = .map (some b):=rjt hJ hi 6
      have e36:a1.tmps.getD 36 undef = .string (bs t):=rjt hJ hi 7
      have e46:a1.tmps.getD 46 undef = .int .i64 (fc.length:Int):=rjt hJ hi 17
      obtain ⟨w8,hmu,hM8,hg8⟩:=Zsl (w:=w') (by rw [hg];exact Yu MM.out (Ze (Zb w none)) (by simp)) (by omega) t ht (fc.length:Int) (by omega)
      rw [hg] at hg8
      have hall:∀ j,j<19->j≠18->l.getD j false=true:=Jp hi hW.cl (by kernel_rfl)
      exact Jo (WS:=fun l9 w9=>Zas 18 19 0 [(1,0),(2,1),(3,2),(5,3),(5,4),(6,5),(9,8),(10,9),(11,10),(12,11),(14,12),(14,13),(15,14),(16,15),(17,16),(18,6),(18,7),(18,17)] [] (fun w9=>w9=w.drew) (fun _=>True) (alF p b k gL cL gF cF fc.length cc pc (bs t) ) (fun w9=>Zhs w9 b (m+1) (fun u=>if u=t then some (fc.length:Int) else f u)/\World.grownBy w.drew w9 (some b)) l9 w9) hJ rfl rfl rfl (by decide) (by decide) (w':=w8) (by simp [execOp,Act.eval,e35,e36,e46,hmu,go_sem]) (Xa hW (by decide) (by decide) hall (Zg _ hi (by kernel_rfl)) (⟨hM8,hg8⟩))
   case fin =>
    intro l a1 w9 hJJ hl
    obtain ⟨hJ,hW⟩:=hJJ
    have hq:=hW.q (hl 18 (by decide))
    have hput:=Ys hJ rfl hl (fun i j h1 h2 h3=>Zfz j h2 i h1 h3)
    subst hput
    clear hJ hW hl
    obtain ⟨q1,q2⟩:=hq
    simp only [Ja,al,alv,Act.put,List.setIfInBounds_toArray,List.set_cons_zero,List.set_cons_succ]
    have M:=Yrm A.out HB.out ⟨_,_,MM.out⟩ q1 q2
    go_wp2
    go_end0
    rw [HR.out]
    exact ⟨rfl,M.1,Zz (Xg (Ze (Zb w none))) M.2⟩
theorem Zyd (w:World) (a l r:Int):(Instr.buildSlice 24 1 #[(0,.agg #[.int .i64 a,.int .i64 l,.int .i64 r,.slice none 0 0])]).run Tryz.prog w = .ok (.slice (some ⟨w.heap.size,0,none⟩) 1 1) (w.alloc (.cells #[.int .i64 a,.int .i64 l,.int .i64 r,.slice none 0 0] 61)):=by kernel_rfl
theorem Ypo (w:World) (a l r:Int) (s:ByteArray) (b:Bool):(Instr.buildSlice 68 1 #[(0,.agg #[.int .i64 a,.int .i64 l,.int .i64 r,.string s,.bool b])]).run Tryz.prog w = .ok (.slice (some ⟨w.heap.size,0,none⟩) 1 1) (w.alloc (.cells #[.int .i64 a,.int .i64 l,.int .i64 r,.string s,.bool b] 131)):=by kernel_rfl
theorem Yij (w:World) (a l:Int):(Instr.buildSlice 59 1 #[(0,.agg #[.int .i64 a,.int .i64 l])]).run Tryz.prog w = .ok (.slice (some ⟨w.heap.size,0,none⟩) 1 1) (w.alloc (.cells #[.int .i64 a,.int .i64 l] 58)):=by kernel_rfl
theorem Yad:Tryz.prog.underlying 67=some (.slice 66):=by kernel_rfl
theorem Zuk:(Tryz.prog.info? 66).map (fun i=>(i.zero,i.size,i.bytes))=some (some (.map none),1,8):=by kernel_rfl
theorem Zsw:Tryz.prog.underlying 24=some (.slice 61):=by kernel_rfl
theorem Zor:(Tryz.prog.info? 61).map (fun i=>(i.zero,i.size,i.bytes))=some (some (.agg #[.int .i64 0,.int .i64 0,.int .i64 0,.slice none 0 0]),4,48):=by kernel_rfl
theorem Zvt:Tryz.prog.underlying 68=some (.slice 131):=by kernel_rfl
theorem Ydr:(Tryz.prog.info? 131).map (fun i=>(i.zero,i.size,i.bytes))=some (some (.agg #[.int .i64 0,.int .i64 0,.int .i64 0,.string ⟨#[]⟩,.bool false]),5,48):=by kernel_rfl
theorem Zoh:Tryz.prog.underlying 59=some (.slice 58):=by kernel_rfl
theorem Zlg:(Tryz.prog.info? 58).map (fun i=>(i.zero,i.size,i.bytes))=some (some (.agg #[.int .i64 0,.int .i64 0]),2,16):=by kernel_rfl
theorem Zbj {w:World} {e:Nat} {cs:List Value} {t:TypeId} (h:w.heap[e]? = some (.cells cs.toArray t (0,0))):∀ j u,cs[j]? = some u->w.cell? ((⟨e,0,none⟩:Addr).add j)=some u:=fun j u hj=>by
 have e1:((⟨e,0,none⟩:Addr).add j)=⟨e,j,none⟩:=by
  unfold Addr.add
  by_cases h0:j=0 <;> simp [h0]
 rw [e1]
 simp [World.cell?,h,hj]
theorem Yxb (a b c:Int) (p:Option Addr) (n k:Nat):∀ u∈[Value.int .i64 a,.int .i64 b,.int .i64 c,.slice p n k],u.oneCell'=true:=by
 intro u hu
 simp only [List.mem_cons,List.not_mem_nil,or_false] at hu
 rcases hu with rfl|rfl|rfl|rfl <;> rfl
theorem Zln:∀ (fs:List FnP) (cv:List Value) (f:FnP) (v:Value),cv.length=fs.length->Yv (fs++[f]) (cv++[v])=Yv fs cv++[.int .i64 f.1,.int .i64 f.2.1,.int .i64 f.2.2.1,v]
 | [],[],f,v,_=>rfl
 | [],_::_,f,v,h=>by simp at h
 | _::_,[],f,v,h=>by simp at h
 | g::r,u::s,f,v,h=>by
   have:=Zln r s f v (by simpa using h)
   simp only [List.cons_append,Yv,this]
theorem Yrk {w w':World} {E:Nat} {c:CS} {vd vF vF' vL vB:Value} {bm:Nat} {cv:List Value} {lb:List Nat} {m:Nat} {a l r:Int} (h:Zmz w E c vd vF vL vB bm cv lb m)
 (ho:w'.ownsRow E 61 4 vF' (c.funcs.length+1) (Yv c.funcs cv++[.int .i64 a,.int .i64 l,.int .i64 r,.slice none 0 0])) (g:w.grownBy w' vF.ownBlock) :
 Zmz w' E { c with funcs:=c.funcs++[(a,l,r,[])] } vd vF' vL vB bm (cv++[.slice none 0 0]) lb (m+1):=by
 have hd:=h.own.fr
 have hcl:=h.own.cl
 have new:∀ {α:Type} (l:List α) (x y:α) (k:Nat),(l++[x])[k]? = some y->(k<l.length/\l[k]? = some y)\/(k=l.length/\y=x):=fun l x y k hy=>by
  by_cases e:k<l.length
  · rw [List.getElem?_append_left e] at hy;exact Or.inl ⟨e,hy⟩
  · have hk:=(List.getElem?_eq_some_iff.1 hy).1
    simp at hk
    have:k=l.length:=by omega
    subst this
    rw [List.getElem?_append_right (Nat.le_refl _),Nat.sub_self] at hy
    simp at hy
    exact Or.inr ⟨rfl,hy.symm⟩
 refine ⟨⟨h.own.dt.kept g (Zh h.own.dt hd (by decide)),?_,by simp [hcl],fun k f v hf hv => ?_,fun i j v v' b hij hi hj hb => ?_⟩,
  Zac (Yu h.fm g (Xf h.fm hd)) (by omega),h.fmE,h.lrow.kept g (Zh h.lrow hd (by decide)),h.len1,fun i b f hb hf=>⟨Zac (Yu (h.each i b f hb hf).1 g (Xf (h.each i b f hb hf).1 hd)) (by omega),(h.each i b f hb hf).2⟩,h.dis,h.apart,
  h.brow.kept g (Zh h.brow hd (by decide)),by have:=h.z1;show c.data.length<=_;omega,by have:=h.z2;simp;omega,fun f hf => ?_,by have:=h.z4;show c.blk.length<=_;omega⟩
 · show w'.ownsRow E 61 4 vF' (c.funcs++[(a,l,r,[])]).length (Yv (c.funcs++[(a,l,r,[])]) (cv++[.slice none 0 0]))
   rw [Zln _ _ _ _ hcl,List.length_append]
   exact ho
 · rcases new _ _ _ _ hv with ⟨h1,h2⟩|⟨h1,h2⟩
   · rcases new _ _ _ _ hf with ⟨h3,h4⟩|⟨h3,h4⟩
     · exact (h.own.each k f v h4 h2).kept g (Zh (h.own.each k f v h4 h2) hd (by decide))
     · omega
   · rcases new _ _ _ _ hf with ⟨h3,h4⟩|⟨h3,h4⟩
     · omega
     · subst h4;subst h2
       exact World.ownsRow_nil _ _ _ _
 · rcases new _ _ _ _ hi with ⟨h1,h2⟩|⟨h1,h2⟩
   · rcases new _ _ _ _ hj with ⟨h3,h4⟩|⟨h3,h4⟩
     · exact h.own.dis i j v v' b hij h2 h4 hb
     · subst h4;simp [Value.ownBlock]
   · subst h2;simp [Value.ownBlock] at hb
 · rcases List.mem_append.1 hf with hf|hf
   · have:=h.z3 f hf;omega
   · simp at hf;subst hf;simp
theorem Ylv {w w1 w':World} {E:Nat} {c:CS} {vd vF vL vL' vB:Value} {bm:Nat} {cv:List Value} {lb:List Nat} {m:Nat} (h:Zmz w E c vd vF vL vB bm cv lb m) (hE:E<=w.heap.size)
 (g1:(w.alloc (.map #[] 0)).grownBy w1 none) (ho:w'.ownsRow E 66 1 vL' (lb.length+1) (lb.map (fun b=>Value.map (some b))++[.map (some w.heap.size)])) (g:w1.grownBy w' vL.ownBlock) :
 Zmz w' E { c with lm:=c.lm++[fun _=>none] } vd vF vL' vB bm cv (lb++[w.heap.size]) m:=by
 have h1:=Zns h (Za (Ga w (.map #[] 0) none) g1)
 have hd:=h1.lrow
 have hM:=Yu (Zul w) g1 (by simp)
 have new:∀ {α:Type} (l:List α) (x y:α) (k:Nat),(l++[x])[k]? = some y->(k<l.length/\l[k]? = some y)\/(k=l.length/\y=x):=fun l x y k hy=>by
  by_cases e:k<l.length
  · rw [List.getElem?_append_left e] at hy;exact Or.inl ⟨e,hy⟩
  · have hk:=(List.getElem?_eq_some_iff.1 hy).1
    simp at hk
    have:k=l.length:=by omega
    subst this
    rw [List.getElem?_append_right (Nat.le_refl _),Nat.sub_self] at hy
    simp at hy
    exact Or.inr ⟨rfl,hy.symm⟩
 have low:∀ (i:Nat) (b:Nat),lb[i]? = some b->b<w.heap.size:=fun i b hb=>by
  have hi:i<c.lm.length:=by rw [<- h.len1];exact (List.getElem?_eq_some_iff.1 hb).1
  exact Yhi (h.each i b _ hb (List.getElem?_eq_getElem hi)).1
 refine ⟨Xj h1.own g (fun t sz v n xs ho ht=>Zh ho hd (by rcases ht with h|h|h <;> subst h <;> decide)),Yu h1.fm g (Xf h1.fm hd),h.fmE,by rw [List.map_append,List.length_append];exact ho,by simp [h.len1],fun i b f hb hf => ?_,fun i j b hi hj => ?_,?_,
  h1.brow.kept g (Zh h1.brow hd (by decide)),h.z1,h.z2,h.z3,h.z4⟩
 · rcases new _ _ _ _ hb with ⟨q1,q2⟩|⟨q1,q2⟩
   · rcases new _ _ _ _ hf with ⟨q3,q4⟩|⟨q3,q4⟩
     · obtain ⟨a1,a2⟩:=h1.each i b f q2 q4
       exact ⟨Yu a1 g (Xf a1 hd),a2⟩
     · have:=h.len1;omega
   · rcases new _ _ _ _ hf with ⟨q3,q4⟩|⟨q3,q4⟩
     · have:=h.len1;omega
     · subst q2;subst q4
       exact ⟨Zac (Yu hM g (Xf hM hd)) (Nat.zero_le _),hE⟩
 · rcases new _ _ _ _ hi with ⟨q1,q2⟩|⟨q1,q2⟩
   · rcases new _ _ _ _ hj with ⟨q3,q4⟩|⟨q3,q4⟩
     · exact h.dis i j b q2 q4
     · have:=low _ _ q2;omega
   · rcases new _ _ _ _ hj with ⟨q3,q4⟩|⟨q3,q4⟩
     · have:=low _ _ q4;omega
     · omega
 · intro hmem
   rcases List.mem_append.1 hmem with q|q
   · exact h.apart q
   · simp at q
     have:=Yhi h.fm
     omega
theorem Ygl {w0 w w1:World} {p m:Nat} {c:CS} {pend vd vF vL vB:Value} {bm:Nat} {cv:List Value} {lb:List Nat} {f:Txt->Option Int} (h:Zjb w0 w p m c pend vd vF vL vB bm cv lb) (ho:Zhs w1 bm (m+1) f) (g:w.grownBy w1 (some bm)) :
 Zjb w0 w1 p (m+1) { c with fm:=f } pend vd vF vL vB bm cv lb/\Fr w w1:=by
 have hm:=h.ins.fm
 refine ⟨⟨Zsv h.gr g h.ins.fmE,h.ge,Zf h.box g ?_,Yrl h.ins ho g,h.lens⟩,Ypp hm g⟩
 intro e
 injection e with e
 exact Zfs hm h.box e
structure Yty (w0 w:World) (p m:Nat) (c:CS) (pend:Value) (vd vF vL vB:Value) (bm:Nat) (cv:List Value) (lb:List Nat):Prop where
 gr:w0.grownBy w none
 ge:w0.heap.size<=p
 box:w.heap[p]? = some (.cells #[.int .i64 c.mem,vd,vF,.bool c.ms,.map (some bm),vL,vB,pend] 70 (0,0))
 ins:Zmz w w0.heap.size c vd vF vL vB bm cv lb m
 lens:c.lm.length+1=c.funcs.length
theorem Zzr {w0 w w1:World} {p m:Nat} {c:CS} {pend vd vF vF' vL vB:Value} {bm:Nat} {cv:List Value} {lb:List Nat} {a l r:Int} (h:Zjb w0 w p m c pend vd vF vL vB bm cv lb)
 (ho:w1.ownsRow w0.heap.size 61 4 vF' (c.funcs.length+1) (Yv c.funcs cv++[.int .i64 a,.int .i64 l,.int .i64 r,.slice none 0 0])) (g:w.grownBy w1 vF.ownBlock) :
 Yty w0 (w1.setCell ⟨p,2,none⟩ vF') p (m+1) { c with funcs:=c.funcs++[(a,l,r,[])] } pend vd vF' vL vB bm (cv++[.slice none 0 0]) lb/\Fr w (w1.setCell ⟨p,2,none⟩ vF'):=by
 have hd:=h.ins.own.fr
 have hI:=Yrk h.ins ho g
 have hb:=Zf h.box g (Zn hd h.box (by decide))
 have gs:=Zm w1 p 2 vF'
 refine ⟨⟨?_,h.ge,by rw [Zj hb];rfl,Zfq hI hb gs,by show c.lm.length+1=(c.funcs++[_]).length;rw [h.lens,List.length_append];rfl⟩,Zz (Zos hd (by decide) g) (Zot hb (by decide) gs)⟩
 exact Zy (Yf h.gr g (fun k hk=>(World.ownsRow.lt hd k hk).1)) h.ge
theorem Zua {w0 w w1 w2:World} {p m:Nat} {c:CS} {pend vd vF vL vL' vB:Value} {bm:Nat} {cv:List Value} {lb:List Nat} (h:Yty w0 w p m c pend vd vF vL vB bm cv lb)
 (g1:(w.alloc (.map #[] 0)).grownBy w1 none) (ho:w2.ownsRow w0.heap.size 66 1 vL' (lb.length+1) (lb.map (fun b=>Value.map (some b))++[.map (some w.heap.size)])) (g:w1.grownBy w2 vL.ownBlock) :
 PS w0 (w2.setCell ⟨p,5,none⟩ vL') p m { c with lm:=c.lm++[fun _=>none] } pend/\Fr w (w2.setCell ⟨p,5,none⟩ vL'):=by
 have hd:=h.ins.lrow
 have hI:=Ylv h.ins h.gr.size g1 ho g
 have ga:=Za (Ga w (.map #[] 0) none) g1
 have hb1:=Zf h.box ga (by simp)
 have hd1:=hd.kept ga (Yw hd)
 have hb:=Zf hb1 g (Zn hd1 hb1 (by decide))
 have gs:=Zm w2 p 5 vL'
 refine ⟨⟨vd,vF,vL',vB,bm,cv,_,?_,h.ge,by rw [Zj hb];rfl,Zfq hI hb gs,by show (c.lm++[_]).length=_;rw [List.length_append];exact h.lens⟩,Zz (Zz (Xg ga) (Zos hd1 (by decide) g)) (Zot hb (by decide) gs)⟩
 exact Zy (Yf (Za h.gr ga) g (fun k hk=>(World.ownsRow.lt hd1 k hk).1)) h.ge
theorem Zqj {w0 w w1 w2:World} {p m:Nat} {c:CS} {pend vd vF vL vB:Value} {bm:Nat} {cv:List Value} {lb:List Nat} (h:Yty w0 w p m c pend vd vF vL vB bm cv lb)
 (g1:w.grownBy w1 none) (g:w1.grownBy w2 vL.ownBlock) :
 w2.cell? ⟨p,5,none⟩=some vL/\w2.frozen? ⟨p,5,none⟩=false/\p<w2.heap.size:=by
 have hb1:=Zf h.box g1 (by simp)
 have hd1:=h.ins.lrow.kept g1 (Yw h.ins.lrow)
 have hb:=Zf hb1 g (Zn hd1 hb1 (by decide))
 exact ⟨Cq w2 p 5 _ _ _ hb,frozen_of_row w2 p 5 _ _ hb,(Gs hb)⟩
end Go.Proofs.YteciblfmgdlipaaGreatDoor.AS
namespace Go.Proofs.YteciblfmgdlipaaGreatDoor.CK
open Go.RowKit Go.Great
def Ype (id:Nat):Code->Option Code
 | .region i o d=>if i=id then some (.region i o d) else none
 | .seq a b=>match Ype id a with
   | some c=>some c
   | none=>Ype id b
 | .block _ c=>Ype id c
 | .scope c=>Ype id c
 | .loop c=>Ype id c
 | .cond _ a b=>match Ype id a with
   | some c=>some c
   | none=>Ype id b
 | _=>none
def Zrz (id:Nat):Code->Option Code
 | .seq (.region i o d) b=>if i=id then some b else Zrz id b
 | .seq a b=>match Zrz id a with
   | some c=>some c
   | none=>Zrz id b
 | .block _ c=>Zrz id c
 | .scope c=>Zrz id c
 | .loop c=>Zrz id c
 | .cond _ a b=>match Zrz id a with
   | some c=>some c
   | none=>Zrz id b
 | _=>none
noncomputable def Zml (f:Func) (id:Nat):Code:=(f.body.bind (Ype id)).getD .skip
noncomputable def Zgc (f:Func) (id:Nat):Code:=(f.body.bind (Zrz id)).getD .skip
end Go.Proofs.YteciblfmgdlipaaGreatDoor.CK
namespace Go.Proofs.YteciblfmgdlipaaGreatDoor.AS
open Go.RowKit Go.Great CK
def Zir (n:Nat):Int:=((shapeT[n]?).map fun r=>r.2.1).getD 0
def Zjq (c:CS) (i:Int × Int):CS :=
 let k:=c.funcs.length - 1
 let f:=c.funcs.getD k (0,0,0,[])
 { c with funcs:=c.funcs.set k (f.1,f.2.1,f.2.2.1,f.2.2.2++[i]) }
def Ybd (c:CS) (line:Int) (s:Txt) (b:Bool):CS :=
 let k:=c.funcs.length - 1
 { c with blk:=c.blk++[⟨line,k,((c.funcs.getD k (0,0,0,[])).2.2.2.length:Int),s,b⟩] }
def Zje (line:Int) (c:CS) (x:Option Int) (n:Nat) (kd:Int) (rest:List Pc):Option (CS × Option Int) :=
 if kd=0 then (match rest with|[]=>some (Zjq c (n,0),x)|_=>none)
 else match rest with
 | [.num v big]=>some (Zjq c (n,v),if big then amV x 143 else x)
 | [.word s] =>
   if kd=3\/kd=4 then some (Zjq (Ybd c line s (kd == 4)) (n,0),x)
   else if kd=5 then (match Xb callT s with|none=>none|some j=>some (Zjq c (n,j),x))
   else none
 | _=>none
def Zli (line:Int) (c:CS) (x:Option Int) (ps:List Pc):Option (CS × Option Int) :=
 match ps with
 | .word t::rest=>match Xb shapeT t with
   | none=>none
   | some n=>if c.funcs.length=0 then none else Zje line c x n (Zir n) rest
 | _=>none
theorem Zzx {w w1:World} {E:Nat} {D:Value} {g cF:Nat} {dl:List Int} {fs:List FnP} {cv:List Value} {i:Nat} {f f':FnP} {v v':Value} (h:Ztd w E D (.slice (some ⟨g,0,none⟩) fs.length cF) dl fs cv) (hf:fs[i]? = some f) (hv:cv[i]? = some v) (he:f.1=f'.1/\f.2.1=f'.2.1/\f.2.2.1=f'.2.2.1)
 (ho:w1.ownsRow E 58 2 v' f'.2.2.2.length (Xh f'.2.2.2)) (gr:w.grownBy w1 v.ownBlock) (hd:v'.ownBlock=v.ownBlock\/∀ b,v'.ownBlock=some b->w.heap.size<=b) :
 Ztd (w1.setCell ⟨g,i*4+3,none⟩ v') E D (.slice (some ⟨g,0,none⟩) fs.length cF) dl (fs.set i f') (cv.set i v'):=by
 have hil:=(List.getElem?_eq_some_iff.1 hf).1
 have hc:=h.each i f v hf hv
 have gs:=Zm w1 g (i*4+3) v'
 have fr1:=h.fr.kept gr (Zh h.fr hc (by decide))
 have dt1:=h.dt.kept gr (Zh h.dt hc (by decide))
 have hrow:(w1.setCell ⟨g,i*4+3,none⟩ v').ownsRow E 61 4 (.slice (some ⟨g,0,none⟩) fs.length cF) fs.length ((Yv fs cv).set (i*4+3) v'):=(fr1.stored _ _).1
 rw [Zvg] at hrow
 have hfl:Yv fs (cv.set i v')=Yv (fs.set i f') (cv.set i v'):=by
  refine Zhp _ _ _ (by simp) fun j a b ha hb => ?_
  by_cases e:j=i
  · subst e
    rw [hf] at ha
    rw [List.getElem?_set_self hil] at hb
    injection ha with ha;injection hb with hb
    subst ha;subst hb
    exact he
  · rw [List.getElem?_set_ne (Ne.symm e)] at hb
    rw [ha] at hb
    injection hb with hb
    subst hb
    exact ⟨rfl,rfl,rfl⟩
 have ne:∀ (v2:Value) (n:Nat) (xs:List Value) (E':TypeId) (sz:Nat),w1.ownsRow E E' sz v2 n xs->E'≠61->v2.ownBlock=none\/v2.ownBlock≠some g:=fun v2 n xs E' sz ho hE=>Zh ho fr1 hE
 have hdd:∀ (k:Nat) (a:Value) (b:Nat),k≠i->cv[k]? = some a->a.ownBlock=some b->v'.ownBlock≠some b:=fun k a b hk ha hb e=>by
  rcases hd with hd|hd
  · exact h.dis k i a v b hk ha hv hb (hd ▸ e)
  · have hkl:k<fs.length:=by rw [<- h.cl];exact (List.getElem?_eq_some_iff.1 ha).1
    have h1:=(World.ownsRow.lt (h.each k _ a (List.getElem?_eq_getElem hkl) ha) b hb).2
    have h2:=hd b e
    omega
 refine ⟨dt1.kept gs (ne _ _ _ _ _ dt1 (by decide)),by rw [List.length_set,<- hfl];exact hrow,by rw [List.length_set,List.length_set];exact h.cl,fun k a b ha hb => ?_,fun k l a b bb hkl ha hb hab => ?_⟩
 · by_cases e:k=i
   · subst e
     rw [List.getElem?_set_self hil] at ha
     rw [List.getElem?_set_self (by rw [h.cl];exact hil)] at hb
     injection ha with ha;injection hb with hb
     subst ha;subst hb
     exact ho.kept gs (ne _ _ _ _ _ ho (by decide))
   · rw [List.getElem?_set_ne (Ne.symm e)] at ha hb
     have hk:=h.each k a b ha hb
     have hk1:=hk.kept gr (by
      cases hbb:b.ownBlock with
      | none=>exact Or.inl rfl
      | some q=>exact Or.inr (fun e2=>h.dis k i b v q e hb hv hbb e2.symm))
     exact hk1.kept gs (ne _ _ _ _ _ hk1 (by decide))
 · have hic:i<cv.length:=by rw [h.cl];exact hil
   by_cases e:k=i
   · subst e
     rw [List.getElem?_set_self hic] at ha
     rw [List.getElem?_set_ne hkl] at hb
     injection ha with ha
     subst ha
     intro e2
     exact hdd l b bb (Ne.symm hkl) hb e2 hab
   · rw [List.getElem?_set_ne (Ne.symm e)] at ha
     by_cases e2:l=i
     · subst e2
       rw [List.getElem?_set_self hic] at hb
       injection hb with hb
       subst hb
       exact hdd k a bb e ha hab
     · rw [List.getElem?_set_ne (Ne.symm e2)] at hb
       exact h.dis k l a b bb hkl ha hb hab
theorem Yly {w0 w w1:World} {p m k g cF:Nat} {c:CS} {pend vd vL vB:Value} {bm:Nat} {cv:List Value} {lb:List Nat} {v v':Value} {i:Int × Int} (h:Zjb w0 w p m c pend vd (.slice (some ⟨g,0,none⟩) c.funcs.length cF) vL vB bm cv lb) (hk:c.funcs.length=k+1) (hv:cv[k]? = some v)
 (ho:w1.ownsRow w0.heap.size 58 2 v' ((c.funcs.getD k (0,0,0,[])).2.2.2.length+1) (Xh ((c.funcs.getD k (0,0,0,[])).2.2.2++[i]))) (gr:w.grownBy w1 v.ownBlock) (hd:v'.ownBlock=v.ownBlock\/∀ b,v'.ownBlock=some b->w.heap.size<=b) :
 PS w0 (w1.setCell ⟨g,k*4+3,none⟩ v') p (m+1) (Zjq c i) pend/\Fr w (w1.setCell ⟨g,k*4+3,none⟩ v'):=by
 have hf:c.funcs[k]? = some (c.funcs.getD k (0,0,0,[])):=by
  rw [List.getD_eq_getElem?_getD,List.getElem?_eq_getElem (by omega:k<c.funcs.length)];rfl
 generalize hfe:c.funcs.getD k (0,0,0,[])=f at *
 have hput:Zjq c i={ c with funcs:=c.funcs.set k (f.1,f.2.1,f.2.2.1,f.2.2.2++[i]) }:=by
  unfold Zjq
  simp only [hk,Nat.add_sub_cancel,hfe]
 rw [hput]
 have I:=h.ins
 have hc:=I.own.each k f v hf hv
 have gs:=Zm w1 g (k*4+3) v'
 have O:=Zzx (f':=(f.1,f.2.1,f.2.2.1,f.2.2.2++[i])) I.own hf hv ⟨rfl,rfl,rfl⟩ (by simp only [List.length_append,List.length_singleton];exact ho) gr hd
 have fr1:=I.own.fr.kept gr (Zh I.own.fr hc (by decide))
 have row:∀ {t:TypeId} {sz n:Nat} {v2:Value} {xs:List Value},w.ownsRow w0.heap.size t sz v2 n xs->t≠58->t≠61->(w1.setCell ⟨g,k*4+3,none⟩ v').ownsRow w0.heap.size t sz v2 n xs:=fun ho t1 t2=>by
  have h1:=ho.kept gr (Zh ho hc t1)
  exact h1.kept gs (Zh h1 fr1 t2)
 have map:∀ {b m':Nat} {f':Txt->Option Int},Zhs w b m' f'->m'<=m->Zhs (w1.setCell ⟨g,k*4+3,none⟩ v') b (m+1) f':=fun hm hle=>by
  have h1:=Yu hm gr (Xf hm hc)
  exact Zac (Yu h1 gs (Xf h1 fr1)) (by omega)
 have hb1:=Zf h.box gr (Zn hc h.box (by decide))
 have hb2:=Zf hb1 gs (Zn fr1 hb1 (by decide))
 refine ⟨⟨vd,_,vL,vB,bm,cv.set k v',lb,?_,h.ge,hb2,⟨?_,map I.fm (Nat.le_refl _),I.fmE,row I.lrow (by decide) (by decide),I.len1,fun j b f' hj hf'=>⟨map (I.each j b f' hj hf').1 (Nat.le_refl _),(I.each j b f' hj hf').2⟩,I.dis,I.apart,row I.brow (by decide) (by decide),
  by have:=I.z1;show c.data.length<=_;omega,by have:=I.z2;simp only [List.length_set];omega,fun q hq => ?_,by have:=I.z4;show c.blk.length<=_;omega⟩,by simp only [List.length_set];exact h.lens⟩,Zz (Zos hc (by decide) gr) (Zos fr1 (by decide) gs)⟩
 · have g1:=Yf h.gr gr (fun b hb=>(World.ownsRow.lt hc b hb).1)
   exact Yf g1 gs (fun b hb=>(World.ownsRow.lt fr1 b hb).1)
 · exact O
 · rcases List.mem_or_eq_of_mem_set hq with hq|hq
   · have:=I.z3 q hq;omega
   · subst hq
     have:=I.z3 f (List.mem_of_getElem? hf)
     simp only [List.length_append,List.length_singleton];omega
theorem Zzs {w0 w w1:World} {p m:Nat} {c:CS} {pend vd vF vL vB vB':Value} {bm:Nat} {cv:List Value} {lb:List Nat} {x:BlP} (h:Zjb w0 w p m c pend vd vF vL vB bm cv lb)
 (ho:w1.ownsRow w0.heap.size 131 5 vB' (c.blk.length+1) (blV c.blk++bl5 x)) (g:w.grownBy w1 vB.ownBlock) :
 Zjb w0 (w1.setCell ⟨p,6,none⟩ vB') p (m+1) { c with blk:=c.blk++[x] } pend vd vF vL vB' bm cv lb/\Fr w (w1.setCell ⟨p,6,none⟩ vB'):=by
 have hd:=h.ins.brow
 have hI:=Ylw h.ins ho g
 have hb:=Zf h.box g (Zn hd h.box (by decide))
 have gs:=Zm w1 p 6 vB'
 refine ⟨⟨?_,h.ge,by rw [Zj hb];rfl,Zfq hI hb gs,h.lens⟩,Zz (Zos hd (by decide) g) (Zot hb (by decide) gs)⟩
 exact Zy (Yf h.gr g (fun k hk=>(World.ownsRow.lt hd k hk).1)) h.ge
theorem Ygk {w0 w w':World} {p m bi:Nat} {c:CS} {pend vd vF vL vB:Value} {bm:Nat} {cv:List Value} {lb:List Nat} {cs:Array Value} {t:TypeId} (h:Zjb w0 w p m c pend vd vF vL vB bm cv lb) (hb:w.heap[bi]? = some (.cells cs t (0,0)))
 (ht:t=58\/t=144) (hne:∀ (k:Nat) (v:Value),cv[k]? = some v->v.ownBlock≠some bi) (hE:w0.heap.size<=bi) (g:w.grownBy w' (some bi)):Zjb w0 w' p m c pend vd vF vL vB bm cv lb:=by
 have I:=h.ins
 have row:∀ {t':TypeId} {sz n:Nat} {v2:Value} {xs:List Value},w.ownsRow w0.heap.size t' sz v2 n xs->t'≠t->w'.ownsRow w0.heap.size t' sz v2 n xs:=fun ho h1=>ho.kept g (Zks ho hb h1)
 have map:∀ {b m':Nat} {f':Txt->Option Int},Zhs w b m' f'->Zhs w' b m' f':=fun hm=>Yu hm g (fun e=>by injection e with e;exact Zfs hm hb e)
 have T:∀ {t':TypeId},t'≠58->t'≠144->t'≠t:=fun h1 h2 e=>by
  rcases ht with q|q
  · exact h1 (e.trans q)
  · exact h2 (e.trans q)
 refine ⟨Zsv h.gr g hE,h.ge,Zf h.box g (fun e => ?_),⟨⟨row I.own.dt (T (by decide) (by decide)),row I.own.fr (T (by decide) (by decide)),I.own.cl,fun k f v hf hv=>(I.own.each k f v hf hv).kept g (Or.inr (hne k v hv)),I.own.dis⟩,map I.fm,I.fmE,row I.lrow (T (by decide) (by decide)),I.len1,fun j b f' hj hf'=>⟨map (I.each j b f' hj hf').1,(I.each j b f' hj hf').2⟩,I.dis,I.apart,row I.brow (T (by decide) (by decide)),I.z1,I.z2,I.z3,I.z4⟩,h.lens⟩
 injection e with e
 have hbx:=h.box
 rw [e,hbx] at hb
 injection hb with hb;injection hb with _ hb _
 exact T (by decide) (by decide) hb
end Go.Proofs.YteciblfmgdlipaaGreatDoor.AS
