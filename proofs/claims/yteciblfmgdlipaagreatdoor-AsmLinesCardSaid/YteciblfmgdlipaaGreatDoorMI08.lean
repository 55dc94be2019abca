/-
  Part of a proof: contracts of functions and lemmas, each stated by its own theorem. Conditions: as each theorem states.
-/
import Derived.Test.YteciblfmgdlipaaGreatDoorMI07
set_option linter.unusedSimpArgs false
set_option linter.unusedVariables false
set_option maxRecDepth 100000
set_option maxHeartbeats 16000000
namespace Go.Proofs.YteciblfmgdlipaaGreatDoor.AS
open Go.RowKit Go.Great CK
theorem Ytg (a b c:Int) (t:ByteArray) (f:Bool):∀ u∈[Value.int .i64 a,.int .i64 b,.int .i64 c,.string t,.bool f],u.oneCell'=true:=by
 intro u hu
 simp only [List.mem_cons,List.not_mem_nil,or_false] at hu
 rcases hu with rfl|rfl|rfl|rfl|rfl <;> rfl
theorem Yrr {w:World} {E b o:Nat} {t:TypeId} {sz n:Nat} {v:Value} {xs:List Value} {q:Pc} {r:List Pc} (h:Zkh w (some ⟨b,o,none⟩) (q::r)) (ho:w.ownsRow E t sz v n xs) (ht:t≠158):some b≠v.ownBlock:=by
 obtain ⟨b',o',cs,fz,e,hb,_⟩:=h (by simp)
 injection e with e;injection e with e1 e2
 subst e1
 intro e3
 rcases ho.2 with ⟨rfl,_⟩|⟨g0,cap,cur,rfl,_,hg,_⟩
 · cases e3
 · injection e3 with e3
   simp only at e3
   subst e3
   rw [hb] at hg;injection hg with hg;injection hg with _ h2 _
   exact ht h2.symm
theorem Yjg {w:World} {E b:Nat} {t t':TypeId} {sz n:Nat} {v:Value} {xs:List Value} {cs:Array Value} (ho:w.ownsRow E t sz v n xs) (hb:w.heap[b]? = some (.cells cs t' (0,0))) (ht:t≠t'):some b≠v.ownBlock:=fun e=>Zn ho hb ht e.symm
def ib:Nat->Nat
 | 0=>107
 | 1=>108
 | 2=>109
 | 3=>110
 | 4=>111
 | 5=>112
 | 6=>113
 | 7=>114
 | 8=>115
 | 9=>116
 | 10=>117
 | 11=>118
 | 12=>119
 | 13=>120
 | 14=>121
 | 15=>122
 | 16=>123
 | 17=>124
 | 18=>125
 | 19=>126
 | 20=>127
 | 21=>128
 | 22=>129
 | 23=>130
 | 24=>1024
 | _=>5000
theorem Xz:∀ i,i<25->∀ j,j<25->j≠i->ib j≠ib i:=by decide
theorem Zuy (i:Nat) (h:i<25):i=0\/i=1\/i=2\/i=3\/i=4\/i=5\/i=6\/i=7\/i=8\/i=9\/i=10\/i=11\/i=12\/i=13\/i=14\/i=15\/i=16\/i=17\/i=18\/i=19\/i=20\/i=21\/i=22\/i=23\/i=24:=by omega
theorem Zei (j:Nat) (hj:j∈[0,1,2,9,11,12]):∀ i,i<25->ib i≠j:=by revert j;decide
def ibv (E p k gF b o b9 cc lc c0 nB cB:Nat) (line kd:Int) (pB pc:Option Addr) (tx:ByteArray) (ys:List Value) (q2:Nat) (gB:Nat) (cB9:Nat):Nat->Value
 | 0 => .pointer (some ⟨p,0,none⟩)
 | 1 => .pointer (some ⟨p,0,none⟩)
 | 2 => .pointer (some ⟨p,0,none⟩)
 | 3 => .pointer (some ⟨p,6,none⟩)
 | 4 => .slice pB nB cB
 | 5 => .int .i64 line
 | 6 => .int .i64 (k:Int)
 | 7 => .pointer (some ⟨gF,k*4,none⟩)
 | 8 => .pointer (some ⟨gF,k*4,none⟩)
 | 9 => .pointer (some ⟨gF,k*4+3,none⟩)
 | 10 => .slice pc lc c0
 | 11 => .int .i64 lc
 | 12 => .slice (some ⟨b,o+4,none⟩) 1 (cc - 1)
 | 13 => .pointer (some ⟨b,o+4,none⟩)
 | 14 => .pointer (some ⟨b,o+4+1,none⟩)
 | 15 => .string tx
 | 16 => .pointer (some ⟨b9,1,none⟩)
 | 17 => .int .i64 kd
 | 18 => .bool (kd == 4)
 | 19 => .agg #[.int .i64 line,.int .i64 (k:Int),.int .i64 (lc:Int),.string tx,.bool (kd == 4)]
 | 20 => .slice (some ⟨q2,0,none⟩) 1 1
 | 21 => .slice (some ⟨gB,0,none⟩) (nB+1) cB9
 | 22 => .pointer (some ⟨p,0,none⟩)
 | 23 => .pointer (some ⟨p,6,none⟩)
 | 24=>undef
 | _=>undef
def ibF (E p k gF b o b9 cc lc c0 nB cB:Nat) (line kd:Int) (pB pc:Option Addr) (tx:ByteArray) (ys:List Value) (q2:Nat) (gB:Nat) (cB9:Nat):Nat->World->Prop
 | 20=>fun w9=>w9.heap[q2]? = some (.cells #[.int .i64 line,.int .i64 (k:Int),.int .i64 (lc:Int),.string tx,.bool (kd == 4)] 131 (0,0))
 | 21=>fun w9=>w9.ownsRow E 131 5 (.slice (some ⟨gB,0,none⟩) (nB+1) cB9) (nB+1) (ys++[.int .i64 line,.int .i64 (k:Int),.int .i64 (lc:Int),.string tx,.bool (kd == 4)])
 | _=>fun _=>True
theorem Ypm {E p k gF b o b9 cc lc c0 nB cB:Nat} {line kd:Int} {pB pc:Option Addr} {tx:ByteArray} {ys:List Value} {q2:Nat} {gB:Nat} {cB9:Nat} {q22:Nat} {l:Array Bool} (hcl:∀ p∈([(2,1),(3,2),(4,3),(8,7),(9,8),(10,9),(11,10),(13,12),(14,13),(15,14),(17,16),(18,17),(19,5),(19,6),(19,11),(19,15),(19,18),(20,19),(21,4),(21,20),(22,0),(23,22),(24,23),(24,21)]:List (Nat × Nat)),l.getD (Prod.fst p) false=true->l.getD (Prod.snd p) false=true) (hun:l.getD 20 false=false):∀ i,i<25->l.getD i false=true->ib i<158->ibv E p k gF b o b9 cc lc c0 nB cB line kd pB pc tx ys q22 gB cB9 i=ibv E p k gF b o b9 cc lc c0 nB cB line kd pB pc tx ys q2 gB cB9 i:=by
 intro i hi hl _
 rcases Zuy i hi with rfl|rfl|rfl|rfl|rfl|rfl|rfl|rfl|rfl|rfl|rfl|rfl|rfl|rfl|rfl|rfl|rfl|rfl|rfl|rfl|rfl|rfl|rfl|rfl|rfl <;> first|rfl|exact Zk (hl) hun
theorem Ypl {E p k gF b o b9 cc lc c0 nB cB:Nat} {line kd:Int} {pB pc:Option Addr} {tx:ByteArray} {ys:List Value} {q2:Nat} {gB:Nat} {cB9:Nat} {gB2:Nat} {cB92:Nat} {l:Array Bool} (hcl:∀ p∈([(2,1),(3,2),(4,3),(8,7),(9,8),(10,9),(11,10),(13,12),(14,13),(15,14),(17,16),(18,17),(19,5),(19,6),(19,11),(19,15),(19,18),(20,19),(21,4),(21,20),(22,0),(23,22),(24,23),(24,21)]:List (Nat × Nat)),l.getD (Prod.fst p) false=true->l.getD (Prod.snd p) false=true) (hun:l.getD 21 false=false):∀ i,i<25->l.getD i false=true->ib i<158->ibv E p k gF b o b9 cc lc c0 nB cB line kd pB pc tx ys q2 gB2 cB92 i=ibv E p k gF b o b9 cc lc c0 nB cB line kd pB pc tx ys q2 gB cB9 i:=by
 intro i hi hl _
 rcases Zuy i hi with rfl|rfl|rfl|rfl|rfl|rfl|rfl|rfl|rfl|rfl|rfl|rfl|rfl|rfl|rfl|rfl|rfl|rfl|rfl|rfl|rfl|rfl|rfl|rfl|rfl <;> first|rfl|exact Zk (hl) hun
theorem Ysv (w0 ww w:World) (p m k gF cF b o b9 bi cc:Nat) (line:Int) (c:CS) (x:Option Int) (n:Nat) (kd:Int) (q0:Pc) (vd vL vB:Value) (bm:Nat) (cv:List Value) (lb:List Nat) (vc:Value) (s:Txt) (hkd:kd=3\/kd=4)
 (h:Zhk w0 ww w p m k gF cF b o b9 bi c x n kd q0 [Pc.word s] vd vL vB bm cv lb vc) (hcc:[Pc.word s].length+1<=cc) (hl:[Pc.word s].length<=70000) (hm:m+2<=1000000) (R:Option (CS × Option Int)) (hR:R=some (Zjq (Ybd c line s (kd == 4)) (n,0),x)) (a:Act) (ha:Yea p b o [Pc.word s].length cc b9 k gF bi line a) (K:Act->World->Prop) (hK:∀ a w,Code.wp Tryz.prog (Zgc Tryz.f80 8) (bodyPost Tryz.prog Tryz.f80 (Yi w0 ww p (m+2) R)) a w->K a w) :
 Code.wp Tryz.prog (Zml Tryz.f80 8) (Exit.then K (bodyPost Tryz.prog Tryz.f80 (Yi w0 ww p (m+2) R))) a w:=by
 subst hR
 rw [Zic ha]
 generalize (fun i=>a.tmps.getD i undef)=t
 clear ha
 have HA:=Hq h
 obtain ⟨nm,tk,gv,h9⟩:=h.h9
 have e9:w.cell? ⟨b9,1,none⟩=some (.int .i64 kd):=Cq _ _ 1 _ _ _ h9
 have l9:=(Gs h9)
 have li:=(Gs h.hi)
 have hci:(([Pc.word s].length:Int)+1)<=cc:=by omega
 have h99:=h9
 clear h9 h
 unfold imF
 iterate 151 (generalize t _=u)
 clear t
 conv=>arg 2;whnf
 have b0:(kd == 0)=false:=beq_eq_false_iff_ne.2 (by omega)
 obtain ⟨b',o',e,hb2,x0,x1,x2,x3⟩:=Jb HA.out.hp (i:=1) (q:=Pc.word s) rfl
 injection e with e;injection e with e1 e2
 subst e1;subst e2
 simp only [Nat.one_mul,pcK,pcT,pcN,pcF] at x0 x1 x2 x3
 have hc1:¬ cc=1:=by simp at hcc;omega
 simp only [List.length_cons,List.length_nil] at hcc hci hl
 have hf:c.funcs[k]? = some (c.funcs.getD k (0,0,0,[])):=by
  have:=HA.out.hk
  rw [List.getD_eq_getElem?_getD,List.getElem?_eq_getElem (by omega:k<c.funcs.length)];rfl
 have I:=HA.out.ps.ins
 have ho:=I.own.each k _ vc hf HA.out.hv
 obtain ⟨g',cap',hvF,hgF,hcF⟩:=Zv I.own.fr (by have:=HA.out.hk;omega)
 injection hvF with hvF _ _
 injection hvF with hvF;injection hvF with hvF
 subst hvF
 obtain ⟨-,-,-,q3⟩:=Zad c.funcs cv k _ _ hf HA.out.hv
 have c3:=hcF _ _ q3 (by have:=HA.out.hk;omega)
 obtain ⟨pB,cB,hvB⟩:=Zi I.brow
 obtain ⟨pc,c0,hvc⟩:=Zi ho
 generalize hfe:c.funcs.getD k (0,0,0,[])=f at *
 obtain ⟨fa,fl,fr,fc⟩:=f
 simp only [] at hvc
 subst hvc;subst hvB
 have HFE:=Hq hfe
 have hz:=I.z4
 have HNE:=Yjg I.brow HA.out.ps.box (by decide)
 have HNF:some gF≠(Value.slice pB c.blk.length cB).ownBlock:=by
  intro e
  rcases Zh I.own.fr I.brow (by decide) with q|q
  · cases q
  · exact q e
 have HNX:=Yrr HA.out.hp I.brow (by decide)
 have HN9:=Yjg I.brow h99 (by decide)
 have HNI:=Yjg I.brow HA.out.hi (by decide)
 have OWN:=Hq (I.brow.kept (Ze (Zb w none)) (Yw I.brow))
 have c6:=Cq _ _ 6 _ _ _ HA.out.ps.box
 have z6:=frozen_of_row _ _ 6 _ _ HA.out.ps.box
 have hlt:=(Gs HA.out.ps.box)
 have hE:=HA.out.ps.gr.size
 have HPI:some p≠some bi:=fun e=>by injection e with e;have h1:=HA.out.ps.box;have h2:=HA.out.hi;rw [<- e,h1] at h2;injection h2 with h2;injection h2 with _ h2 _;revert h2;decide
 obtain ⟨vb,hvb⟩:∃ vb,(Value.slice pB c.blk.length cB).ownBlock=vb:=⟨_,rfl⟩
 rw [hvb] at HNE HNF HNX HN9
 obtain ⟨ni,ni0,ni1,ni2,ni3⟩:=info_parts Ydr
 clear I hf ho hcF q3 hfe h99
 rcases hkd with h3|h4
 · subst h3
   go_wp2
   try clear K
   conv=>arg 2;whnf
   go_upto_region 22 with fail
   (try rename_i K22 hK22)
   refine Yd (n:=25) (J:=fun a0 l a1 w1=>∃ (q2:Nat) (gB:Nat) (cB9:Nat),RJ a0 158 25 ib (ibv w0.heap.size p k gF b o b9 cc fc.length c0 c.blk.length cB line (3:Int) pB pc (bs s) (blV c.blk) q2 gB cB9) l a1/\Zas 24 25 21 [(2,1),(3,2),(4,3),(8,7),(9,8),(10,9),(11,10),(13,12),(14,13),(15,14),(17,16),(18,17),(19,5),(19,6),(19,11),(19,15),(19,18),(20,19),(21,4),(21,20),(22,0),(23,22),(24,23),(24,21)] [(20,21)] (fun w9=>World.grownBy w.drew w9 vb) (fun w9=>w9.ownsRow w0.heap.size 131 5 (.slice pB c.blk.length cB) c.blk.length (blV c.blk)) (ibF w0.heap.size p k gF b o b9 cc fc.length c0 c.blk.length cB line (3:Int) pB pc (bs s) (blV c.blk) q2 gB cB9) (fun w9=>∃ (w8:World),World.grownBy w.drew w8 vb/\w8.ownsRow w0.heap.size 131 5 (.slice (some ⟨gB,0,none⟩) (c.blk.length+1) cB9) (c.blk.length+1) (blV c.blk++[.int .i64 line,.int .i64 (k:Int),.int .i64 (fc.length:Int),.string (bs s),.bool ((3:Int) == 4)])/\w9=w8.setCell ⟨p,6,none⟩ (.slice (some ⟨gB,0,none⟩) (c.blk.length+1) cB9)) l w1) (by kernel_rfl) rfl (Yt (by kernel_rfl)) (fun l a1 w1 h=>by obtain ⟨_,_,_,h,_⟩:=h;exact h.sz) ⟨0,0,0,Yc rfl,Zu (Zb _ _) (OWN.out)⟩ ?step ?fin
   case step =>
    intro l a1 w' i hJJ hi hin
    obtain ⟨q2,gB,cB9,hJ,hW⟩:=hJJ
    have hun:l.getD i false=false:=getD_both (mem_ready.1 hi).1
    have hns:=Xe hW hin hun
    have hg:=hW.g hns
    have l0:=Nat.lt_of_lt_of_le hlt hg.size
    have l1:=Nat.lt_of_lt_of_le hgF hg.size
    have l2:=Nat.lt_of_lt_of_le hb2 hg.size
    have l3:=Nat.lt_of_lt_of_le l9 hg.size
    rcases Zuy i hin with rfl|rfl|rfl|rfl|rfl|rfl|rfl|rfl|rfl|rfl|rfl|rfl|rfl|rfl|rfl|rfl|rfl|rfl|rfl|rfl|rfl|rfl|rfl|rfl|rfl
    · have e0:a1.tmps.getD 0 undef = .pointer (some ⟨p,0,none⟩):=hJ.un 0 (fun i hi _=>Zei 0 (by decide) i hi)
      exact Zc (Zd hJ hW hi hun (hne:=Xz _ (by decide)) (hrun:=by simp [execOp,Act.eval,e0,go_sem,ibv])) (fun a9 w9 h9=>⟨q2,gB,cB9,h9⟩)
    · have e0:a1.tmps.getD 0 undef = .pointer (some ⟨p,0,none⟩):=hJ.un 0 (fun i hi _=>Zei 0 (by decide) i hi)
      exact Zc (Zd hJ hW hi hun (hne:=Xz _ (by decide)) (hrun:=by simp [execOp,Act.eval,e0,go_sem,ibv])) (fun a9 w9 h9=>⟨q2,gB,cB9,h9⟩)
    · have e108:a1.tmps.getD 108 undef = .pointer (some ⟨p,0,none⟩):=rjt hJ hi 1
      exact Zc (Zd hJ hW hi hun (hne:=Xz _ (by decide)) (hrun:=by simp [execOp,Act.eval,e108,go_sem,ibv])) (fun a9 w9 h9=>⟨q2,gB,cB9,h9⟩)
    · have e109:a1.tmps.getD 109 undef = .pointer (some ⟨p,0,none⟩):=rjt hJ hi 2
      exact Zc (Zd hJ hW hi hun (hne:=Xz _ (by decide)) (hrun:=by simp [execOp,Act.eval,e109,go_sem,ibv])) (fun a9 w9 h9=>⟨q2,gB,cB9,h9⟩)
    · have e110:a1.tmps.getD 110 undef = .pointer (some ⟨p,6,none⟩):=rjt hJ hi 3
      have h0:=hg.cell c6 HNE
      exact Zc (Zd hJ hW hi hun (hne:=Xz _ (by decide)) (hrun:=by simp [execOp,Act.eval,e110,h0,l0,l1,l2,l3,go_sem,ibv])) (fun a9 w9 h9=>⟨q2,gB,cB9,h9⟩)
    · have e1:a1.tmps.getD 1 undef = .int .i64 line:=hJ.un 1 (fun i hi _=>Zei 1 (by decide) i hi)
      exact Zc (Zd hJ hW hi hun (hne:=Xz _ (by decide)) (hrun:=by simp [execOp,Act.eval,e1,l0,l1,l2,l3,go_sem,ibv])) (fun a9 w9 h9=>⟨q2,gB,cB9,h9⟩)
    · have e11:a1.tmps.getD 11 undef = .int .i64 (k:Int):=hJ.un 11 (fun i hi _=>Zei 11 (by decide) i hi)
      exact Zc (Zd hJ hW hi hun (hne:=Xz _ (by decide)) (hrun:=by simp [execOp,Act.eval,e11,l0,l1,l2,l3,go_sem,ibv])) (fun a9 w9 h9=>⟨q2,gB,cB9,h9⟩)
    · have e12:a1.tmps.getD 12 undef = .pointer (some ⟨gF,k*4,none⟩):=hJ.un 12 (fun i hi _=>Zei 12 (by decide) i hi)
      exact Zc (Zd hJ hW hi hun (hne:=Xz _ (by decide)) (hrun:=by simp [execOp,Act.eval,e12,go_sem,ibv])) (fun a9 w9 h9=>⟨q2,gB,cB9,h9⟩)
    · have e114:a1.tmps.getD 114 undef = .pointer (some ⟨gF,k*4,none⟩):=rjt hJ hi 7
      exact Zc (Zd hJ hW hi hun (hne:=Xz _ (by decide)) (hrun:=by simp [execOp,Act.eval,e114,go_sem,ibv])) (fun a9 w9 h9=>⟨q2,gB,cB9,h9⟩)
    · have e115:a1.tmps.getD 115 undef = .pointer (some ⟨gF,k*4,none⟩):=rjt hJ hi 8
      exact Zc (Zd hJ hW hi hun (hne:=Xz _ (by decide)) (hrun:=by simp [execOp,Act.eval,e115,go_sem,ibv])) (fun a9 w9 h9=>⟨q2,gB,cB9,h9⟩)
    · have e116:a1.tmps.getD 116 undef = .pointer (some ⟨gF,k*4+3,none⟩):=rjt hJ hi 9
      have h0:=hg.cell c3 HNF
      exact Zc (Zd hJ hW hi hun (hne:=Xz _ (by decide)) (hrun:=by simp [execOp,Act.eval,e116,h0,l0,l1,l2,l3,go_sem,ibv])) (fun a9 w9 h9=>⟨q2,gB,cB9,h9⟩)
    · have e117:a1.tmps.getD 117 undef = .slice pc fc.length c0:=rjt hJ hi 10
      exact Zc (Zd hJ hW hi hun (hne:=Xz _ (by decide)) (hrun:=by simp [execOp,resolve,invoke,builtin,Act.eval,e117,l0,l1,l2,l3,go_sem,ibv])) (fun a9 w9 h9=>⟨q2,gB,cB9,h9⟩)
    · have e2:a1.tmps.getD 2 undef = .slice (some ⟨b,o+4,none⟩) 1 (cc - 1):=hJ.un 2 (fun i hi _=>Zei 2 (by decide) i hi)
      exact Zc (Zd hJ hW hi hun (hne:=Xz _ (by decide)) (hrun:=by simp [execOp,resolve,invoke,builtin,Act.eval,e2,l0,l1,l2,l3,go_sem,ibv])) (fun a9 w9 h9=>⟨q2,gB,cB9,h9⟩)
    · have e119:a1.tmps.getD 119 undef = .slice (some ⟨b,o+4,none⟩) 1 (cc - 1):=rjt hJ hi 12
      exact Zc (Zd hJ hW hi hun (hne:=Xz _ (by decide)) (hrun:=by simp [execOp,resolve,invoke,builtin,Act.eval,e119,l0,l1,l2,l3,go_sem,ibv] <;> (intros;omega))) (fun a9 w9 h9=>⟨q2,gB,cB9,h9⟩)
    · have e120:a1.tmps.getD 120 undef = .pointer (some ⟨b,o+4,none⟩):=rjt hJ hi 13
      exact Zc (Zd hJ hW hi hun (hne:=Xz _ (by decide)) (hrun:=by simp [execOp,Act.eval,e120,go_sem,ibv])) (fun a9 w9 h9=>⟨q2,gB,cB9,h9⟩)
    · have e121:a1.tmps.getD 121 undef = .pointer (some ⟨b,o+4+1,none⟩):=rjt hJ hi 14
      have h0:=hg.cell x1 HNX
      exact Zc (Zd hJ hW hi hun (hne:=Xz _ (by decide)) (hrun:=by simp [execOp,Act.eval,e121,h0,l0,l1,l2,l3,go_sem,ibv])) (fun a9 w9 h9=>⟨q2,gB,cB9,h9⟩)
    · have e9:a1.tmps.getD 9 undef = .pointer (some ⟨b9,0,none⟩):=hJ.un 9 (fun i hi _=>Zei 9 (by decide) i hi)
      exact Zc (Zd hJ hW hi hun (hne:=Xz _ (by decide)) (hrun:=by simp [execOp,Act.eval,e9,go_sem,ibv])) (fun a9 w9 h9=>⟨q2,gB,cB9,h9⟩)
    · have e123:a1.tmps.getD 123 undef = .pointer (some ⟨b9,1,none⟩):=rjt hJ hi 16
      have h0:=hg.cell e9 HN9
      exact Zc (Zd hJ hW hi hun (hne:=Xz _ (by decide)) (hrun:=by simp [execOp,Act.eval,e123,h0,l0,l1,l2,l3,go_sem,ibv])) (fun a9 w9 h9=>⟨q2,gB,cB9,h9⟩)
    · have e124:a1.tmps.getD 124 undef = .int .i64 (3:Int):=rjt hJ hi 17
      exact Zc (Zd hJ hW hi hun (hne:=Xz _ (by decide)) (hrun:=by simp [execOp,Act.eval,e124,l0,l1,l2,l3,go_sem,ibv])) (fun a9 w9 h9=>⟨q2,gB,cB9,h9⟩)
    · have e112:a1.tmps.getD 112 undef = .int .i64 line:=rjt hJ hi 5
      have f112:=e112
      rw [Array.getD_eq_getD_getElem?] at f112
      have e113:a1.tmps.getD 113 undef = .int .i64 (k:Int):=rjt hJ hi 6
      have f113:=e113
      rw [Array.getD_eq_getD_getElem?] at f113
      have e118:a1.tmps.getD 118 undef = .int .i64 fc.length:=rjt hJ hi 11
      have f118:=e118
      rw [Array.getD_eq_getD_getElem?] at f118
      have e122:a1.tmps.getD 122 undef = .string (bs s):=rjt hJ hi 15
      have f122:=e122
      rw [Array.getD_eq_getD_getElem?] at f122
      have e125:a1.tmps.getD 125 undef = .bool ((3:Int) == 4):=rjt hJ hi 18
      have f125:=e125
      rw [Array.getD_eq_getD_getElem?] at f125
      exact Zc (Zd hJ hW hi hun (hne:=Xz _ (by decide)) (hrun:=by simp [execOp,Act.eval,e112,f112,e113,f113,e118,f118,e122,f122,e125,f125,l0,l1,l2,l3,go_sem,ibv])) (fun a9 w9 h9=>⟨q2,gB,cB9,h9⟩)
    · have e126:a1.tmps.getD 126 undef = .agg #[.int .i64 line,.int .i64 (k:Int),.int .i64 (fc.length:Int),.string (bs s),.bool ((3:Int) == 4)]:=rjt hJ hi 19
      have f126:=e126
      rw [Array.getD_eq_getD_getElem?] at f126
      refine Zt (v:=ibv w0.heap.size p k gF b o b9 cc fc.length c0 c.blk.length cB line (3:Int) pB pc (bs s) (blV c.blk) w'.heap.size gB cB9 20) (w':=w'.alloc (.cells #[.int .i64 line,.int .i64 (k:Int),.int .i64 (fc.length:Int),.string (bs s),.bool ((3:Int) == 4)] 131)) rfl (by rfl) (by simp [execOp,Act.eval,e126,f126,Ypo,Result.andThen,ibv]) ⟨w'.heap.size,gB,cB9,?_,Zo hW (by decide) hun (by decide) (Zg _ hi (by kernel_rfl)) (Za hg (Ga _ _ _)) (fun hne0 hun0 hB0=>hB0.alloc _) (fun j hj hne hl hcu hF => ?_) (heap_alloc_new w' _)⟩
      · exact Yg (val:=ibv w0.heap.size p k gF b o b9 cc fc.length c0 c.blk.length cB line (3:Int) pB pc (bs s) (blV c.blk) w'.heap.size gB cB9) (Yj hJ (Ypm hW.cl hun)) (by decide) (by decide) (Xz _ (by decide))
      · rcases Zuy j hj with rfl|rfl|rfl|rfl|rfl|rfl|rfl|rfl|rfl|rfl|rfl|rfl|rfl|rfl|rfl|rfl|rfl|rfl|rfl|rfl|rfl|rfl|rfl|rfl|rfl <;> first|exact True.intro|exact absurd rfl hne|exact Zk (hW.cl (21,20) (by decide) (hl)) hun
    · have e111:a1.tmps.getD 111 undef = .slice pB c.blk.length cB:=rjt hJ hi 4
      have e127:a1.tmps.getD 127 undef = .slice (some ⟨q2,0,none⟩) 1 1:=rjt hJ hi 20
      have F20:=hW.f hns 20 (by decide) (Zq hi 20 (by kernel_rfl)) (Jg (c:=21) (by decide) hun)
      have own:=hW.u hun
      obtain ⟨v8,w8,hap,hown,hgr,-⟩:=run_append_own_at (P:=Tryz.prog) w' w0.heap.size 68 68 131 ni (.agg #[.int .i64 0,.int .i64 0,.int .i64 0,.string ⟨#[]⟩,.bool false]) 5 48 Zvt ni0 ni1 ni2 ni3 rfl (by decide) _ c.blk.length (blV c.blk) own ⟨q2,0,none⟩ 1 1 [.int .i64 line,.int .i64 (k:Int),.int .i64 (fc.length:Int),.string (bs s),.bool ((3:Int) == 4)] rfl (Zbj F20) (Ytg _ _ _ _ _) (by unfold maxLen;omega) (by omega) (Nat.le_trans hE hg.size)
      rw [hvb] at hgr
      obtain ⟨gB2,cB92,hv⟩:=Js hown
      subst hv
      refine Zt (v:=ibv w0.heap.size p k gF b o b9 cc fc.length c0 c.blk.length cB line (3:Int) pB pc (bs s) (blV c.blk) q2 gB2 cB92 21) (w':=w8) rfl (by rfl) (by simp [execOp,resolve,invoke,builtin,Act.eval,e111,e127,hap,Result.andThen,ibv]) ⟨q2,gB2,cB92,?_,Zo hW (by decide) hun (by decide) (Zg _ hi (by kernel_rfl)) (Za hg hgr) (fun hne0 hun0 hB0=>absurd rfl hne0) (fun j hj hne hl hcu hF => ?_) (hown)⟩
      · exact Yg (val:=ibv w0.heap.size p k gF b o b9 cc fc.length c0 c.blk.length cB line (3:Int) pB pc (bs s) (blV c.blk) q2 gB2 cB92) (Yj hJ (Ypl hW.cl hun)) (by decide) (by decide) (Xz _ (by decide))
      · rcases Zuy j hj with rfl|rfl|rfl|rfl|rfl|rfl|rfl|rfl|rfl|rfl|rfl|rfl|rfl|rfl|rfl|rfl|rfl|rfl|rfl|rfl|rfl|rfl|rfl|rfl|rfl <;> first|exact True.intro|exact absurd rfl (hcu (20,21) (by decide) rfl).1|exact absurd rfl hne
    · have e107:a1.tmps.getD 107 undef = .pointer (some ⟨p,0,none⟩):=rjt hJ hi 0
      exact Zc (Zd hJ hW hi hun (hne:=Xz _ (by decide)) (hrun:=by simp [execOp,Act.eval,e107,go_sem,ibv])) (fun a9 w9 h9=>⟨q2,gB,cB9,h9⟩)
    · have e129:a1.tmps.getD 129 undef = .pointer (some ⟨p,0,none⟩):=rjt hJ hi 22
      exact Zc (Zd hJ hW hi hun (hne:=Xz _ (by decide)) (hrun:=by simp [execOp,Act.eval,e129,go_sem,ibv])) (fun a9 w9 h9=>⟨q2,gB,cB9,h9⟩)
    · have e130:a1.tmps.getD 130 undef = .pointer (some ⟨p,6,none⟩):=rjt hJ hi 23
      have e128:a1.tmps.getD 128 undef = .slice (some ⟨gB,0,none⟩) (c.blk.length+1) cB9:=rjt hJ hi 21
      have F21:=hW.f hns 21 (by decide) (Zq hi 21 (by kernel_rfl)) (Zat (by decide))
      have k1:=hg.cell c6 HNE
      have bx2:=hg.block p hlt HNE
      have j1:w'.frozen? ⟨p,6,none⟩=false:=(World.frozen?_of_block bx2).trans z6
      have lb2:=Nat.lt_of_lt_of_le hlt hg.size
      have O21:w'.ownsRow w0.heap.size 131 5 (.slice (some ⟨gB,0,none⟩) (c.blk.length+1) cB9) (c.blk.length+1) (blV c.blk++[.int .i64 line,.int .i64 (k:Int),.int .i64 (fc.length:Int),.string (bs s),.bool ((3:Int) == 4)]):=F21
      have hall:∀ j,j<25->j≠24->l.getD j false=true:=Jp hi hW.cl (by kernel_rfl)
      exact Zc (Jo (WS:=fun l9 w9=>Zas 24 25 21 [(2,1),(3,2),(4,3),(8,7),(9,8),(10,9),(11,10),(13,12),(14,13),(15,14),(17,16),(18,17),(19,5),(19,6),(19,11),(19,15),(19,18),(20,19),(21,4),(21,20),(22,0),(23,22),(24,23),(24,21)] [(20,21)] (fun w9=>World.grownBy w.drew w9 vb) (fun w9=>w9.ownsRow w0.heap.size 131 5 (.slice pB c.blk.length cB) c.blk.length (blV c.blk)) (ibF w0.heap.size p k gF b o b9 cc fc.length c0 c.blk.length cB line (3:Int) pB pc (bs s) (blV c.blk) q2 gB cB9) (fun w9=>∃ (w8:World),World.grownBy w.drew w8 vb/\w8.ownsRow w0.heap.size 131 5 (.slice (some ⟨gB,0,none⟩) (c.blk.length+1) cB9) (c.blk.length+1) (blV c.blk++[.int .i64 line,.int .i64 (k:Int),.int .i64 (fc.length:Int),.string (bs s),.bool ((3:Int) == 4)])/\w9=w8.setCell ⟨p,6,none⟩ (.slice (some ⟨gB,0,none⟩) (c.blk.length+1) cB9)) l9 w9) hJ rfl rfl rfl (by decide) (by decide) (w':=w'.setCell ⟨p,6,none⟩ (.slice (some ⟨gB,0,none⟩) (c.blk.length+1) cB9)) (by simp [execOp,Act.eval,e130,e128,k1,j1,lb2,go_sem]) (Xa hW (by decide) (by decide) hall (Zg _ hi (by kernel_rfl)) (⟨w',hg,O21,rfl⟩))) (fun a9 w9 h9=>⟨q2,gB,cB9,h9⟩)
   case fin =>
    intro l9 a1 w9 hJJ hl9
    obtain ⟨q2,gB,cB9,hJ,hW⟩:=hJJ
    have hq:=hW.q (hl9 24 (by decide))
    have hput:=Ys hJ rfl hl9 (fun i j h1 h2 h3=>Xz j h2 i h1 h3)
    subst hput
    clear hJ hW hl9 c3 c6 x0 x1 x2 x3 e9
    obtain ⟨w8,q1,q4,rfl⟩:=hq
    (try refine hK22 _ _ ?_)
    simp only [Ja,ib,ibv,Act.put,List.setIfInBounds_toArray,List.set_cons_zero,List.set_cons_succ]
    have M:=Zzs (x:=⟨line,(k:Int),(fc.length:Int),s,(3:Int) == 4⟩) (Xp HA.out.ps (Ze (Zb w none))) q4 (by rw [hvb];exact q1)
    have HB:=Zf (Zf (Zf HA.out.hi (Ze (Zb w none)) (by simp)) q1 (fun e=>HNI (by rw [hvb];exact e.symm))) (Zm w8 p 6 (.slice (some ⟨gB,0,none⟩) (c.blk.length+1) cB9)) (fun e=>HPI e)
    have MM:=Hq M
    have HBB:=Hq HB
    clear q1 q4 M HB
    have HBC:=Hq (show Ybd c line s ((3:Int) == 4)={ c with blk:=c.blk++[⟨line,(k:Int),(fc.length:Int),s,(3:Int) == 4⟩] } by
     unfold Ybd
     simp only [HA.out.hk,Nat.add_sub_cancel,HFE.out])
    generalize w8.setCell ⟨p,6,none⟩ (.slice (some ⟨gB,0,none⟩) (c.blk.length+1) cB9)=w5 at *
    go_upto_region 28 with fail
    rename_i K28 hK28
    exact Zra w0 ww w5 p (m+1) k gF cF bi _ x n 0 vd vL _ bm cv lb _ MM.out.1 HA.out.hk HA.out.hv HBB.out (HA.out.ne _ _ HA.out.hv) (Zz (Zz HA.out.fr (Xg (Ze (Zb w none)))) MM.out.2) hm _ (by rw [<- HBC.out];rfl) _ ⟨rfl,rfl,rfl,rfl⟩ _ hK28
 · subst h4
   go_wp2
   try clear K
   conv=>arg 2;whnf
   go_upto_region 22 with fail
   (try rename_i K22 hK22)
   refine Yd (n:=25) (J:=fun a0 l a1 w1=>∃ (q2:Nat) (gB:Nat) (cB9:Nat),RJ a0 158 25 ib (ibv w0.heap.size p k gF b o b9 cc fc.length c0 c.blk.length cB line (4:Int) pB pc (bs s) (blV c.blk) q2 gB cB9) l a1/\Zas 24 25 21 [(2,1),(3,2),(4,3),(8,7),(9,8),(10,9),(11,10),(13,12),(14,13),(15,14),(17,16),(18,17),(19,5),(19,6),(19,11),(19,15),(19,18),(20,19),(21,4),(21,20),(22,0),(23,22),(24,23),(24,21)] [(20,21)] (fun w9=>World.grownBy w.drew w9 vb) (fun w9=>w9.ownsRow w0.heap.size 131 5 (.slice pB c.blk.length cB) c.blk.length (blV c.blk)) (ibF w0.heap.size p k gF b o b9 cc fc.length c0 c.blk.length cB line (4:Int) pB pc (bs s) (blV c.blk) q2 gB cB9) (fun w9=>∃ (w8:World),World.grownBy w.drew w8 vb/\w8.ownsRow w0.heap.size 131 5 (.slice (some ⟨gB,0,none⟩) (c.blk.length+1) cB9) (c.blk.length+1) (blV c.blk++[.int .i64 line,.int .i64 (k:Int),.int .i64 (fc.length:Int),.string (bs s),.bool ((4:Int) == 4)])/\w9=w8.setCell ⟨p,6,none⟩ (.slice (some ⟨gB,0,none⟩) (c.blk.length+1) cB9)) l w1) (by kernel_rfl) rfl (Yt (by kernel_rfl)) (fun l a1 w1 h=>by obtain ⟨_,_,_,h,_⟩:=h;exact h.sz) ⟨0,0,0,Yc rfl,Zu (Zb _ _) (OWN.out)⟩ ?step ?fin
   case step =>
    intro l a1 w' i hJJ hi hin
    obtain ⟨q2,gB,cB9,hJ,hW⟩:=hJJ
    have hun:l.getD i false=false:=getD_both (mem_ready.1 hi).1
    have hns:=Xe hW hin hun
    have hg:=hW.g hns
    have l0:=Nat.lt_of_lt_of_le hlt hg.size
    have l1:=Nat.lt_of_lt_of_le hgF hg.size
    have l2:=Nat.lt_of_lt_of_le hb2 hg.size
    have l3:=Nat.lt_of_lt_of_le l9 hg.size
    rcases Zuy i hin with rfl|rfl|rfl|rfl|rfl|rfl|rfl|rfl|rfl|rfl|rfl|rfl|rfl|rfl|rfl|rfl|rfl|rfl|rfl|rfl|rfl|rfl|rfl|rfl|rfl
    · have e0:a1.tmps.getD 0 undef = .pointer (some ⟨p,0,none⟩):=hJ.un 0 (fun i hi _=>Zei 0 (by decide) i hi)
      exact Zc (Zd hJ hW hi hun (hne:=Xz _ (by decide)) (hrun:=by simp [execOp,Act.eval,e0,go_sem,ibv])) (fun a9 w9 h9=>⟨q2,gB,cB9,h9⟩)
    · have e0:a1.tmps.getD 0 undef = .pointer (some ⟨p,0,none⟩):=hJ.un 0 (fun i hi _=>Zei 0 (by decide) i hi)
      exact Zc (Zd hJ hW hi hun (hne:=Xz _ (by decide)) (hrun:=by simp [execOp,Act.eval,e0,go_sem,ibv])) (fun a9 w9 h9=>⟨q2,gB,cB9,h9⟩)
    · have e108:a1.tmps.getD 108 undef = .pointer (some ⟨p,0,none⟩):=rjt hJ hi 1
      exact Zc (Zd hJ hW hi hun (hne:=Xz _ (by decide)) (hrun:=by simp [execOp,Act.eval,e108,go_sem,ibv])) (fun a9 w9 h9=>⟨q2,gB,cB9,h9⟩)
    · have e109:a1.tmps.getD 109 undef = .pointer (some ⟨p,0,none⟩):=rjt hJ hi 2
      exact Zc (Zd hJ hW hi hun (hne:=Xz _ (by decide)) (hrun:=by simp [execOp,Act.eval,e109,go_sem,ibv])) (fun a9 w9 h9=>⟨q2,gB,cB9,h9⟩)
    · have e110:a1.tmps.getD 110 undef = .pointer (some ⟨p,6,none⟩):=rjt hJ hi 3
      have h0:=hg.cell c6 HNE
      exact Zc (Zd hJ hW hi hun (hne:=Xz _ (by decide)) (hrun:=by simp [execOp,Act.eval,e110,h0,l0,l1,l2,l3,go_sem,ibv])) (fun a9 w9 h9=>⟨q2,gB,cB9,h9⟩)
    · have e1:a1.tmps.getD 1 undef = .int .i64 line:=hJ.un 1 (fun i hi _=>Zei 1 (by decide) i hi)
      exact Zc (Zd hJ hW hi hun (hne:=Xz _ (by decide)) (hrun:=by simp [execOp,Act.eval,e1,l0,l1,l2,l3,go_sem,ibv])) (fun a9 w9 h9=>⟨q2,gB,cB9,h9⟩)
    · have e11:a1.tmps.getD 11 undef = .int .i64 (k:Int):=hJ.un 11 (fun i hi _=>Zei 11 (by decide) i hi)
      exact Zc (Zd hJ hW hi hun (hne:=Xz _ (by decide)) (hrun:=by simp [execOp,Act.eval,e11,l0,l1,l2,l3,go_sem,ibv])) (fun a9 w9 h9=>⟨q2,gB,cB9,h9⟩)
    · have e12:a1.tmps.getD 12 undef = .pointer (some ⟨gF,k*4,none⟩):=hJ.un 12 (fun i hi _=>Zei 12 (by decide) i hi)
      exact Zc (Zd hJ hW hi hun (hne:=Xz _ (by decide)) (hrun:=by simp [execOp,Act.eval,e12,go_sem,ibv])) (fun a9 w9 h9=>⟨q2,gB,cB9,h9⟩)
    · have e114:a1.tmps.getD 114 undef = .pointer (some ⟨gF,k*4,none⟩):=rjt hJ hi 7
      exact Zc (Zd hJ hW hi hun (hne:=Xz _ (by decide)) (hrun:=by simp [execOp,Act.eval,e114,go_sem,ibv])) (fun a9 w9 h9=>⟨q2,gB,cB9,h9⟩)
    · have e115:a1.tmps.getD 115 undef = .pointer (some ⟨gF,k*4,none⟩):=rjt hJ hi 8
      exact Zc (Zd hJ hW hi hun (hne:=Xz _ (by decide)) (hrun:=by simp [execOp,Act.eval,e115,go_sem,ibv])) (fun a9 w9 h9=>⟨q2,gB,cB9,h9⟩)
    · have e116:a1.tmps.getD 116 undef = .pointer (some ⟨gF,k*4+3,none⟩):=rjt hJ hi 9
      have h0:=hg.cell c3 HNF
      exact Zc (Zd hJ hW hi hun (hne:=Xz _ (by decide)) (hrun:=by simp [execOp,Act.eval,e116,h0,l0,l1,l2,l3,go_sem,ibv])) (fun a9 w9 h9=>⟨q2,gB,cB9,h9⟩)
    · have e117:a1.tmps.getD 117 undef = .slice pc fc.length c0:=rjt hJ hi 10
      exact Zc (Zd hJ hW hi hun (hne:=Xz _ (by decide)) (hrun:=by simp [execOp,resolve,invoke,builtin,Act.eval,e117,l0,l1,l2,l3,go_sem,ibv])) (fun a9 w9 h9=>⟨q2,gB,cB9,h9⟩)
    · have e2:a1.tmps.getD 2 undef = .slice (some ⟨b,o+4,none⟩) 1 (cc - 1):=hJ.un 2 (fun i hi _=>Zei 2 (by decide) i hi)
      exact Zc (Zd hJ hW hi hun (hne:=Xz _ (by decide)) (hrun:=by simp [execOp,resolve,invoke,builtin,Act.eval,e2,l0,l1,l2,l3,go_sem,ibv])) (fun a9 w9 h9=>⟨q2,gB,cB9,h9⟩)
    · have e119:a1.tmps.getD 119 undef = .slice (some ⟨b,o+4,none⟩) 1 (cc - 1):=rjt hJ hi 12
      exact Zc (Zd hJ hW hi hun (hne:=Xz _ (by decide)) (hrun:=by simp [execOp,resolve,invoke,builtin,Act.eval,e119,l0,l1,l2,l3,go_sem,ibv] <;> (intros;omega))) (fun a9 w9 h9=>⟨q2,gB,cB9,h9⟩)
    · have e120:a1.tmps.getD 120 undef = .pointer (some ⟨b,o+4,none⟩):=rjt hJ hi 13
      exact Zc (Zd hJ hW hi hun (hne:=Xz _ (by decide)) (hrun:=by simp [execOp,Act.eval,e120,go_sem,ibv])) (fun a9 w9 h9=>⟨q2,gB,cB9,h9⟩)
    · have e121:a1.tmps.getD 121 undef = .pointer (some ⟨b,o+4+1,none⟩):=rjt hJ hi 14
      have h0:=hg.cell x1 HNX
      exact Zc (Zd hJ hW hi hun (hne:=Xz _ (by decide)) (hrun:=by simp [execOp,Act.eval,e121,h0,l0,l1,l2,l3,go_sem,ibv])) (fun a9 w9 h9=>⟨q2,gB,cB9,h9⟩)
    · have e9:a1.tmps.getD 9 undef = .pointer (some ⟨b9,0,none⟩):=hJ.un 9 (fun i hi _=>Zei 9 (by decide) i hi)
      exact Zc (Zd hJ hW hi hun (hne:=Xz _ (by decide)) (hrun:=by simp [execOp,Act.eval,e9,go_sem,ibv])) (fun a9 w9 h9=>⟨q2,gB,cB9,h9⟩)
    · have e123:a1.tmps.getD 123 undef = .pointer (some ⟨b9,1,none⟩):=rjt hJ hi 16
      have h0:=hg.cell e9 HN9
      exact Zc (Zd hJ hW hi hun (hne:=Xz _ (by decide)) (hrun:=by simp [execOp,Act.eval,e123,h0,l0,l1,l2,l3,go_sem,ibv])) (fun a9 w9 h9=>⟨q2,gB,cB9,h9⟩)
    · have e124:a1.tmps.getD 124 undef = .int .i64 (4:Int):=rjt hJ hi 17
      exact Zc (Zd hJ hW hi hun (hne:=Xz _ (by decide)) (hrun:=by simp [execOp,Act.eval,e124,l0,l1,l2,l3,go_sem,ibv])) (fun a9 w9 h9=>⟨q2,gB,cB9,h9⟩)
    · have e112:a1.tmps.getD 112 undef = .int .i64 line:=rjt hJ hi 5
      have f112:=e112
      rw [Array.getD_eq_getD_getElem?] at f112
      have e113:a1.tmps.getD 113 undef = .int .i64 (k:Int):=rjt hJ hi 6
      have f113:=e113
      rw [Array.getD_eq_getD_getElem?] at f113
      have e118:a1.tmps.getD 118 undef = .int .i64 fc.length:=rjt hJ hi 11
      have f118:=e118
      rw [Array.getD_eq_getD_getElem?] at f118
      have e122:a1.tmps.getD 122 undef = .string (bs s):=rjt hJ hi 15
      have f122:=e122
      rw [Array.getD_eq_getD_getElem?] at f122
      have e125:a1.tmps.getD 125 undef = .bool ((4:Int) == 4):=rjt hJ hi 18
      have f125:=e125
      rw [Array.getD_eq_getD_getElem?] at f125
      exact Zc (Zd hJ hW hi hun (hne:=Xz _ (by decide)) (hrun:=by simp [execOp,Act.eval,e112,f112,e113,f113,e118,f118,e122,f122,e125,f125,l0,l1,l2,l3,go_sem,ibv])) (fun a9 w9 h9=>⟨q2,gB,cB9,h9⟩)
    · have e126:a1.tmps.getD 126 undef = .agg #[.int .i64 line,.int .i64 (k:Int),.int .i64 (fc.length:Int),.string (bs s),.bool ((4:Int) == 4)]:=rjt hJ hi 19
      have f126:=e126
      rw [Array.getD_eq_getD_getElem?] at f126
      refine Zt (v:=ibv w0.heap.size p k gF b o b9 cc fc.length c0 c.blk.length cB line (4:Int) pB pc (bs s) (blV c.blk) w'.heap.size gB cB9 20) (w':=w'.alloc (.cells #[.int .i64 line,.int .i64 (k:Int),.int .i64 (fc.length:Int),.string (bs s),.bool ((4:Int) == 4)] 131)) rfl (by rfl) (by simp [execOp,Act.eval,e126,f126,Ypo,Result.andThen,ibv]) ⟨w'.heap.size,gB,cB9,?_,Zo hW (by decide) hun (by decide) (Zg _ hi (by kernel_rfl)) (Za hg (Ga _ _ _)) (fun hne0 hun0 hB0=>hB0.alloc _) (fun j hj hne hl hcu hF => ?_) (heap_alloc_new w' _)⟩
      · exact Yg (val:=ibv w0.heap.size p k gF b o b9 cc fc.length c0 c.blk.length cB line (4:Int) pB pc (bs s) (blV c.blk) w'.heap.size gB cB9) (Yj hJ (Ypm hW.cl hun)) (by decide) (by decide) (Xz _ (by decide))
      · rcases Zuy j hj with rfl|rfl|rfl|rfl|rfl|rfl|rfl|rfl|rfl|rfl|rfl|rfl|rfl|rfl|rfl|rfl|rfl|rfl|rfl|rfl|rfl|rfl|rfl|rfl|rfl <;> first|exact True.intro|exact absurd rfl hne|exact Zk (hW.cl (21,20) (by decide) (hl)) hun
    · have e111:a1.tmps.getD 111 undef = .slice pB c.blk.length cB:=rjt hJ hi 4
      have e127:a1.tmps.getD 127 undef = .slice (some ⟨q2,0,none⟩) 1 1:=rjt hJ hi 20
      have F20:=hW.f hns 20 (by decide) (Zq hi 20 (by kernel_rfl)) (Jg (c:=21) (by decide) hun)
      have own:=hW.u hun
      obtain ⟨v8,w8,hap,hown,hgr,-⟩:=run_append_own_at (P:=Tryz.prog) w' w0.heap.size 68 68 131 ni (.agg #[.int .i64 0,.int .i64 0,.int .i64 0,.string ⟨#[]⟩,.bool false]) 5 48 Zvt ni0 ni1 ni2 ni3 rfl (by decide) _ c.blk.length (blV c.blk) own ⟨q2,0,none⟩ 1 1 [.int .i64 line,.int .i64 (k:Int),.int .i64 (fc.length:Int),.string (bs s),.bool ((4:Int) == 4)] rfl (Zbj F20) (Ytg _ _ _ _ _) (by unfold maxLen;omega) (by omega) (Nat.le_trans hE hg.size)
      rw [hvb] at hgr
      obtain ⟨gB2,cB92,hv⟩:=Js hown
      subst hv
      refine Zt (v:=ibv w0.heap.size p k gF b o b9 cc fc.length c0 c.blk.length cB line (4:Int) pB pc (bs s) (blV c.blk) q2 gB2 cB92 21) (w':=w8) rfl (by rfl) (by simp [execOp,resolve,invoke,builtin,Act.eval,e111,e127,hap,Result.andThen,ibv]) ⟨q2,gB2,cB92,?_,Zo hW (by decide) hun (by decide) (Zg _ hi (by kernel_rfl)) (Za hg hgr) (fun hne0 hun0 hB0=>absurd rfl hne0) (fun j hj hne hl hcu hF => ?_) (hown)⟩
      · exact Yg (val:=ibv w0.heap.size p k gF b o b9 cc fc.length c0 c.blk.length cB line (4:Int) pB pc (bs s) (blV c.blk) q2 gB2 cB92) (Yj hJ (Ypl hW.cl hun)) (by decide) (by decide) (Xz _ (by decide))
      · rcases Zuy j hj with rfl|rfl|rfl|rfl|rfl|rfl|rfl|rfl|rfl|rfl|rfl|rfl|rfl|rfl|rfl|rfl|rfl|rfl|rfl|rfl|rfl|rfl|rfl|rfl|rfl <;> first|exact True.intro|exact absurd rfl (hcu (20,21) (by decide) rfl).1|exact absurd rfl hne
    · have e107:a1.tmps.getD 107 undef = .pointer (some ⟨p,0,none⟩):=rjt hJ hi 0
      exact Zc (Zd hJ hW hi hun (hne:=Xz _ (by decide)) (hrun:=by simp [execOp,Act.eval,e107,go_sem,ibv])) (fun a9 w9 h9=>⟨q2,gB,cB9,h9⟩)
    · have e129:a1.tmps.getD 129 undef = .pointer (some ⟨p,0,none⟩):=rjt hJ hi 22
      exact Zc (Zd hJ hW hi hun (hne:=Xz _ (by decide)) (hrun:=by simp [execOp,Act.eval,e129,go_sem,ibv])) (fun a9 w9 h9=>⟨q2,gB,cB9,h9⟩)
    · have e130:a1.tmps.getD 130 undef = .pointer (some ⟨p,6,none⟩):=rjt hJ hi 23
      have e128:a1.tmps.getD 128 undef = .slice (some ⟨gB,0,none⟩) (c.blk.length+1) cB9:=rjt hJ hi 21
      have F21:=hW.f hns 21 (by decide) (Zq hi 21 (by kernel_rfl)) (Zat (by decide))
      have k1:=hg.cell c6 HNE
      have bx2:=hg.block p hlt HNE
      have j1:w'.frozen? ⟨p,6,none⟩=false:=(World.frozen?_of_block bx2).trans z6
      have lb2:=Nat.lt_of_lt_of_le hlt hg.size
      have O21:w'.ownsRow w0.heap.size 131 5 (.slice (some ⟨gB,0,none⟩) (c.blk.length+1) cB9) (c.blk.length+1) (blV c.blk++[.int .i64 line,.int .i64 (k:Int),.int .i64 (fc.length:Int),.string (bs s),.bool ((4:Int) == 4)]):=F21
      have hall:∀ j,j<25->j≠24->l.getD j false=true:=Jp hi hW.cl (by kernel_rfl)
      exact Zc (Jo (WS:=fun l9 w9=>Zas 24 25 21 [(2,1),(3,2),(4,3),(8,7),(9,8),(10,9),(11,10),(13,12),(14,13),(15,14),(17,16),(18,17),(19,5),(19,6),(19,11),(19,15),(19,18),(20,19),(21,4),(21,20),(22,0),(23,22),(24,23),(24,21)] [(20,21)] (fun w9=>World.grownBy w.drew w9 vb) (fun w9=>w9.ownsRow w0.heap.size 131 5 (.slice pB c.blk.length cB) c.blk.length (blV c.blk)) (ibF w0.heap.size p k gF b o b9 cc fc.length c0 c.blk.length cB line (4:Int) pB pc (bs s) (blV c.blk) q2 gB cB9) (fun w9=>∃ (w8:World),World.grownBy w.drew w8 vb/\w8.ownsRow w0.heap.size 131 5 (.slice (some ⟨gB,0,none⟩) (c.blk.length+1) cB9) (c.blk.length+1) (blV c.blk++[.int .i64 line,.int .i64 (k:Int),.int .i64 (fc.length:Int),.string (bs s),.bool ((4:Int) == 4)])/\w9=w8.setCell ⟨p,6,none⟩ (.slice (some ⟨gB,0,none⟩) (c.blk.length+1) cB9)) l9 w9) hJ rfl rfl rfl (by decide) (by decide) (w':=w'.setCell ⟨p,6,none⟩ (.slice (some ⟨gB,0,none⟩) (c.blk.length+1) cB9)) (by simp [execOp,Act.eval,e130,e128,k1,j1,lb2,go_sem]) (Xa hW (by decide) (by decide) hall (Zg _ hi (by kernel_rfl)) (⟨w',hg,O21,rfl⟩))) (fun a9 w9 h9=>⟨q2,gB,cB9,h9⟩)
   case fin =>
    intro l9 a1 w9 hJJ hl9
    obtain ⟨q2,gB,cB9,hJ,hW⟩:=hJJ
    have hq:=hW.q (hl9 24 (by decide))
    have hput:=Ys hJ rfl hl9 (fun i j h1 h2 h3=>Xz j h2 i h1 h3)
    subst hput
    clear hJ hW hl9 c3 c6 x0 x1 x2 x3 e9
    obtain ⟨w8,q1,q4,rfl⟩:=hq
    (try refine hK22 _ _ ?_)
    simp only [Ja,ib,ibv,Act.put,List.setIfInBounds_toArray,List.set_cons_zero,List.set_cons_succ]
    have M:=Zzs (x:=⟨line,(k:Int),(fc.length:Int),s,(4:Int) == 4⟩) (Xp HA.out.ps (Ze (Zb w none))) q4 (by rw [hvb];exact q1)
    have HB:=Zf (Zf (Zf HA.out.hi (Ze (Zb w none)) (by simp)) q1 (fun e=>HNI (by rw [hvb];exact e.symm))) (Zm w8 p 6 (.slice (some ⟨gB,0,none⟩) (c.blk.length+1) cB9)) (fun e=>HPI e)
    have MM:=Hq M
    have HBB:=Hq HB
    clear q1 q4 M HB
    have HBC:=Hq (show Ybd c line s ((4:Int) == 4)={ c with blk:=c.blk++[⟨line,(k:Int),(fc.length:Int),s,(4:Int) == 4⟩] } by
     unfold Ybd
     simp only [HA.out.hk,Nat.add_sub_cancel,HFE.out])
    generalize w8.setCell ⟨p,6,none⟩ (.slice (some ⟨gB,0,none⟩) (c.blk.length+1) cB9)=w5 at *
    go_upto_region 28 with fail
    rename_i K28 hK28
    exact Zra w0 ww w5 p (m+1) k gF cF bi _ x n 0 vd vL _ bm cv lb _ MM.out.1 HA.out.hk HA.out.hv HBB.out (HA.out.ne _ _ HA.out.hv) (Zz (Zz HA.out.fr (Xg (Ze (Zb w none)))) MM.out.2) hm _ (by rw [<- HBC.out];rfl) _ ⟨rfl,rfl,rfl,rfl⟩ _ hK28
end Go.Proofs.YteciblfmgdlipaaGreatDoor.AS
