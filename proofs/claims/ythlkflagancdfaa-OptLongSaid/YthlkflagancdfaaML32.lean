/-
  Part of a proof: contracts of functions and lemmas, each stated by its own theorem. Conditions: as each theorem states.
-/
import Derived.Test.YthlkflagancdfaaML31
import Derived.Deep.Cut
import Derived.IntWalk
import Derived.Outline
import Derived.Test.YthlkflagancdfaaML29
import Derived.Test.YthlkflagancdfaaML30
set_option linter.unusedSimpArgs false
set_option linter.unusedVariables false
set_option maxRecDepth 100000
set_option maxHeartbeats 16000000
namespace Go.Proofs.Ythlkflagancdfaa.OT
open Go.RowKit Go.Great
open Go.Proofs.Ythlkflagancdfaa.CK
def kp1:Nat->Nat
 | 0=>11
 | 1=>12
 | 2=>13
 | 3=>14
 | 4=>15
 | 5=>16
 | 6=>17
 | 7=>18
 | 8=>19
 | 9=>20
 | 10=>21
 | 11=>22
 | 12=>23
 | 13=>24
 | 14=>25
 | 15=>26
 | 16=>27
 | 17=>28
 | 18=>29
 | 19=>30
 | 20=>31
 | 21=>32
 | 22=>33
 | 23=>34
 | 24=>35
 | 25=>36
 | 26=>37
 | 27=>38
 | 28=>39
 | 29=>40
 | 30=>41
 | 31=>42
 | 32=>43
 | 33=>44
 | 34=>5
 | _=>5000
theorem Yz:∀ i,i<35->∀ j,j<35->j≠i->kp1 j≠kp1 i:=by decide
theorem Ygm (i:Nat) (h:i<35):i=0\/i=1\/i=2\/i=3\/i=4\/i=5\/i=6\/i=7\/i=8\/i=9\/i=10\/i=11\/i=12\/i=13\/i=14\/i=15\/i=16\/i=17\/i=18\/i=19\/i=20\/i=21\/i=22\/i=23\/i=24\/i=25\/i=26\/i=27\/i=28\/i=29\/i=30\/i=31\/i=32\/i=33\/i=34:=by omega
theorem Zgd (j:Nat) (hj:j∈[2,3]):∀ i,i<35->kp1 i≠j:=by revert j;decide
def Zcl (bL bP gD nD cD gF nF cG cd cF:Nat) (mem:Int) (pd pF:Option Addr):Nat->Value
 | 0 => .agg #[.int .i64 mem,.slice (some ⟨gD,0,none⟩) nD cD,.slice (some ⟨gF,0,none⟩) nF cG]
 | 1 => .agg #[.int .i64 mem,.slice pd nD cd,.slice pF nF cF]
 | 2 => .bool true
 | 3 => .bool true
 | 4 => .pointer (some ⟨bL,1,none⟩)
 | 5 => .slice (some ⟨gD,0,none⟩) nD cD
 | 6 => .pointer (some ⟨bP,1,none⟩)
 | 7 => .slice pd nD cd
 | 8 => .int .i64 nD
 | 9 => .int .i64 ((nD:Int)+1)
 | 10 => .slice (some ⟨gD,0,none⟩) (nD+1) cD
 | 11 => .pointer (some ⟨bP,1,none⟩)
 | 12 => .slice pd nD cd
 | 13 => .int .i64 nD
 | 14 => .pointer (some ⟨gD,nD,none⟩)
 | 15 => .int .u8 169
 | 16 => .bool true
 | 17 => .bool true
 | 18 => .bool true
 | 19 => .pointer (some ⟨bL,2,none⟩)
 | 20 => .slice (some ⟨gF,0,none⟩) nF cG
 | 21 => .pointer (some ⟨bP,2,none⟩)
 | 22 => .slice pF nF cF
 | 23 => .int .i64 nF
 | 24 => .int .i64 ((nF:Int)+1)
 | 25 => .slice (some ⟨gF,0,none⟩) (nF+1) cG
 | 26 => .pointer (some ⟨bP,2,none⟩)
 | 27 => .slice pF nF cF
 | 28 => .int .i64 nF
 | 29 => .pointer (some ⟨gF,nF*4,none⟩)
 | 30 => .pointer (some ⟨gF,nF*4,none⟩)
 | 31 => .int .i64 (-7)
 | 32 => .bool true
 | 33 => .bool true
 | 34 => .bool true
 | _=>undef
def Xcx (bL bP gD nD cD gF nF cG cd cF:Nat) (mem:Int) (pd pF:Option Addr)  : Nat->World->Prop
 | 2=>fun _=>True
 | _=>fun _=>True
theorem Yxh {bL bP gD nD cD gF nF cG cd cF:Nat} {mem:Int} {pd pF:Option Addr}   {l:Array Bool} (hcl:∀ p∈([(2,0),(2,1),(3,2),(4,3),(5,4),(5,3),(6,3),(7,6),(7,3),(8,7),(8,3),(9,8),(9,3),(10,5),(10,9),(10,3),(11,3),(12,11),(12,3),(13,12),(13,3),(14,10),(14,13),(14,3),(15,14),(15,3),(16,15),(16,3),(17,3),(17,16),(18,17),(19,18),(20,19),(20,18),(21,18),(22,21),(22,18),(23,22),(23,18),(24,23),(24,18),(25,20),(25,24),(25,18),(26,18),(27,26),(27,18),(28,27),(28,18),(29,25),(29,28),(29,18),(30,29),(30,18),(31,30),(31,18),(32,31),(32,18),(33,18),(33,32),(34,33)]:List (Nat × Nat)),l.getD (Prod.fst p) false=true->l.getD (Prod.snd p) false=true) (hun:l.getD 2 false=false):∀ i,i<35->l.getD i false=true->kp1 i<120->Zcl bL bP gD nD cD gF nF cG cd cF mem pd pF  i=Zcl bL bP gD nD cD gF nF cG cd cF mem pd pF  i:=by
 intro i hi hl _
 rcases Ygm i hi with rfl|rfl|rfl|rfl|rfl|rfl|rfl|rfl|rfl|rfl|rfl|rfl|rfl|rfl|rfl|rfl|rfl|rfl|rfl|rfl|rfl|rfl|rfl|rfl|rfl|rfl|rfl|rfl|rfl|rfl|rfl|rfl|rfl|rfl|rfl
 · rfl
 · rfl
 · rfl
 · rfl
 · rfl
 · rfl
 · rfl
 · rfl
 · rfl
 · rfl
 · rfl
 · rfl
 · rfl
 · rfl
 · rfl
 · rfl
 · rfl
 · rfl
 · rfl
 · rfl
 · rfl
 · rfl
 · rfl
 · rfl
 · rfl
 · rfl
 · rfl
 · rfl
 · rfl
 · rfl
 · rfl
 · rfl
 · rfl
 · rfl
 · rfl
theorem Ymt (mem:Int) (dl:List Int) (fs:List FnP) (cv:List Value) (pd pF:Option Addr) (gD cD gF cG cd cF B base hi:Nat) (w:World) (hB:B<=base) (hhi:hi<=w.heap.size) (hL:Znl w base hi gD cD gF cG dl fs cv) (hF:Yk w B pF fs) (hD:Rd w pd (dl.map (Value.int .u8))) (hd:dl.length<=4194304) (hn:fs.length<=2097151) (hc:∀ f∈fs,f.2.2.2.length<=4194304) :
 Calls Try.prog 16 #[.agg #[.int .i64 mem,.slice (some ⟨gD,0,none⟩) dl.length cD,.slice (some ⟨gF,0,none⟩) fs.length cG],.agg #[.int .i64 mem,.slice pd dl.length cd,.slice pF fs.length cF]] w fun e w'=>e = .returned (.bool true)/\Sp (fun k=>base<=k/\k<hi) w w':=by
 have T0:=Hq (Yt w (.cells #[.int .i64 mem,.slice (some ⟨gD,0,none⟩) dl.length cD,.slice (some ⟨gF,0,none⟩) fs.length cG] 25) (.cells #[.int .i64 mem,.slice pd dl.length cd,.slice pF fs.length cF] 25))
 have T1:=Hq (Yi w (.cells #[.int .i64 mem,.slice (some ⟨gD,0,none⟩) dl.length cD,.slice (some ⟨gF,0,none⟩) fs.length cG] 25) (.cells #[.int .i64 mem,.slice pd dl.length cd,.slice pF fs.length cF] 25))
 have G0:=Za (Ga w (.cells #[.int .i64 mem,.slice (some ⟨gD,0,none⟩) dl.length cD,.slice (some ⟨gF,0,none⟩) fs.length cG] 25) none) (Ga _ (.cells #[.int .i64 mem,.slice pd dl.length cd,.slice pF fs.length cF] 25) none)
 have HL:=Hq (Zbv hL G0)
 have HF:=Hq (Zs hF G0 (by simp))
 have HD:=Hq (Yy hD G0)
 have hBw:B<=w.heap.size:=Nat.le_trans hB (Nat.le_trans (hL.d.lt gD rfl).1 (Nat.le_of_lt (hL.d.lt gD rfl).2))
 have HG0:=Hq G0
 have HC:=Hq hc
 have hni:(fs.length:Int)<=2097151:=by omega
 have hdi:(dl.length:Int)<=4194304:=by omega
 clear hL hF hD hc G0
 go_enter Try.func16,Try.ntmps16
 go_upto_region 1 with fail
 rename_i K hK
 generalize (w.alloc (.cells #[.int .i64 mem,.slice (some ⟨gD,0,none⟩) dl.length cD,.slice (some ⟨gF,0,none⟩) fs.length cG] 25)).alloc (.cells #[.int .i64 mem,.slice pd dl.length cd,.slice pF fs.length cF] 25)=w2 at *
 have hw1:IntKind.i64.wrap ((dl.length:Int)+1)=(dl.length:Int)+1:=IntWalk.i64_in _ (by omega)
 have hw2:IntKind.i64.wrap ((fs.length:Int)+1)=(fs.length:Int)+1:=IntWalk.i64_in _ (by omega)
 refine Xe (n:=35) (J:=fun a0 l a1 w1=>RJ a0 120 35 kp1 (Zcl w.heap.size (w.heap.size+1) gD dl.length cD gF fs.length cG cd cF mem pd pF ) l a1/\Zvn 35 35 0 [(2,0),(2,1),(3,2),(4,3),(5,4),(5,3),(6,3),(7,6),(7,3),(8,7),(8,3),(9,8),(9,3),(10,5),(10,9),(10,3),(11,3),(12,11),(12,3),(13,12),(13,3),(14,10),(14,13),(14,3),(15,14),(15,3),(16,15),(16,3),(17,3),(17,16),(18,17),(19,18),(20,19),(20,18),(21,18),(22,21),(22,18),(23,22),(23,18),(24,23),(24,18),(25,20),(25,24),(25,18),(26,18),(27,26),(27,18),(28,27),(28,18),(29,25),(29,28),(29,18),(30,29),(30,18),(31,30),(31,18),(32,31),(32,18),(33,18),(33,32),(34,33)] [] (fun w9=>World.grownBy (w2.drew) w9 none) (fun _=>True) (Xcx w.heap.size (w.heap.size+1) gD dl.length cD gF fs.length cG cd cF mem pd pF ) (fun _=>True) l w1) (by kernel_rfl) rfl (Jh (by kernel_rfl)) (fun l a1 w1 h=>by obtain ⟨h,_⟩:=h;exact h.sz) ⟨Xd rfl,Zfq (Zc _ _) (True.intro)⟩ ?step ?fin
 case step =>
  intro l a1 w' i hJJ hi hin
  obtain ⟨hJ,hW⟩:=hJJ
  have hun:l.getD i false=false:=getD_both (mem_ready.1 hi).1
  have hns:=Zlk hW hin hun
  have hg:=hW.g hns
  have hg2:=Za (Zd (Zc w2 none)) hg
  have x0:=Zb T0.out (Za (Zd (Zc w2 none)) hg) (by simp)
  have x1:=Zb T1.out (Za (Zd (Zc w2 none)) hg) (by simp)
  have la:=Zbv HL.out (Za (Zd (Zc w2 none)) hg)
  have l0:=(Gs x0)
  have l1:=(Gs x1)
  have l2:=(Zjm la).2.2
  have l3:=(Zez la).2.2
  have hcD:(dl.length:Int)+1<=(cD:Int):=by have:=(Zjm la).2.1;omega
  have hcF:(fs.length:Int)+1<=(cG:Int):=by have:=(Zez la).2.1;omega
  rcases Ygm i hin with rfl|rfl|rfl|rfl|rfl|rfl|rfl|rfl|rfl|rfl|rfl|rfl|rfl|rfl|rfl|rfl|rfl|rfl|rfl|rfl|rfl|rfl|rfl|rfl|rfl|rfl|rfl|rfl|rfl|rfl|rfl|rfl|rfl|rfl|rfl
  · have e2:a1.tmps.getD 2 undef = .pointer (some ⟨w.heap.size,0,none⟩):=hJ.un 2 (fun i hi _=>Zgd 2 (by decide) i hi)
    have h0:=Cq _ _ 0 _ _ _ x0
    have h1:=Cq _ _ 1 _ _ _ x0
    have h2:=Cq _ _ 2 _ _ _ x0
    exact Ya hJ hW hi hun rfl (by rfl) rfl (by decide) (by decide) (Yz _ (by decide)) (w':=w') (by simp [execOp,resolve,invoke,builtin,Act.eval,e2,h0,h1,h2,l0,l1,l2,l3,hw1,hw2,hcD,hcF,go_sem,Zcl]) (⟨by decide,by kernel_rfl,True.intro⟩)
  · have e3:a1.tmps.getD 3 undef = .pointer (some ⟨(w.heap.size+1),0,none⟩):=hJ.un 3 (fun i hi _=>Zgd 3 (by decide) i hi)
    have h0:=Cq _ _ 0 _ _ _ x1
    have h1:=Cq _ _ 1 _ _ _ x1
    have h2:=Cq _ _ 2 _ _ _ x1
    exact Ya hJ hW hi hun rfl (by rfl) rfl (by decide) (by decide) (Yz _ (by decide)) (w':=w') (by simp [execOp,resolve,invoke,builtin,Act.eval,e3,h0,h1,h2,l0,l1,l2,l3,hw1,hw2,hcD,hcF,go_sem,Zcl]) (⟨by decide,by kernel_rfl,True.intro⟩)
  · have e11:a1.tmps.getD 11 undef = .agg #[.int .i64 mem,.slice (some ⟨gD,0,none⟩) dl.length cD,.slice (some ⟨gF,0,none⟩) fs.length cG]:=(Zm hJ hi 0 (by kernel_rfl))
    have e12:a1.tmps.getD 12 undef = .agg #[.int .i64 mem,.slice pd dl.length cd,.slice pF fs.length cF]:=(Zm hJ hi 1 (by kernel_rfl))
    refine Xq rfl (by rfl) (by simp [execOp,resolve,invoke,Act.eval,e11,e12,go_sem]) (Calls.mono (Zyg mem dl fs (some ⟨gD,0,none⟩) pd (some ⟨gF,0,none⟩) pF cD cd cG cF w'.heap.size B w' (Nat.le_refl _) (Nat.le_trans hBw (Nat.le_trans HG0.out.size hg.size)) (by omega) (fun x hx=>by have:=HC.out x hx;omega) (Zmq la) (Yy HD.out hg2) (Zmp la) (Zs HF.out hg2 (by simp))) (fun e w2 he => ?_))
    obtain ⟨rfl,g2⟩:=he
    refine ⟨_,rfl,?_,Zbe hW (by decide) hun (by decide) (Zn _ hi (by kernel_rfl)) (Za hg g2) (fun hne0 hun0 hB0=>hB0) (fun j hj hne hl hcu hF => ?_) (True.intro)⟩
    · exact Jq (val:=Zcl w.heap.size (w.heap.size+1) gD dl.length cD gF fs.length cG cd cF mem pd pF ) (Jj hJ (Yxh hW.cl hun)) (by decide) (by decide) (Yz _ (by decide))
    · rcases Ygm j hj with rfl|rfl|rfl|rfl|rfl|rfl|rfl|rfl|rfl|rfl|rfl|rfl|rfl|rfl|rfl|rfl|rfl|rfl|rfl|rfl|rfl|rfl|rfl|rfl|rfl|rfl|rfl|rfl|rfl|rfl|rfl|rfl|rfl|rfl|rfl
      · exact True.intro
      · exact True.intro
      · exact absurd rfl hne
      · exact True.intro
      · exact True.intro
      · exact True.intro
      · exact True.intro
      · exact True.intro
      · exact True.intro
      · exact True.intro
      · exact True.intro
      · exact True.intro
      · exact True.intro
      · exact True.intro
      · exact True.intro
      · exact True.intro
      · exact True.intro
      · exact True.intro
      · exact True.intro
      · exact True.intro
      · exact True.intro
      · exact True.intro
      · exact True.intro
      · exact True.intro
      · exact True.intro
      · exact True.intro
      · exact True.intro
      · exact True.intro
      · exact True.intro
      · exact True.intro
      · exact True.intro
      · exact True.intro
      · exact True.intro
      · exact True.intro
      · exact True.intro
  · have e13:a1.tmps.getD 13 undef = .bool true:=(Zm hJ hi 2 (by kernel_rfl))
    exact Ya hJ hW hi hun rfl (by rfl) rfl (by decide) (by decide) (Yz _ (by decide)) (w':=w') (by simp [execOp,resolve,invoke,builtin,Act.eval,e13,l0,l1,l2,l3,hw1,hw2,hcD,hcF,go_sem,Zcl]) (⟨by decide,by kernel_rfl,True.intro⟩)
  · have e2:a1.tmps.getD 2 undef = .pointer (some ⟨w.heap.size,0,none⟩):=hJ.un 2 (fun i hi _=>Zgd 2 (by decide) i hi)
    have eg:a1.tmps.getD 14 undef = .bool true:=(Zm hJ hi 3 (by kernel_rfl))
    exact Ya hJ hW hi hun rfl (Yj (k:=3) (d:=14) (b:=true) rfl rfl (by rw [hJ.ts];decide) eg) rfl (by decide) (by decide) (Yz _ (by decide)) (w':=w') (by simp [execOp,resolve,invoke,builtin,Act.eval,e2,l0,l1,l2,l3,hw1,hw2,hcD,hcF,go_sem,Zcl]) (⟨by decide,by kernel_rfl,True.intro⟩)
  · have e15:a1.tmps.getD 15 undef = .pointer (some ⟨w.heap.size,1,none⟩):=(Zm hJ hi 4 (by kernel_rfl))
    have eg:a1.tmps.getD 14 undef = .bool true:=(Zm hJ hi 3 (by kernel_rfl))
    have h0:=Cq _ _ 1 _ _ _ x0
    exact Ya hJ hW hi hun rfl (Yj (k:=3) (d:=14) (b:=true) rfl rfl (by rw [hJ.ts];decide) eg) rfl (by decide) (by decide) (Yz _ (by decide)) (w':=w') (by simp [execOp,resolve,invoke,builtin,Act.eval,e15,h0,l0,l1,l2,l3,hw1,hw2,hcD,hcF,go_sem,Zcl]) (⟨by decide,by kernel_rfl,True.intro⟩)
  · have e3:a1.tmps.getD 3 undef = .pointer (some ⟨(w.heap.size+1),0,none⟩):=hJ.un 3 (fun i hi _=>Zgd 3 (by decide) i hi)
    have eg:a1.tmps.getD 14 undef = .bool true:=(Zm hJ hi 3 (by kernel_rfl))
    exact Ya hJ hW hi hun rfl (Yj (k:=3) (d:=14) (b:=true) rfl rfl (by rw [hJ.ts];decide) eg) rfl (by decide) (by decide) (Yz _ (by decide)) (w':=w') (by simp [execOp,resolve,invoke,builtin,Act.eval,e3,l0,l1,l2,l3,hw1,hw2,hcD,hcF,go_sem,Zcl]) (⟨by decide,by kernel_rfl,True.intro⟩)
  · have e17:a1.tmps.getD 17 undef = .pointer (some ⟨(w.heap.size+1),1,none⟩):=(Zm hJ hi 6 (by kernel_rfl))
    have eg:a1.tmps.getD 14 undef = .bool true:=(Zm hJ hi 3 (by kernel_rfl))
    have h0:=Cq _ _ 1 _ _ _ x1
    exact Ya hJ hW hi hun rfl (Yj (k:=3) (d:=14) (b:=true) rfl rfl (by rw [hJ.ts];decide) eg) rfl (by decide) (by decide) (Yz _ (by decide)) (w':=w') (by simp [execOp,resolve,invoke,builtin,Act.eval,e17,h0,l0,l1,l2,l3,hw1,hw2,hcD,hcF,go_sem,Zcl]) (⟨by decide,by kernel_rfl,True.intro⟩)
  · have e18:a1.tmps.getD 18 undef = .slice pd dl.length cd:=(Zm hJ hi 7 (by kernel_rfl))
    have eg:a1.tmps.getD 14 undef = .bool true:=(Zm hJ hi 3 (by kernel_rfl))
    exact Ya hJ hW hi hun rfl (Yj (k:=3) (d:=14) (b:=true) rfl rfl (by rw [hJ.ts];decide) eg) rfl (by decide) (by decide) (Yz _ (by decide)) (w':=w') (by simp [execOp,resolve,invoke,builtin,Act.eval,e18,l0,l1,l2,l3,hw1,hw2,hcD,hcF,go_sem,Zcl]) (⟨by decide,by kernel_rfl,True.intro⟩)
  · have e19:a1.tmps.getD 19 undef = .int .i64 dl.length:=(Zm hJ hi 8 (by kernel_rfl))
    have eg:a1.tmps.getD 14 undef = .bool true:=(Zm hJ hi 3 (by kernel_rfl))
    exact Ya hJ hW hi hun rfl (Yj (k:=3) (d:=14) (b:=true) rfl rfl (by rw [hJ.ts];decide) eg) rfl (by decide) (by decide) (Yz _ (by decide)) (w':=w') (by simp [execOp,resolve,invoke,builtin,Act.eval,e19,l0,l1,l2,l3,hw1,hw2,hcD,hcF,go_sem,Zcl]) (⟨by decide,by kernel_rfl,True.intro⟩)
  · have e16:a1.tmps.getD 16 undef = .slice (some ⟨gD,0,none⟩) dl.length cD:=(Zm hJ hi 5 (by kernel_rfl))
    have e20:a1.tmps.getD 20 undef = .int .i64 ((dl.length:Int)+1):=(Zm hJ hi 9 (by kernel_rfl))
    have eg:a1.tmps.getD 14 undef = .bool true:=(Zm hJ hi 3 (by kernel_rfl))
    exact Ya hJ hW hi hun rfl (Yj (k:=3) (d:=14) (b:=true) rfl rfl (by rw [hJ.ts];decide) eg) rfl (by decide) (by decide) (Yz _ (by decide)) (w':=w') (by first|(simp [execOp,resolve,invoke,builtin,Act.eval,e16,e20,l0,l1,l2,l3,hw1,hw2,hcD,hcF,go_sem,Zcl];done)|(simp [execOp,resolve,invoke,builtin,Act.eval,e16,e20,l0,l1,l2,l3,hw1,hw2,hcD,hcF,go_sem,Zcl];omega)|(simp [execOp,resolve,invoke,builtin,Act.eval,e16,e20,l0,l1,l2,l3,hw1,hw2,hcD,hcF,go_sem,Zcl];intro h;omega)|(simp [execOp,resolve,invoke,builtin,Act.eval,e16,e20,l0,l1,l2,l3,hw1,hw2,hcD,hcF,go_sem,Zcl];intros;omega)) (⟨by decide,by kernel_rfl,True.intro⟩)
  · have e3:a1.tmps.getD 3 undef = .pointer (some ⟨(w.heap.size+1),0,none⟩):=hJ.un 3 (fun i hi _=>Zgd 3 (by decide) i hi)
    have eg:a1.tmps.getD 14 undef = .bool true:=(Zm hJ hi 3 (by kernel_rfl))
    exact Ya hJ hW hi hun rfl (Yj (k:=3) (d:=14) (b:=true) rfl rfl (by rw [hJ.ts];decide) eg) rfl (by decide) (by decide) (Yz _ (by decide)) (w':=w') (by simp [execOp,resolve,invoke,builtin,Act.eval,e3,l0,l1,l2,l3,hw1,hw2,hcD,hcF,go_sem,Zcl]) (⟨by decide,by kernel_rfl,True.intro⟩)
  · have e22:a1.tmps.getD 22 undef = .pointer (some ⟨(w.heap.size+1),1,none⟩):=(Zm hJ hi 11 (by kernel_rfl))
    have eg:a1.tmps.getD 14 undef = .bool true:=(Zm hJ hi 3 (by kernel_rfl))
    have h0:=Cq _ _ 1 _ _ _ x1
    exact Ya hJ hW hi hun rfl (Yj (k:=3) (d:=14) (b:=true) rfl rfl (by rw [hJ.ts];decide) eg) rfl (by decide) (by decide) (Yz _ (by decide)) (w':=w') (by simp [execOp,resolve,invoke,builtin,Act.eval,e22,h0,l0,l1,l2,l3,hw1,hw2,hcD,hcF,go_sem,Zcl]) (⟨by decide,by kernel_rfl,True.intro⟩)
  · have e23:a1.tmps.getD 23 undef = .slice pd dl.length cd:=(Zm hJ hi 12 (by kernel_rfl))
    have eg:a1.tmps.getD 14 undef = .bool true:=(Zm hJ hi 3 (by kernel_rfl))
    exact Ya hJ hW hi hun rfl (Yj (k:=3) (d:=14) (b:=true) rfl rfl (by rw [hJ.ts];decide) eg) rfl (by decide) (by decide) (Yz _ (by decide)) (w':=w') (by simp [execOp,resolve,invoke,builtin,Act.eval,e23,l0,l1,l2,l3,hw1,hw2,hcD,hcF,go_sem,Zcl]) (⟨by decide,by kernel_rfl,True.intro⟩)
  · have e21:a1.tmps.getD 21 undef = .slice (some ⟨gD,0,none⟩) (dl.length+1) cD:=(Zm hJ hi 10 (by kernel_rfl))
    have e24:a1.tmps.getD 24 undef = .int .i64 dl.length:=(Zm hJ hi 13 (by kernel_rfl))
    have eg:a1.tmps.getD 14 undef = .bool true:=(Zm hJ hi 3 (by kernel_rfl))
    exact Ya hJ hW hi hun rfl (Yj (k:=3) (d:=14) (b:=true) rfl rfl (by rw [hJ.ts];decide) eg) rfl (by decide) (by decide) (Yz _ (by decide)) (w':=w') (by first|(simp [execOp,resolve,invoke,builtin,Act.eval,e21,e24,l0,l1,l2,l3,hw1,hw2,hcD,hcF,go_sem,Zcl];done)|(simp [execOp,resolve,invoke,builtin,Act.eval,e21,e24,l0,l1,l2,l3,hw1,hw2,hcD,hcF,go_sem,Zcl];omega)|(simp [execOp,resolve,invoke,builtin,Act.eval,e21,e24,l0,l1,l2,l3,hw1,hw2,hcD,hcF,go_sem,Zcl];intro h;omega)|(simp [execOp,resolve,invoke,builtin,Act.eval,e21,e24,l0,l1,l2,l3,hw1,hw2,hcD,hcF,go_sem,Zcl];intros;omega)) (⟨by decide,by kernel_rfl,True.intro⟩)
  · have e25:a1.tmps.getD 25 undef = .pointer (some ⟨gD,dl.length,none⟩):=(Zm hJ hi 14 (by kernel_rfl))
    have eg:a1.tmps.getD 14 undef = .bool true:=(Zm hJ hi 3 (by kernel_rfl))
    have h0:=(Zjm la).1
    exact Ya hJ hW hi hun rfl (Yj (k:=3) (d:=14) (b:=true) rfl rfl (by rw [hJ.ts];decide) eg) rfl (by decide) (by decide) (Yz _ (by decide)) (w':=w') (by simp [execOp,resolve,invoke,builtin,Act.eval,e25,h0,l0,l1,l2,l3,hw1,hw2,hcD,hcF,go_sem,Zcl]) (⟨by decide,by kernel_rfl,True.intro⟩)
  · have e26:a1.tmps.getD 26 undef = .int .u8 169:=(Zm hJ hi 15 (by kernel_rfl))
    have eg:a1.tmps.getD 14 undef = .bool true:=(Zm hJ hi 3 (by kernel_rfl))
    exact Ya hJ hW hi hun rfl (Yj (k:=3) (d:=14) (b:=true) rfl rfl (by rw [hJ.ts];decide) eg) rfl (by decide) (by decide) (Yz _ (by decide)) (w':=w') (by simp [execOp,resolve,invoke,builtin,Act.eval,e26,l0,l1,l2,l3,hw1,hw2,hcD,hcF,go_sem,Zcl]) (⟨by decide,by kernel_rfl,True.intro⟩)
  · have e14:a1.tmps.getD 14 undef = .bool true:=(Zm hJ hi 3 (by kernel_rfl))
    have e27:a1.tmps.getD 27 undef = .bool true:=(Zm hJ hi 16 (by kernel_rfl))
    exact Ya hJ hW hi hun rfl (by rfl) rfl (by decide) (by decide) (Yz _ (by decide)) (w':=w') (by simp [execOp,resolve,invoke,builtin,Act.eval,e14,e27,l0,l1,l2,l3,hw1,hw2,hcD,hcF,go_sem,Zcl]) (⟨by decide,by kernel_rfl,True.intro⟩)
  · have e28:a1.tmps.getD 28 undef = .bool true:=(Zm hJ hi 17 (by kernel_rfl))
    exact Ya hJ hW hi hun rfl (by rfl) rfl (by decide) (by decide) (Yz _ (by decide)) (w':=w') (by simp [execOp,resolve,invoke,builtin,Act.eval,e28,l0,l1,l2,l3,hw1,hw2,hcD,hcF,go_sem,Zcl]) (⟨by decide,by kernel_rfl,True.intro⟩)
  · have e2:a1.tmps.getD 2 undef = .pointer (some ⟨w.heap.size,0,none⟩):=hJ.un 2 (fun i hi _=>Zgd 2 (by decide) i hi)
    have eg:a1.tmps.getD 29 undef = .bool true:=(Zm hJ hi 18 (by kernel_rfl))
    exact Ya hJ hW hi hun rfl (Yj (k:=18) (d:=29) (b:=true) rfl rfl (by rw [hJ.ts];decide) eg) rfl (by decide) (by decide) (Yz _ (by decide)) (w':=w') (by simp [execOp,resolve,invoke,builtin,Act.eval,e2,l0,l1,l2,l3,hw1,hw2,hcD,hcF,go_sem,Zcl]) (⟨by decide,by kernel_rfl,True.intro⟩)
  · have e30:a1.tmps.getD 30 undef = .pointer (some ⟨w.heap.size,2,none⟩):=(Zm hJ hi 19 (by kernel_rfl))
    have eg:a1.tmps.getD 29 undef = .bool true:=(Zm hJ hi 18 (by kernel_rfl))
    have h0:=Cq _ _ 2 _ _ _ x0
    exact Ya hJ hW hi hun rfl (Yj (k:=18) (d:=29) (b:=true) rfl rfl (by rw [hJ.ts];decide) eg) rfl (by decide) (by decide) (Yz _ (by decide)) (w':=w') (by simp [execOp,resolve,invoke,builtin,Act.eval,e30,h0,l0,l1,l2,l3,hw1,hw2,hcD,hcF,go_sem,Zcl]) (⟨by decide,by kernel_rfl,True.intro⟩)
  · have e3:a1.tmps.getD 3 undef = .pointer (some ⟨(w.heap.size+1),0,none⟩):=hJ.un 3 (fun i hi _=>Zgd 3 (by decide) i hi)
    have eg:a1.tmps.getD 29 undef = .bool true:=(Zm hJ hi 18 (by kernel_rfl))
    exact Ya hJ hW hi hun rfl (Yj (k:=18) (d:=29) (b:=true) rfl rfl (by rw [hJ.ts];decide) eg) rfl (by decide) (by decide) (Yz _ (by decide)) (w':=w') (by simp [execOp,resolve,invoke,builtin,Act.eval,e3,l0,l1,l2,l3,hw1,hw2,hcD,hcF,go_sem,Zcl]) (⟨by decide,by kernel_rfl,True.intro⟩)
  · have e32:a1.tmps.getD 32 undef = .pointer (some ⟨(w.heap.size+1),2,none⟩):=(Zm hJ hi 21 (by kernel_rfl))
    have eg:a1.tmps.getD 29 undef = .bool true:=(Zm hJ hi 18 (by kernel_rfl))
    have h0:=Cq _ _ 2 _ _ _ x1
    exact Ya hJ hW hi hun rfl (Yj (k:=18) (d:=29) (b:=true) rfl rfl (by rw [hJ.ts];decide) eg) rfl (by decide) (by decide) (Yz _ (by decide)) (w':=w') (by simp [execOp,resolve,invoke,builtin,Act.eval,e32,h0,l0,l1,l2,l3,hw1,hw2,hcD,hcF,go_sem,Zcl]) (⟨by decide,by kernel_rfl,True.intro⟩)
  · have e33:a1.tmps.getD 33 undef = .slice pF fs.length cF:=(Zm hJ hi 22 (by kernel_rfl))
    have eg:a1.tmps.getD 29 undef = .bool true:=(Zm hJ hi 18 (by kernel_rfl))
    exact Ya hJ hW hi hun rfl (Yj (k:=18) (d:=29) (b:=true) rfl rfl (by rw [hJ.ts];decide) eg) rfl (by decide) (by decide) (Yz _ (by decide)) (w':=w') (by simp [execOp,resolve,invoke,builtin,Act.eval,e33,l0,l1,l2,l3,hw1,hw2,hcD,hcF,go_sem,Zcl]) (⟨by decide,by kernel_rfl,True.intro⟩)
  · have e34:a1.tmps.getD 34 undef = .int .i64 fs.length:=(Zm hJ hi 23 (by kernel_rfl))
    have eg:a1.tmps.getD 29 undef = .bool true:=(Zm hJ hi 18 (by kernel_rfl))
    exact Ya hJ hW hi hun rfl (Yj (k:=18) (d:=29) (b:=true) rfl rfl (by rw [hJ.ts];decide) eg) rfl (by decide) (by decide) (Yz _ (by decide)) (w':=w') (by simp [execOp,resolve,invoke,builtin,Act.eval,e34,l0,l1,l2,l3,hw1,hw2,hcD,hcF,go_sem,Zcl]) (⟨by decide,by kernel_rfl,True.intro⟩)
  · have e31:a1.tmps.getD 31 undef = .slice (some ⟨gF,0,none⟩) fs.length cG:=(Zm hJ hi 20 (by kernel_rfl))
    have e35:a1.tmps.getD 35 undef = .int .i64 ((fs.length:Int)+1):=(Zm hJ hi 24 (by kernel_rfl))
    have eg:a1.tmps.getD 29 undef = .bool true:=(Zm hJ hi 18 (by kernel_rfl))
    exact Ya hJ hW hi hun rfl (Yj (k:=18) (d:=29) (b:=true) rfl rfl (by rw [hJ.ts];decide) eg) rfl (by decide) (by decide) (Yz _ (by decide)) (w':=w') (by first|(simp [execOp,resolve,invoke,builtin,Act.eval,e31,e35,l0,l1,l2,l3,hw1,hw2,hcD,hcF,go_sem,Zcl];done)|(simp [execOp,resolve,invoke,builtin,Act.eval,e31,e35,l0,l1,l2,l3,hw1,hw2,hcD,hcF,go_sem,Zcl];omega)|(simp [execOp,resolve,invoke,builtin,Act.eval,e31,e35,l0,l1,l2,l3,hw1,hw2,hcD,hcF,go_sem,Zcl];intro h;omega)|(simp [execOp,resolve,invoke,builtin,Act.eval,e31,e35,l0,l1,l2,l3,hw1,hw2,hcD,hcF,go_sem,Zcl];intros;omega)) (⟨by decide,by kernel_rfl,True.intro⟩)
  · have e3:a1.tmps.getD 3 undef = .pointer (some ⟨(w.heap.size+1),0,none⟩):=hJ.un 3 (fun i hi _=>Zgd 3 (by decide) i hi)
    have eg:a1.tmps.getD 29 undef = .bool true:=(Zm hJ hi 18 (by kernel_rfl))
    exact Ya hJ hW hi hun rfl (Yj (k:=18) (d:=29) (b:=true) rfl rfl (by rw [hJ.ts];decide) eg) rfl (by decide) (by decide) (Yz _ (by decide)) (w':=w') (by simp [execOp,resolve,invoke,builtin,Act.eval,e3,l0,l1,l2,l3,hw1,hw2,hcD,hcF,go_sem,Zcl]) (⟨by decide,by kernel_rfl,True.intro⟩)
  · have e37:a1.tmps.getD 37 undef = .pointer (some ⟨(w.heap.size+1),2,none⟩):=(Zm hJ hi 26 (by kernel_rfl))
    have eg:a1.tmps.getD 29 undef = .bool true:=(Zm hJ hi 18 (by kernel_rfl))
    have h0:=Cq _ _ 2 _ _ _ x1
    exact Ya hJ hW hi hun rfl (Yj (k:=18) (d:=29) (b:=true) rfl rfl (by rw [hJ.ts];decide) eg) rfl (by decide) (by decide) (Yz _ (by decide)) (w':=w') (by simp [execOp,resolve,invoke,builtin,Act.eval,e37,h0,l0,l1,l2,l3,hw1,hw2,hcD,hcF,go_sem,Zcl]) (⟨by decide,by kernel_rfl,True.intro⟩)
  · have e38:a1.tmps.getD 38 undef = .slice pF fs.length cF:=(Zm hJ hi 27 (by kernel_rfl))
    have eg:a1.tmps.getD 29 undef = .bool true:=(Zm hJ hi 18 (by kernel_rfl))
    exact Ya hJ hW hi hun rfl (Yj (k:=18) (d:=29) (b:=true) rfl rfl (by rw [hJ.ts];decide) eg) rfl (by decide) (by decide) (Yz _ (by decide)) (w':=w') (by simp [execOp,resolve,invoke,builtin,Act.eval,e38,l0,l1,l2,l3,hw1,hw2,hcD,hcF,go_sem,Zcl]) (⟨by decide,by kernel_rfl,True.intro⟩)
  · have e36:a1.tmps.getD 36 undef = .slice (some ⟨gF,0,none⟩) (fs.length+1) cG:=(Zm hJ hi 25 (by kernel_rfl))
    have e39:a1.tmps.getD 39 undef = .int .i64 fs.length:=(Zm hJ hi 28 (by kernel_rfl))
    have eg:a1.tmps.getD 29 undef = .bool true:=(Zm hJ hi 18 (by kernel_rfl))
    exact Ya hJ hW hi hun rfl (Yj (k:=18) (d:=29) (b:=true) rfl rfl (by rw [hJ.ts];decide) eg) rfl (by decide) (by decide) (Yz _ (by decide)) (w':=w') (by first|(simp [execOp,resolve,invoke,builtin,Act.eval,e36,e39,l0,l1,l2,l3,hw1,hw2,hcD,hcF,go_sem,Zcl];done)|(simp [execOp,resolve,invoke,builtin,Act.eval,e36,e39,l0,l1,l2,l3,hw1,hw2,hcD,hcF,go_sem,Zcl];omega)|(simp [execOp,resolve,invoke,builtin,Act.eval,e36,e39,l0,l1,l2,l3,hw1,hw2,hcD,hcF,go_sem,Zcl];intro h;omega)|(simp [execOp,resolve,invoke,builtin,Act.eval,e36,e39,l0,l1,l2,l3,hw1,hw2,hcD,hcF,go_sem,Zcl];intros;omega)) (⟨by decide,by kernel_rfl,True.intro⟩)
  · have e40:a1.tmps.getD 40 undef = .pointer (some ⟨gF,fs.length*4,none⟩):=(Zm hJ hi 29 (by kernel_rfl))
    have eg:a1.tmps.getD 29 undef = .bool true:=(Zm hJ hi 18 (by kernel_rfl))
    exact Ya hJ hW hi hun rfl (Yj (k:=18) (d:=29) (b:=true) rfl rfl (by rw [hJ.ts];decide) eg) rfl (by decide) (by decide) (Yz _ (by decide)) (w':=w') (by simp [execOp,resolve,invoke,builtin,Act.eval,e40,l0,l1,l2,l3,hw1,hw2,hcD,hcF,go_sem,Zcl]) (⟨by decide,by kernel_rfl,True.intro⟩)
  · have e41:a1.tmps.getD 41 undef = .pointer (some ⟨gF,fs.length*4,none⟩):=(Zm hJ hi 30 (by kernel_rfl))
    have eg:a1.tmps.getD 29 undef = .bool true:=(Zm hJ hi 18 (by kernel_rfl))
    have h0:=(Zez la).1
    exact Ya hJ hW hi hun rfl (Yj (k:=18) (d:=29) (b:=true) rfl rfl (by rw [hJ.ts];decide) eg) rfl (by decide) (by decide) (Yz _ (by decide)) (w':=w') (by simp [execOp,resolve,invoke,builtin,Act.eval,e41,h0,l0,l1,l2,l3,hw1,hw2,hcD,hcF,go_sem,Zcl]) (⟨by decide,by kernel_rfl,True.intro⟩)
  · have e42:a1.tmps.getD 42 undef = .int .i64 (-7):=(Zm hJ hi 31 (by kernel_rfl))
    have eg:a1.tmps.getD 29 undef = .bool true:=(Zm hJ hi 18 (by kernel_rfl))
    exact Ya hJ hW hi hun rfl (Yj (k:=18) (d:=29) (b:=true) rfl rfl (by rw [hJ.ts];decide) eg) rfl (by decide) (by decide) (Yz _ (by decide)) (w':=w') (by simp [execOp,resolve,invoke,builtin,Act.eval,e42,l0,l1,l2,l3,hw1,hw2,hcD,hcF,go_sem,Zcl]) (⟨by decide,by kernel_rfl,True.intro⟩)
  · have e29:a1.tmps.getD 29 undef = .bool true:=(Zm hJ hi 18 (by kernel_rfl))
    have e43:a1.tmps.getD 43 undef = .bool true:=(Zm hJ hi 32 (by kernel_rfl))
    exact Ya hJ hW hi hun rfl (by rfl) rfl (by decide) (by decide) (Yz _ (by decide)) (w':=w') (by simp [execOp,resolve,invoke,builtin,Act.eval,e29,e43,l0,l1,l2,l3,hw1,hw2,hcD,hcF,go_sem,Zcl]) (⟨by decide,by kernel_rfl,True.intro⟩)
  · have e44:a1.tmps.getD 44 undef = .bool true:=(Zm hJ hi 33 (by kernel_rfl))
    exact Ya hJ hW hi hun rfl (by rfl) rfl (by decide) (by decide) (Yz _ (by decide)) (w':=w') (by simp [execOp,resolve,invoke,builtin,Act.eval,e44,l0,l1,l2,l3,hw1,hw2,hcD,hcF,go_sem,Zcl]) (⟨by decide,by kernel_rfl,True.intro⟩)
 case fin =>
  intro l a1 w9 hJJ hl
  obtain ⟨hJ,hW⟩:=hJJ
  have hg:=hW.g (Ypi hW)
  have hput:=Jf hJ rfl hl (fun i j h1 h2 h3=>Yz j h2 i h1 h3)
  subst hput
  have G9:=Hq (Za HG0.out (Za (Zd (Zc w2 none)) hg))
  have X0:=Hq (Zb T0.out (Za (Zd (Zc w2 none)) hg) (by simp))
  have X1:=Hq (Zb T1.out (Za (Zd (Zc w2 none)) hg) (by simp))
  have L9:=Hq (Zbv HL.out (Za (Zd (Zc w2 none)) hg))
  have F9:=Hq (Zs HF.out (Za (Zd (Zc w2 none)) hg) (by simp))
  clear hJ hW hl hg hw1 hw2
  refine hK _ _ ?_
  simp only [Zai,kp1,Zcl,Act.put,List.setIfInBounds_toArray,List.set_cons_zero,List.set_cons_succ]
  clear hK K
  go_wp2
  go_loopw [5,6] (fun v i wr=>∃ k:Nat,i = .int .i64 k/\v = .bool true/\k<=fs.length/\w9.grownBy wr none) (fun _ i _=>fs.length - (intOf i).toNat)
  case atStart=>exact ⟨0,rfl,rfl,Nat.zero_le _,Zc _ _⟩
  case round =>
   obtain ⟨k,rfl,rfl,hk,hg⟩:=hrel
   have HG:=Hq hg
   have x0:=Zb X0.out hg (by simp)
   have x1:=Zb X1.out hg (by simp)
   have q2:=Cq _ _ 2 _ _ _ x0
   have p2:=Cq _ _ 2 _ _ _ x1
   have ql:=(Gs x0)
   have pl:=(Gs x1)
   by_cases hlt:(k:Int)<(fs.length:Int)
   · obtain ⟨⟨a,lo,r,c⟩,hkf⟩:∃ x,fs[k]? = some x:=⟨_,List.getElem?_eq_getElem (by omega)⟩
     obtain ⟨gb,ob,eb,-,cb⟩:=Zs F9.out hg (by simp) (by omega)
     subst eb
     obtain ⟨-,-,-,pc,cc,f3,-⟩:=cb k a lo r c hkf
     have lb:=World.block_lt_of_cell? _ _ f3
     have la:=Zbv L9.out hg
     obtain ⟨g,cg,hv,-,hm,hcap,hgl⟩:=Zjn la hkf
     have s3:=Zwv la hkf hv
     have sl:=(Zez la).2.2
     have hcl:=HC.out _ (List.mem_of_getElem? hkf)
     simp only [] at hm hcap hcl s3
     have hcapi:(c.length:Int)+1<=(cg:Int):=by omega
     have hcli:(c.length:Int)<=4194304:=by omega
     clear hg x0 x1 hkf cb la hv hcap hcl
     go_wp2
     go_roundw
     case rel=>exact ⟨k+1,by go_num,rfl,by omega,HG.out⟩
     case measure=>simp [intOf];omega
   · have KP0:=Hq (Yxg (Zbv L9.out hg) hg x0 x1)
     clear hg x0 x1
     go_wp2
     obtain ⟨wo,hwo⟩:∃ wo,wo=wr:=⟨_,rfl⟩
     subst hwo
     clear q2 p2 ql pl hlt
     go_loopw [8] (fun i wr=>∃ m:Nat,i = .int .i64 m/\m<=fs.length/\KpS w9 wr base hi w.heap.size (w.heap.size+1) gD cD dl.length gF cG m #[.int .i64 mem,.slice (some ⟨gD,0,none⟩) dl.length cD,.slice (some ⟨gF,0,none⟩) fs.length cG] #[.int .i64 mem,.slice pd dl.length cd,.slice pF fs.length cF] fs cv) (fun i _=>fs.length - (intOf i).toNat)
     case atStart=>exact ⟨0,rfl,Nat.zero_le _,KP0.out⟩
     case round =>
      obtain ⟨m,rfl,hm,hs⟩:=hrel
      have HS:=Hq hs
      have q2:=Cq _ _ 2 _ _ _ hs.l
      have ql:=(Gs hs.l)
      by_cases hlt:(m:Int)<(fs.length:Int)
      · obtain ⟨f,hkf⟩:∃ x,fs[m]? = some x:=⟨_,List.getElem?_eq_getElem (by omega)⟩
        obtain ⟨g,cg,ys,hv,-⟩:=hs.c m f (Nat.le_refl _) hkf
        have hml:m<fs.length:=by omega
        have HKF:=Hq hkf
        have HV:=Hq hv
        have hcl:=HC.out _ (List.mem_of_getElem? hkf)
        have hcli:(f.2.2.2.length:Int)<=4194304:=by omega
        clear hs hkf hv hcl
        go_wp2
        obtain ⟨wq,hwq⟩:∃ wq,wq=wr:=⟨_,rfl⟩
        subst hwq
        clear q2 ql
        go_loopw [9] (fun i wr=>∃ j:Nat,i = .int .i64 j/\j<=f.2.2.2.length/\KpS w9 wr base hi w.heap.size (w.heap.size+1) gD cD dl.length gF cG m #[.int .i64 mem,.slice (some ⟨gD,0,none⟩) dl.length cD,.slice (some ⟨gF,0,none⟩) fs.length cG] #[.int .i64 mem,.slice pd dl.length cd,.slice pF fs.length cF] fs cv) (fun i _=>f.2.2.2.length - (intOf i).toNat)
        case atStart=>exact ⟨0,rfl,Nat.zero_le _,HS.out⟩
        case round =>
         obtain ⟨j,rfl,hj,hs⟩:=hrel
         have HS3:=Hq hs
         have q2:=Cq _ _ 2 _ _ _ hs.l
         have ql:=(Gs hs.l)
         have s3:=Ymn hs hml HV.out
         obtain ⟨zs,hz,-⟩:=hs.f
         have sl:=(hz.lt gF rfl).2
         by_cases hlt2:(j:Int)<(f.2.2.2.length:Int)
         · obtain ⟨ys2,hy⟩:=Zwz hs HKF.out HV.out
           obtain ⟨u0,c0,z0,gl⟩:=Zok hy (j:=j*2) (by omega)
           obtain ⟨u1,c1,z1,-⟩:=Zok hy (j:=j*2+1) (by omega)
           clear hs hz hy
           go_wp2
           go_roundw
           case rel=>exact ⟨j+1,by go_num,by omega,Ysc HS3.out HKF.out HV.out _ _⟩
           case measure=>simp [intOf];omega
         · obtain ⟨u0,c0,z0,gl⟩:=Zok hz (j:=m*4) (by omega)
           obtain ⟨u1,c1,z1,-⟩:=Zok hz (j:=m*4+1) (by omega)
           obtain ⟨u2,c2,z2,-⟩:=Zok hz (j:=m*4+2) (by omega)
           have z3:=Yf hz (m*4+3)
           clear hs hz
           go_wp2
           go_roundw
           case rel=>exact ⟨m+1,by go_num,by omega,Ysd HS3.out _ _ _ _⟩
           case measure=>simp [intOf];omega
      · have hmn:m=fs.length:=by omega
        subst hmn
        clear hs
        go_wp2
        obtain ⟨wq,hwq⟩:∃ wq,wq=wr:=⟨_,rfl⟩
        subst hwq
        clear q2 ql hlt
        go_loopw [10] (fun i wr=>∃ j:Nat,i = .int .i64 j/\j<=dl.length/\KpS w9 wr base hi w.heap.size (w.heap.size+1) gD cD dl.length gF cG fs.length #[.int .i64 mem,.slice (some ⟨gD,0,none⟩) dl.length cD,.slice (some ⟨gF,0,none⟩) fs.length cG] #[.int .i64 mem,.slice pd dl.length cd,.slice pF fs.length cF] fs cv) (fun i _=>dl.length - (intOf i).toNat)
        case atStart=>exact ⟨0,rfl,Nat.zero_le _,HS.out⟩
        case round =>
         obtain ⟨j,rfl,hj,hs⟩:=hrel
         have HS3:=Hq hs
         have q1:=Cq _ _ 1 _ _ _ hs.l
         have ql:=(Gs hs.l)
         by_cases hlt2:(j:Int)<(dl.length:Int)
         · obtain ⟨ys2,hy⟩:=hs.d
           obtain ⟨u0,c0,z0,gl⟩:=Zok hy (j:=j) (by omega)
           clear hs hy
           go_wp2
           go_roundw
           case rel=>exact ⟨j+1,by go_num,by omega,Ymp HS3.out _ _⟩
           case measure=>simp [intOf];omega
         · clear hs
           go_wp2
           go_ret
           exact ⟨rfl,Xc (Yl (P:=fun k=>base<=k/\k<hi) G9.out (by simp)) HS3.out.sp (fun _ _ h=>h)⟩
def Zka (a n:Int):Int:=if a.tmod n<0 then a.tmod n+n else a.tmod n
theorem Zqc (a n:Int) (h:0<n):0<=Zka a n/\Zka a n<n:=by
 unfold Zka
 have h1:=Int.lt_tmod_of_pos a h
 have h2:=Int.tmod_lt_of_pos a h
 split <;> omega
theorem Zlw (a n:Int) (w:World) (h:0<n) (hn:n<=1000):Calls Try.prog 14 #[.int .i64 a,.int .i64 n] w fun e w'=>e = .returned (.int .i64 (Zka a n))/\w=w':=by
 have h1:=Int.lt_tmod_of_pos a h
 have h2:=Int.tmod_lt_of_pos a h
 have hb:(n == 0)=false:=by simp;omega
 unfold Zka
 by_cases hc:a.tmod n<0
 · rw [if_pos hc]
   go_enter Try.func14,Try.ntmps14
   go_wp2
   go_ret
   exact ⟨rfl,rfl⟩
 · rw [if_neg hc]
   have hc':0<=a.tmod n:=by omega
   go_enter Try.func14,Try.ntmps14
   go_wp2
   go_ret
   exact ⟨rfl,rfl⟩
theorem Yem (w:World) (x0 x1:Value) (t:TypeId):Rd (w.alloc (.cells #[x0,x1] t)) (some ⟨w.heap.size,0,none⟩) [x0,x1]:=Zyo (heap_alloc_new w _)
theorem Zge (l:List Int):∀ u∈l.map (Value.int .i64),u.oneCell'=true:=fun u hu=>by
 obtain ⟨x,_,rfl⟩:=List.mem_map.1 hu
 rfl
theorem Yiv (k:Nat):Zw (Yjn k)++[.int .i64 3,.int .i64 k,.int .i64 20,.int .i64 0]=Zw (Yjn (k+1)):=by
 unfold Yjn
 rw [Zoq,<- List.cons_append,Yv,Nat.zero_add]
 rfl
theorem Yiw (n k L:Nat) (hL:L=1+2*n+k) (e:k % 2=1):Zw (Zvb n k)++[.int .i64 14,.int .i64 ((L:Int)+1)]=Zw (Zvb n (k+1)):=by
 unfold Zvb
 rw [Znr,if_pos e,<- List.append_assoc,Yv _ [((14:Int),((1+2*n+k+1:Nat):Int))]]
 subst hL
 simp [Zw]
theorem Ynq (n k:Nat) (e:¬ k % 2=1):Zw (Zvb n k)++[.int .i64 0,.int .i64 0]=Zw (Zvb n (k+1)):=by
 unfold Zvb
 rw [Znr,if_neg e,<- List.append_assoc,Yv _ [((0:Int),(0:Int))]]
 rfl
theorem Yit (n m:Nat):Zw (Zvb n m)++[.int .i64 18,.int .i64 0]=Zw (Zlf n m 0):=by
 unfold Zlf
 rw [Yv];rfl
theorem Yiu (n m k:Nat):Zw (Zlf n m k)++[.int .i64 4,.int .i64 0]=Zw (Zlf n m (k+1)):=by
 unfold Zlf
 rw [List.replicate_succ',<- List.cons_append,<- List.append_assoc,Yv _ [((4:Int),(0:Int))]];rfl
theorem Ymm (a b d:Int) (w:World):Calls Try.prog 4 #[.int .i64 a,.int .i64 b,.int .i64 d] w fun e w'=>e = .returned (.bool true)/\w.grownBy w' none:=by
 obtain ⟨ni,ni0,ni1,ni2,ni3⟩:=info_parts Zgv
 have ra:=Zqc a 1000 (by decide)
 have rb:=Zqc b 400 (by decide)
 have rd:=Zqc d 400 (by decide)
 have Ra:=fun W=>Zlw a 1000 W (by decide) (by decide)
 have Rb:=fun W=>Zlw b 400 W (by decide) (by decide)
 have Rd':=fun W=>Zlw d 400 W (by decide) (by decide)
 generalize Zka a 1000=x at *
 generalize Zka b 400=y at *
 generalize Zka d 400=z at *
 obtain ⟨n,rfl⟩:=Int.eq_ofNat_of_zero_le ra.1
 obtain ⟨m,rfl⟩:=Int.eq_ofNat_of_zero_le rb.1
 obtain ⟨q,rfl⟩:=Int.eq_ofNat_of_zero_le rd.1
 have hn:(n:Int)<=999:=by omega
 have hm:(m:Int)<=399:=by omega
 have hq:(q:Int)<=399:=by omega
 have RA:=Hq Ra
 have RB:=Hq Rb
 have RD:=Hq Rd'
 clear ra rb rd Ra Rb Rd'
 go_enter Try.func4,Try.ntmps4
 go_wp2_with fail
 refine (RA.out _).mono ?_
 rintro e w1 ⟨rfl,rfl⟩
 go_wp2_with fail
 refine (RB.out _).mono ?_
 rintro e w1 ⟨rfl,rfl⟩
 go_wp2_with fail
 refine (RD.out _).mono ?_
 rintro e w1 ⟨rfl,rfl⟩
 clear RA RB RD
 have OW0:=Hq (World.ownsRow_lit (base:=w.heap.size) (e:=49) (size:=2) w #[.int .i64 3,.int .i64 1] 1 (Nat.le_refl _) (by unfold maxLen;omega) rfl)
 have G1:=Hq (Ga w (.cells #[.int .i64 3,.int .i64 1] 49) none)
 go_wp2
 go_loopw [7,8] (fun v i wr=>∃ (k:Nat) (p:Option Addr) (c:Nat),i = .int .i64 k/\k<=n/\v = .slice p (1+2*k) c/\wr.ownsRow w.heap.size 49 2 v (1+2*k) (Zw (Yjn k))/\w.grownBy wr none) (fun _ i _=>n - (intOf i).toNat)
 case atStart=>exact ⟨0,_,_,rfl,Nat.zero_le _,rfl,OW0.out,G1.out⟩
 case round =>
  clear OW0 G1
  obtain ⟨k,p,c,rfl,hk,rfl,ho,hg⟩:=hrel
  have HO:=Hq ho
  have HG:=Hq hg
  have hgs:=hg.size
  clear ho hg
  by_cases hlt:(k:Int)<(n:Int)
  · go_wp2_with (at_builtin;refine Yx rfl _ _ 50 rfl w.heap.size 49 ni (.agg #[.int .i64 0,.int .i64 0]) 2 16 Zab ni0 ni1 ni2 ni3 rfl (by decide) (.slice p (1+2*k) c) (1+2*k) (Zw (Yjn k)) rfl (HO.out.alloc _) (some ⟨wr.heap.size,0,none⟩) 2 2 [.int .i64 3,.int .i64 k,.int .i64 20,.int .i64 0] rfl rfl (Yel _ _ _ _ _ _) (Zge [3,(k:Int),20,0]) (by unfold maxLen;omega) (by omega) (by simp;omega) ?_;intro p' c' w' o' g';have O':=Hq o';have G':=Hq (Zgx HO.out (Nat.le_refl _) HG.out (Ga _ _ none) g');clear o' g')
    go_roundw
    case rel=>exact ⟨k+1,p',c',by go_num,by omega,rfl,by have:=O'.out;rw [Yiv] at this;exact this,G'.out⟩
    case measure=>simp [intOf];omega
  · have hkn:k=n:=by omega
    subst hkn
    go_wp2
    obtain ⟨wo,hwo⟩:∃ wo,wo=wr:=⟨_,rfl⟩
    subst hwo
    go_loopw [7,9] (fun v i wr=>∃ (j L:Nat) (p:Option Addr) (c:Nat),i = .int .i64 j/\j<=m/\Hid (L=1+2*k+j)/\v = .slice p L c/\wr.ownsRow w.heap.size 49 2 v L (Zw (Zvb k j))/\w.grownBy wr none) (fun _ i _=>m - (intOf i).toNat)
    case atStart=>exact ⟨0,1+2*k,p,c,rfl,Nat.zero_le _,Hq rfl,rfl,by have:=HO.out;unfold Zvb Znr;rw [List.append_nil];exact this,HG.out⟩
    case round =>
     clear HO HG
     obtain ⟨j,L,p,c,rfl,hj,hL,rfl,ho,hg⟩:=hrel
     have HO:=Hq ho
     have HG:=Hq hg
     have hgs:=hg.size
     have hLb:(L:Int)<=2500:=by have:=hL.out;omega
     clear ho hg
     by_cases hlt:(j:Int)<(m:Int)
     · by_cases e:j % 2=1
       · have E:=Hq e
         have e1:(j:Int) % 2=1:=by omega
         clear e
         go_wp2_with (at_builtin;refine Yx rfl _ _ 50 rfl w.heap.size 49 ni (.agg #[.int .i64 0,.int .i64 0]) 2 16 Zab ni0 ni1 ni2 ni3 rfl (by decide) (.slice p L c) L (Zw (Zvb k j)) rfl ((HO.out.alloc _).alloc _) (some ⟨wr.heap.size+1,0,none⟩) 1 1 [.int .i64 14,.int .i64 ((L:Int)+1)] rfl rfl (Zyo (Yi wr _ _)) (Zge [14,(L:Int)+1]) (by unfold maxLen;omega) (by omega) (by simp;omega) ?_;intro p' c' w' o' g';have O':=Hq o';have G':=Hq (Zgx HO.out (Nat.le_refl _) HG.out (Za (Ga _ _ none) (Ga _ _ none)) g');clear o' g')
         go_roundw
         case rel=>exact ⟨j+1,L+1,p',c',by go_num,by omega,Hq (by have:=hL.out;omega),rfl,by have:=O'.out;rw [Yiw k j L hL.out E.out] at this;exact this,G'.out⟩
         case measure=>simp [intOf];omega
       · have E:=Hq e
         have e1:(j:Int) % 2=0:=by omega
         clear e
         go_wp2_with (at_builtin;refine Yx rfl _ _ 50 rfl w.heap.size 49 ni (.agg #[.int .i64 0,.int .i64 0]) 2 16 Zab ni0 ni1 ni2 ni3 rfl (by decide) (.slice p L c) L (Zw (Zvb k j)) rfl ((HO.out.alloc _).alloc _) (some ⟨wr.heap.size+1,0,none⟩) 1 1 [.int .i64 0,.int .i64 0] rfl rfl (Zyo (Yi wr _ _)) (Zge [0,0]) (by unfold maxLen;omega) (by omega) (by simp;omega) ?_;intro p' c' w' o' g';have O':=Hq o';have G':=Hq (Zgx HO.out (Nat.le_refl _) HG.out (Za (Ga _ _ none) (Ga _ _ none)) g');clear o' g')
         go_roundw
         case rel=>exact ⟨j+1,L+1,p',c',by go_num,by omega,Hq (by have:=hL.out;omega),rfl,by have:=O'.out;rw [Ynq k j E.out] at this;exact this,G'.out⟩
         case measure=>simp [intOf];omega
     · have hjm:j=m:=by omega
       subst hjm
       go_wp2_with (at_builtin;refine Yx rfl _ _ 50 rfl w.heap.size 49 ni (.agg #[.int .i64 0,.int .i64 0]) 2 16 Zab ni0 ni1 ni2 ni3 rfl (by decide) (.slice p L c) L (Zw (Zvb k j)) rfl (HO.out.alloc _) (some ⟨wr.heap.size,0,none⟩) 1 1 [.int .i64 18,.int .i64 0] rfl rfl (Yem _ _ _ _) (Zge [18,0]) (by unfold maxLen;omega) (by omega) (by simp;omega) ?_;intro p' c' w' o' g';have O':=Hq o';have G':=Hq (Zgx HO.out (Nat.le_refl _) HG.out (Ga _ _ none) g');clear o' g')
       go_loopw [7,11] (fun v i wr=>∃ (t M:Nat) (p:Option Addr) (c:Nat),i = .int .i64 t/\t<=q/\Hid (M=1+2*k+j+1+t)/\v = .slice p M c/\wr.ownsRow w.heap.size 49 2 v M (Zw (Zlf k j t))/\w.grownBy wr none) (fun _ i _=>q - (intOf i).toNat)
       case atStart=>exact ⟨0,L+1,p',c',rfl,Nat.zero_le _,Hq (by have:=hL.out;omega),rfl,by have:=O'.out;rw [Yit] at this;exact this,G'.out⟩
       case round =>
        clear HO HG O' G'
        obtain ⟨t,M,p,c,rfl,ht,hM,rfl,ho,hg⟩:=hrel
        have HO:=Hq ho
        have HG:=Hq hg
        have hgs:=hg.size
        have hMb:(M:Int)<=3000:=by have:=hM.out;omega
        clear ho hg
        by_cases hlt:(t:Int)<(q:Int)
        · go_wp2_with (at_builtin;refine Yx rfl _ _ 50 rfl w.heap.size 49 ni (.agg #[.int .i64 0,.int .i64 0]) 2 16 Zab ni0 ni1 ni2 ni3 rfl (by decide) (.slice p M c) M (Zw (Zlf k j t)) rfl (HO.out.alloc _) (some ⟨wr.heap.size,0,none⟩) 1 1 [.int .i64 4,.int .i64 0] rfl rfl (Yem _ _ _ _) (Zge [4,0]) (by unfold maxLen;omega) (by omega) (by simp;omega) ?_;intro p' c' w' o' g';have O':=Hq o';have G':=Hq (Zgx HO.out (Nat.le_refl _) HG.out (Ga _ _ none) g');clear o' g')
          go_roundw
          case rel=>exact ⟨t+1,M+1,p',c',by go_num,by omega,Hq (by have:=hM.out;omega),rfl,by have:=O'.out;rw [Yiu] at this;exact this,G'.out⟩
          case measure=>simp [intOf];omega
        · have htq:t=q:=by omega
          subst htq
          have hlen:=Zle k j t
          have hML:M=(Zlf k j t).length:=by rw [hlen];exact hM.out
          subst hML
          have GZ:=Za (Ga wr (.cells #[.int .i64 0,.int .i64 0,.int .i64 1,.slice p (Zlf k j t).length c] 52) none) (Ga _ (.cells #[.int .i64 0,.slice none 0 0,.slice (some ⟨wr.heap.size,0,none⟩) 1 1] 25) none)
          have Z0:=Yt wr (.cells #[.int .i64 0,.int .i64 0,.int .i64 1,.slice p (Zlf k j t).length c] 52) (.cells #[.int .i64 0,.slice none 0 0,.slice (some ⟨wr.heap.size,0,none⟩) 1 1] 25)
          have Z1:=Yi wr (.cells #[.int .i64 0,.int .i64 0,.int .i64 1,.slice p (Zlf k j t).length c] 52) (.cells #[.int .i64 0,.slice none 0 0,.slice (some ⟨wr.heap.size,0,none⟩) 1 1] 25)
          have LP:=Hq (Zzf k j t (by omega) (by omega) (by omega))
          have CR:=Hq (Ycj k j t (by omega) (by omega) (by omega))
          have hC4:(Zlf k j t).length<=4096:=by omega
          have hS:=Yuq k
          have hm01:0<=(k:Int)*((k:Int) - 1)/\(k:Int)*((k:Int) - 1)<=1000000:=by
           rcases Nat.eq_zero_or_pos k with h0|h0
           · subst h0;decide
           · exact ⟨Int.mul_nonneg (by omega) (by omega),Int.le_trans (Int.mul_le_mul (by omega:(k:Int)<=1000) (by omega:(k:Int) - 1<=1000) (by omega) (by omega)) (by decide)⟩
          obtain ⟨hm0,hm1⟩:=hm01
          have HS:=Hq hS
          clear hS hlen
          go_wp2_with fail
          generalize Zlf k j t=C at *
          generalize Zsf 0 k=S0 at *
          have HZ1:=Hq Z1
          have CB:=Hq (Ybg (Xh (Zgz (Zne HO.out).2 GZ.size) GZ (by simp)) (by simp;omega) Z0)
          have GW:=Hq (Za HG.out GZ)
          clear Z0 Z1 GZ HO HG
          generalize (wr.alloc (.cells #[.int .i64 0,.int .i64 0,.int .i64 1,.slice p C.length c] 52)).alloc (.cells #[.int .i64 0,.slice none 0 0,.slice (some ⟨wr.heap.size,0,none⟩) 1 1] 25)=w3 at *
          have hw3:wr.heap.size+1<w3.heap.size:=(Gs HZ1.out)
          refine (Ymk 0 [] [(0,0,1,C)] none (some ⟨wr.heap.size,0,none⟩) 0 1 w3.heap.size w3 (Nat.le_refl _) CB.out (Ygy w3) (by simp) (by simp) (fun f hf=>by obtain rfl:f=(0,0,1,C):=by { simpa using hf };simp only [];omega)).mono ?_
          rintro e w5 ⟨D,F,cv,rfl,g5,hl5⟩
          obtain ⟨gD,cD,gF,cG,rfl,rfl,hA⟩:=Ymj hl5
          have GA:=Ga w5 (.cells #[.int .i64 0,.slice (some ⟨gD,0,none⟩) ([]:List Int).length cD,.slice (some ⟨gF,0,none⟩) [(0,0,1,C)].length cG] 25) none
          have LA:=Hq (Zbv hA GA)
          have g35:=Za g5 GA
          have Y3:=Hq (heap_alloc_new w5 (.cells #[.int .i64 0,.slice (some ⟨gD,0,none⟩) ([]:List Int).length cD,.slice (some ⟨gF,0,none⟩) [(0,0,1,C)].length cG] 25))
          have Y1:=Hq (Zb HZ1.out g35 (by simp))
          have CB5:=Hq (Zs CB.out g35 (by simp))
          have G35:=Hq g35
          have v0:=Cq _ _ 0 _ _ _ Y3.out
          have v1:=Cq _ _ 1 _ _ _ Y3.out
          have v2:=Cq _ _ 2 _ _ _ Y3.out
          have vl:=(Gs Y3.out)
          have h35:=g5.size
          clear hl5 hA GA g35 g5
          go_upto_region 23 with fail
          generalize w5.alloc (.cells #[.int .i64 0,.slice (some ⟨gD,0,none⟩) ([]:List Int).length cD,.slice (some ⟨gF,0,none⟩) [(0,0,1,C)].length cG] 25)=w6 at *
          have h56:w5.heap.size<w6.heap.size:=vl
          go_wp2_with fail
          refine (Yef 0 [] [(0,0,1,C)] (some ⟨gD,0,none⟩) (some ⟨gF,0,none⟩) cD cG w6.heap.size w6 (Nat.le_refl _) (Zmp LA.out) (Zmq LA.out) (by simp) (by simp) (fun f hf=>by obtain rfl:f=(0,0,1,C):=by { simpa using hf };exact CR.out) (fun f hf=>by obtain rfl:f=(0,0,1,C):=by { simpa using hf };simp only [];omega)).mono ?_
          intro e w7 hp
          obtain ⟨pQ,cQ,gQ,cR,gC,cC,rfl,g7,-,-,-,-,cvQ,oQ⟩:=Zzn (Yxa LP.out hp)
          have GA:=Ga w7 (.cells #[.int .i64 0,.slice pQ 0 cQ,.slice (some ⟨gQ,0,none⟩) 1 cR] 25) none
          have g68:=Za g7 GA
          have LA8:=Hq (Zbv LA.out g68)
          have OQ:=Hq (Xj oQ GA)
          have U3:=Hq (heap_alloc_new w7 (.cells #[.int .i64 0,.slice pQ 0 cQ,.slice (some ⟨gQ,0,none⟩) 1 cR] 25))
          have X3:=Hq (Zb Y3.out g68 (by simp))
          have X1:=Hq (Zb Y1.out g68 (by simp))
          have CB8:=Hq (Zs CB5.out g68 (by simp))
          have G8:=Hq (Za GW.out (Za G35.out g68))
          have h67:=g7.size
          clear hp g7 oQ GA g68 v0 v1 v2 vl
          go_upto_region 24 with fail
          have h78:w7.heap.size<(w7.alloc (.cells #[.int .i64 0,.slice pQ 0 cQ,.slice (some ⟨gQ,0,none⟩) 1 cR] 25)).heap.size:=by simp
          generalize w7.alloc (.cells #[.int .i64 0,.slice pQ 0 cQ,.slice (some ⟨gQ,0,none⟩) 1 cR] 25)=w8 at *
          have v0:=Cq _ _ 0 _ _ _ X3.out
          have v1:=Cq _ _ 1 _ _ _ X3.out
          have v2:=Cq _ _ 2 _ _ _ X3.out
          have vl:=(Gs X3.out)
          have u0:=Cq _ _ 0 _ _ _ X1.out
          have u1:=Cq _ _ 1 _ _ _ X1.out
          have u2:=Cq _ _ 2 _ _ _ X1.out
          have ul:=(Gs X1.out)
          go_wp2_with fail
          refine (Ymt 0 [] [(0,0,1,C)] cv none (some ⟨wr.heap.size,0,none⟩) gD cD gF cG 0 1 w3.heap.size w3.heap.size w5.heap.size w8 (Nat.le_refl _) (by omega) LA8.out CB8.out (Ygy _) (by simp) (by simp) (fun f hf=>by obtain rfl:f=(0,0,1,C):=by { simpa using hf };simp only [];omega)).mono ?_
          rintro e w9 ⟨rfl,sp⟩
          have SP:=Hq sp
          have OQ9:=Hq (Yeo OQ.out sp (fun k hk h=>by have:=h.2;omega))
          have U9:=Hq (show w9.heap[w7.heap.size]? = _ from (sp.block _ (by omega) (fun h=>by have:=h.2;omega)).trans U3.out)
          have h89:=sp.size
          have G9:=Hq (show w.grownBy w9 none from Zlu (Xc (Yl (P:=fun k=>w3.heap.size<=k/\k<w5.heap.size) G8.out (by simp)) sp (fun _ _ h=>h)) (fun k hk h=>by have:=h.1;have:=GW.out.size;omega))
          clear v0 v1 v2 vl u0 u1 u2 ul sp
          have hq0:0<=(k:Int)*((k:Int) - 1) / 2:=Int.ediv_nonneg hm0 (by decide)
          have hq1:(k:Int)*((k:Int) - 1) / 2<=1000000:=by omega
          go_upto_region 27 with fail
          have hS:=HS.out
          clear hm0 hm1 hq0 hq1 HS
          generalize (k:Int)*((k:Int) - 1) / 2=S1 at *
          have hS2:S1=S0:=by omega
          subst hS2
          clear hS
          have GZ:=Xg w9 (.cells #[.int .i64 3,.int .i64 (1+S1),.int .i64 18,.int .i64 0] 49) (.cells #[.int .i64 0,.int .i64 0,.int .i64 1,.slice (some ⟨w9.heap.size,0,none⟩) 2 2] 52) (.cells #[.int .i64 0,.slice none 0 0,.slice (some ⟨w9.heap.size+1,0,none⟩) 1 1] 25)
          have HZ:=Xf w9 (.cells #[.int .i64 3,.int .i64 (1+S1),.int .i64 18,.int .i64 0] 49) (.cells #[.int .i64 0,.int .i64 0,.int .i64 1,.slice (some ⟨w9.heap.size,0,none⟩) 2 2] 52) (.cells #[.int .i64 0,.slice none 0 0,.slice (some ⟨w9.heap.size+1,0,none⟩) 1 1] 25)
          have OQX:=Hq (Xj OQ9.out GZ)
          have GX:=Hq (Za G9.out GZ)
          have QX:=Hq (Zb U9.out GZ (by simp))
          have W0:=Hq HZ.1
          have W1:=Hq HZ.2.1
          have W2:=Hq HZ.2.2
          clear GZ HZ
          generalize ((w9.alloc (.cells #[.int .i64 3,.int .i64 (1+S1),.int .i64 18,.int .i64 0] 49)).alloc (.cells #[.int .i64 0,.int .i64 0,.int .i64 1,.slice (some ⟨w9.heap.size,0,none⟩) 2 2] 52)).alloc (.cells #[.int .i64 0,.slice none 0 0,.slice (some ⟨w9.heap.size+1,0,none⟩) 1 1] 25)=wX at *
          have v0:=Cq _ _ 0 _ _ _ QX.out
          have v1:=Cq _ _ 1 _ _ _ QX.out
          have v2:=Cq _ _ 2 _ _ _ QX.out
          have vl:=(Gs QX.out)
          have y0:=Cq _ _ 0 _ _ _ W2.out
          have y1:=Cq _ _ 1 _ _ _ W2.out
          have y2:=Cq _ _ 2 _ _ _ W2.out
          have yl:=(Gs W2.out)
          have FW:=Hq (Ztp (w:=wX) (bc:=w9.heap.size) (bf:=w9.heap.size+1) (n:=2) (c:=[(3,1+S1),(18,0)]) (fun i op a hi=>by
           match i,hi with
           | 0,hi=>injection hi with hi;injection hi with h1 h2;subst h1;subst h2;exact ⟨Cq _ _ 0 _ _ _ W0.out,Cq _ _ 1 _ _ _ W0.out⟩
           | 1,hi=>injection hi with hi;injection hi with h1 h2;subst h1;subst h2;exact ⟨Cq _ _ 2 _ _ _ W0.out,Cq _ _ 3 _ _ _ W0.out⟩) (Gs W0.out) W1.out)
          generalize w9.heap.size=b9 at *
          go_wp2_with (first
           | (go_at_call 12;refine (Zyg 0 [] [(0,0,1,[(3,1+S1),(18,0)])] pQ none (some ⟨gQ,0,none⟩) (some ⟨b9+1,0,none⟩) cQ 0 cR 1 wX.heap.size wX.heap.size wX (Nat.le_refl _) (Nat.le_refl _) (by simp) (fun x hx=>by obtain rfl:x=(0,0,1,[(3,1+S1),(18,0)]):=by { simpa using hx };simp) (Zoo OQX.out) (Ygy _) (Zon OQX.out) FW.out).mono ?_;rintro e wY ⟨rfl,gY⟩;have GY:=Hq (Za GX.out gY);clear gY)
           | (go_at_call 8;refine (Ymw _).mono ?_;rintro e wV ⟨rfl,gV⟩;have GV:=Hq (Za GY.out gV);clear gV))
          go_ret
          exact ⟨rfl,GV.out⟩
end Go.Proofs.Ythlkflagancdfaa.OT
