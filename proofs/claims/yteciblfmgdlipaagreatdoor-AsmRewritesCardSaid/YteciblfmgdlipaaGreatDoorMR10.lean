/-
  Part of a proof: contracts of functions and lemmas, each stated by its own theorem. Conditions: as each theorem states.
-/
import Derived.Test.YteciblfmgdlipaaGreatDoorMR09
import Derived.Test.YteciblfmgdlipaaGreatDoorMR00
import Derived.Test.YteciblfmgdlipaaGreatDoorMR05
import Derived.Test.YteciblfmgdlipaaGreatDoorMR04
import Derived.Lib.ItoaLen
import Derived.Shelf.Strings.BuilderF
set_option linter.unusedSimpArgs false
set_option linter.unusedVariables false
set_option maxRecDepth 100000
set_option maxHeartbeats 16000000
namespace Go.Proofs.YteciblfmgdlipaaGreatDoor.AS
open Go.RowKit Go.Great CK
theorem Znp {c:CS} {fs:List FnR} {b:BlP} {r:List BlP} {n:Int} (h:Zph c b=some n):Zem c fs (b::r)=Zem c (Zsw fs b.fn.toNat b.pl.toNat n) r:=by
 rw [Zem]
 simp only [h]
theorem Znq {c:CS} {fs:List FnR} {b:BlP} {r:List BlP} (h:Zph c b=none):Zem c fs (b::r) = .error b.line:=by
 rw [Zem]
 simp only [h]
def fi6:Nat->Nat
 | 0=>24
 | 1=>25
 | 2=>26
 | 3=>27
 | 4=>28
 | 5=>29
 | 6=>30
 | 7=>31
 | 8=>5
 | _=>5000
theorem Zfs:∀ i,i<9->∀ j,j<9->j≠i->fi6 j≠fi6 i:=by decide
theorem Ypb (i:Nat) (h:i<9):i=0\/i=1\/i=2\/i=3\/i=4\/i=5\/i=6\/i=7\/i=8:=by omega
theorem Ydq (j:Nat) (hj:j∈[0,4]):∀ i,i<9->fi6 i≠j:=by revert j;decide
def Zwh (p b4 kf gL nL cL bq:Nat):Nat->Value
 | 0 => .pointer (some ⟨p,0,none⟩)
 | 1 => .pointer (some ⟨p,0,none⟩)
 | 2 => .pointer (some ⟨p,5,none⟩)
 | 3 => .slice (some ⟨gL,0,none⟩) nL cL
 | 4 => .pointer (some ⟨b4,1,none⟩)
 | 5 => .int .i64 (kf:Int)
 | 6 => .pointer (some ⟨gL,kf,none⟩)
 | 7 => .map (some bq)
 | 8 => .map (some bq)
 | _=>undef
def Yrj (p b4 kf gL nL cL bq:Nat)  : Nat->World->Prop
 | _=>fun _=>True
def Ymh:Nat->Nat
 | 0=>47
 | 1=>48
 | 2=>49
 | 3=>50
 | 4=>51
 | 5=>52
 | 6=>53
 | 7=>54
 | 8=>55
 | 9=>56
 | 10=>57
 | 11=>58
 | 12=>59
 | 13=>60
 | 14=>61
 | 15=>1015
 | _=>5000
theorem Yc:∀ i,i<16->∀ j,j<16->j≠i->Ymh j≠Ymh i:=by decide
theorem Zpi (i:Nat) (h:i<16):i=0\/i=1\/i=2\/i=3\/i=4\/i=5\/i=6\/i=7\/i=8\/i=9\/i=10\/i=11\/i=12\/i=13\/i=14\/i=15:=by omega
theorem Zcg (j:Nat) (hj:j∈[0,4,6]):∀ i,i<16->Ymh i≠j:=by revert j;decide
def Xl (p b4 kf kp gF nF cF gC lc cC:Nat) (nv:Int):Nat->Value
 | 0 => .pointer (some ⟨p,0,none⟩)
 | 1 => .pointer (some ⟨p,0,none⟩)
 | 2 => .pointer (some ⟨p,0,none⟩)
 | 3 => .pointer (some ⟨p,2,none⟩)
 | 4 => .slice (some ⟨gF,0,none⟩) nF cF
 | 5 => .pointer (some ⟨b4,1,none⟩)
 | 6 => .int .i64 (kf:Int)
 | 7 => .pointer (some ⟨gF,kf*4,none⟩)
 | 8 => .pointer (some ⟨gF,kf*4+3,none⟩)
 | 9 => .slice (some ⟨gC,0,none⟩) lc cC
 | 10 => .pointer (some ⟨b4,2,none⟩)
 | 11 => .int .i64 (kp:Int)
 | 12 => .int .i64 nv
 | 13 => .pointer (some ⟨gC,kp*2,none⟩)
 | 14 => .pointer (some ⟨gC,kp*2+1,none⟩)
 | 15=>undef
 | _=>undef
def Yib (p b4 kf kp gF nF cF gC lc cC:Nat) (nv:Int)  : Nat->World->Prop
 | _=>fun _=>True
theorem Yia (w0 w:World) (p m:Nat) (c:CS) (pend:Value) (h:PS w0 w p m c pend) (hok:Zcq c) (hm:m<=1000000) :
 Calls Tryz.prog 29 #[.pointer (some ⟨p,0,none⟩)] w (Yix w0 w p m c (Zem c c.funcs c.blk)):=by
 obtain ⟨vd,vF,vL,vB,bm,cv,lb,hA⟩:=h
 obtain ⟨pB,cB,hvB⟩:=Zk hA.ins.brow
 obtain ⟨pF,cF,hvF⟩:=Zk hA.ins.own.fr
 obtain ⟨pL,cL,hvL⟩:=Zk hA.ins.lrow
 subst hvB;subst hvF;subst hvL
 have A0:=Hq hA
 have BO:=Hq hok
 have c6:=Cq w p 6 _ _ _ hA.box
 have hlt:p<w.heap.size:=(Gs hA.box)
 have hz4:=hA.ins.z4
 obtain ⟨R,hR⟩:∃ R,Zem c c.funcs c.blk=R:=⟨_,rfl⟩
 have HR:=Hq hR
 rw [hR]
 have hbl:(c.blk.length:Int)<=1000000:=by omega
 clear hA hok hR
 go_enter Tryz.func29,Tryz.ntmps29
 go_wp2
 go_loopw [13] (fun i wr=>∃ (k:Nat) (fs:List FnR),i = .int .i64 k/\k<=c.blk.length/\Zem c fs (c.blk.drop k)=R/\Zww c.funcs fs/\Zge w0 wr p m { c with funcs:=fs } pend vd (.slice pF c.funcs.length cF) (.slice pL lb.length cL) (.slice pB c.blk.length cB) bm cv lb) (fun i _=>c.blk.length - (intOf i).toNat)
 case atStart=>exact ⟨0,c.funcs,rfl,Nat.zero_le _,HR.out,Zsy _,A0.out⟩
 case round =>
  obtain ⟨k,fs,rfl,hk,hf,hs,hA⟩:=hrel
  have AR:=Hq hA
  have FR:=Hq hf
  have SS:=Hq hs
  clear hA hf hs
  by_cases hkl:k<c.blk.length
  · obtain ⟨⟨bline,bfn,bpl,bw,bc⟩,hb⟩:∃ b,c.blk[k]? = some b:=⟨_,List.getElem?_eq_getElem hkl⟩
    obtain ⟨kf,kp,f0,e1,e2,hf0,hkp,hbw⟩:=BO.out _ (List.mem_of_getElem? hb)
    simp only [] at e1 e2 hbw
    subst e1;subst e2
    have hdr:c.blk.drop k=⟨bline,kf,kp,bw,bc⟩::c.blk.drop (k+1):=by rw [List.drop_eq_getElem_cons hkl];congr 1;exact (List.getElem?_eq_some_iff.1 hb).2
    obtain ⟨y0,y1,y2,y3,y4⟩:=Yek c.blk k _ hb
    simp only [] at y0 y1 y2 y3 y4
    obtain ⟨gB,cB',hvB,hgB,hcB⟩:=Xc AR.out.ins.brow (by show 0<c.blk.length;omega)
    injection hvB with hvB h91 h92;clear h91 h92
    subst hvB
    have x0:=hcB _ _ y0 (by show k*5<c.blk.length*5;omega)
    have x1:=hcB _ _ y1 (by show k*5+1<c.blk.length*5;omega)
    have x2:=hcB _ _ y2 (by show k*5+2<c.blk.length*5;omega)
    have x3:=hcB _ _ y3 (by show k*5+3<c.blk.length*5;omega)
    have x4:=hcB _ _ y4 (by show k*5+4<c.blk.length*5;omega)
    have c4:=Cq wr p 4 _ _ _ AR.out.box
    have hltr:p<wr.heap.size:=(Gs AR.out.box)
    have hkf:kf<c.funcs.length:=(List.getElem?_eq_some_iff.1 hf0).1
    have HF0:=Hq hf0
    have FD:=Hq (show Zem c fs (⟨bline,kf,kp,bw,bc⟩::c.blk.drop (k+1))=R by rw [<- hdr];exact FR.out)
    clear hcB y0 y1 y2 y3 y4 hb hdr hf0
    cases bc with
    | true =>
      have hfd:Zph c ⟨bline,kf,kp,bw,true⟩=c.fm bw:=rfl
      go_upto_region 7 with fail
      have AQ:=Hq (Yr AR.out (Ga wr (.cells #[.int .i64 bline,.int .i64 kf,.int .i64 kp,.string (bs bw),.bool true] 131) none))
      have HB4:=heap_alloc_new wr (.cells #[.int .i64 bline,.int .i64 kf,.int .i64 kp,.string (bs bw),.bool true] 131)
      generalize wr.alloc (.cells #[.int .i64 bline,.int .i64 kf,.int .i64 kp,.string (bs bw),.bool true] 131)=w4 at *
      generalize wr.heap.size=b4 at *
      have hmok:=Zox AQ.out.ins.fm bw hbw
      simp only [] at hmok
      clear c4 x0 x1 x2 x3 x4
      have y0:=Cq w4 b4 0 _ _ _ HB4
      have y1:=Cq w4 b4 1 _ _ _ HB4
      have y2:=Cq w4 b4 2 _ _ _ HB4
      have y3:=Cq w4 b4 3 _ _ _ HB4
      have hb4:b4<w4.heap.size:=(Gs HB4)
      have hlt4:p<w4.heap.size:=(Gs AQ.out.box)
      obtain ⟨q,hq⟩:∃ q,Zph c ⟨bline,kf,kp,bw,true⟩=q:=⟨_,rfl⟩
      rw [<- hfd,hq] at hmok
      cases q with
      | none =>
        have HE:=Hq (FD.out.symm.trans (Znq hq))
        simp only [Option.getD_none,Option.isSome_none] at hmok
        clear hq hfd
        go_wp2
        go_ret
        rw [HE.out]
        exact ⟨⟨_,rfl,AQ.out.gr.size,heap_alloc_new w4 _⟩,Za AQ.out.gr (Ga _ _ none)⟩
      | some nv =>
        have HE:=Hq ((Znp hq).symm.trans FD.out)
        simp only [Option.getD_some,Option.isSome_some] at hmok
        clear hq hfd
        go_upto_region 10 with fail
        (try rename_i K10 hK10)
        obtain ⟨⟨fa,fl,fr,code⟩,hfs⟩:∃ f,fs[kf]? = some f:=⟨_,List.getElem?_eq_getElem (by rw [<- SS.out.1];exact hkf)⟩
        have hcode:kp<code.length:=by have:=SS.out.2 kf _ _ HF0.out hfs;simp only [] at this;omega
        obtain ⟨vc,hvc⟩:∃ v,cv[kf]? = some v:=⟨_,List.getElem?_eq_getElem (by rw [AQ.out.ins.own.cl];show kf<fs.length;rw [<- SS.out.1];exact hkf)⟩
        have hoc:=AQ.out.ins.own.each kf _ vc hfs hvc
        obtain ⟨gC,cC,hvC,hgC,hcC⟩:=Xc hoc (by simp only [];omega)
        simp only [] at hvC
        subst hvC
        obtain ⟨gF,cF',hvF,hgF,hcF⟩:=Xc AQ.out.ins.own.fr (by show 0<fs.length;rw [<- SS.out.1];omega)
        injection hvF with hvF h91 h92;clear h91 h92
        subst hvF
        obtain ⟨-,-,-,q3⟩:=Zbu fs cv kf _ _ hfs hvc
        have f3:=hcF _ _ q3 (by show kf*4+3<fs.length*4;rw [<- SS.out.1];omega)
        obtain ⟨⟨o9,a9⟩,hcp⟩:∃ z,code[kp]? = some z:=⟨_,List.getElem?_eq_getElem hcode⟩
        obtain ⟨-,k3⟩:=Zhi code kp o9 a9 hcp
        have f4:=hcC _ _ k3 (by simp only [];omega)
        have z4:=Zil hoc (kp*2+1)
        have c2:=Cq w4 p 2 _ _ _ AQ.out.box
        have HP:=Hq (Zqi (n:=nv) (Yr AQ.out (Zg (Zd w4 none))) hfs hvc hcode)
        clear hcF hcC q3 k3 hoc
        refine Xa (n:=16) (J:=fun a0 l a1 w1=>RJ a0 63 16 Ymh (Xl p b4 kf kp gF c.funcs.length cF gC code.length cC nv ) l a1/\Zcs 15 16 0 [(1,0),(2,1),(3,2),(4,3),(6,5),(7,4),(7,6),(8,7),(9,8),(11,10),(13,9),(13,11),(14,13),(15,14),(15,12)] [] (fun w9=>w9=w4.drew) (fun _=>True) (Yib p b4 kf kp gF c.funcs.length cF gC code.length cC nv ) (fun w9=>w9=w4.drew.setCell ⟨gC,kp*2+1,none⟩ (.int .i64 nv)) l w1) (by kernel_rfl) rfl (Xx (by kernel_rfl)) (fun l a1 w1 h=>by obtain ⟨h,_⟩:=h;exact h.sz) ⟨Yz rfl,Yf (rfl) (True.intro)⟩ ?step ?fin
        case step =>
         intro l a1 w' i hJJ hi hin
         obtain ⟨hJ,hW⟩:=hJJ
         have hun:l.getD i false=false:=getD_both (mem_ready.1 hi).1
         have hns:=Jv hW hin hun
         have hg:=hW.g hns
         have l0:p<w'.heap.size:=by rw [hg];exact hlt4
         have l1:b4<w'.heap.size:=by rw [hg];exact hb4
         have l2:gF<w'.heap.size:=by rw [hg];exact hgF
         have l3:gC<w'.heap.size:=by rw [hg];exact hgC
         rcases Zpi i hin with rfl|rfl|rfl|rfl|rfl|rfl|rfl|rfl|rfl|rfl|rfl|rfl|rfl|rfl|rfl|rfl
         · have e0:a1.tmps.getD 0 undef = .pointer (some ⟨p,0,none⟩):=hJ.un 0 (fun i hi _=>Zcg 0 (by decide) i hi)
           exact Zc hJ hW hi hun rfl (by rfl) rfl (by decide) (by decide) (Yc _ (by decide)) (w':=w') (by simp [execOp,resolve,invoke,builtin,Act.eval,e0,l0,l1,l2,l3,go_sem,Xl]) (⟨by decide,by kernel_rfl,True.intro⟩)
         · have e47:a1.tmps.getD 47 undef = .pointer (some ⟨p,0,none⟩):=(Ze hJ hi 0 (by kernel_rfl))
           exact Zc hJ hW hi hun rfl (by rfl) rfl (by decide) (by decide) (Yc _ (by decide)) (w':=w') (by simp [execOp,resolve,invoke,builtin,Act.eval,e47,l0,l1,l2,l3,go_sem,Xl]) (⟨by decide,by kernel_rfl,True.intro⟩)
         · have e48:a1.tmps.getD 48 undef = .pointer (some ⟨p,0,none⟩):=(Ze hJ hi 1 (by kernel_rfl))
           exact Zc hJ hW hi hun rfl (by rfl) rfl (by decide) (by decide) (Yc _ (by decide)) (w':=w') (by simp [execOp,resolve,invoke,builtin,Act.eval,e48,l0,l1,l2,l3,go_sem,Xl]) (⟨by decide,by kernel_rfl,True.intro⟩)
         · have e49:a1.tmps.getD 49 undef = .pointer (some ⟨p,0,none⟩):=(Ze hJ hi 2 (by kernel_rfl))
           exact Zc hJ hW hi hun rfl (by rfl) rfl (by decide) (by decide) (Yc _ (by decide)) (w':=w') (by simp [execOp,resolve,invoke,builtin,Act.eval,e49,l0,l1,l2,l3,go_sem,Xl]) (⟨by decide,by kernel_rfl,True.intro⟩)
         · have e50:a1.tmps.getD 50 undef = .pointer (some ⟨p,2,none⟩):=(Ze hJ hi 3 (by kernel_rfl))
           have h0:=Yv c2 hg
           exact Zc hJ hW hi hun rfl (by rfl) rfl (by decide) (by decide) (Yc _ (by decide)) (w':=w') (by simp [execOp,resolve,invoke,builtin,Act.eval,e50,h0,l0,l1,l2,l3,go_sem,Xl]) (⟨by decide,by kernel_rfl,True.intro⟩)
         · have e4:a1.tmps.getD 4 undef = .pointer (some ⟨b4,0,none⟩):=hJ.un 4 (fun i hi _=>Zcg 4 (by decide) i hi)
           exact Zc hJ hW hi hun rfl (by rfl) rfl (by decide) (by decide) (Yc _ (by decide)) (w':=w') (by simp [execOp,resolve,invoke,builtin,Act.eval,e4,l0,l1,l2,l3,go_sem,Xl]) (⟨by decide,by kernel_rfl,True.intro⟩)
         · have e52:a1.tmps.getD 52 undef = .pointer (some ⟨b4,1,none⟩):=(Ze hJ hi 5 (by kernel_rfl))
           have h0:=Yv y1 hg
           exact Zc hJ hW hi hun rfl (by rfl) rfl (by decide) (by decide) (Yc _ (by decide)) (w':=w') (by simp [execOp,resolve,invoke,builtin,Act.eval,e52,h0,l0,l1,l2,l3,go_sem,Xl]) (⟨by decide,by kernel_rfl,True.intro⟩)
         · have e51:a1.tmps.getD 51 undef = .slice (some ⟨gF,0,none⟩) c.funcs.length cF:=(Ze hJ hi 4 (by kernel_rfl))
           have e53:a1.tmps.getD 53 undef = .int .i64 (kf:Int):=(Ze hJ hi 6 (by kernel_rfl))
           exact Zc hJ hW hi hun rfl (by rfl) rfl (by decide) (by decide) (Yc _ (by decide)) (w':=w') (by first|(simp [execOp,resolve,invoke,builtin,Act.eval,e51,e53,l0,l1,l2,l3,go_sem,Xl];done)|(simp [execOp,resolve,invoke,builtin,Act.eval,e51,e53,l0,l1,l2,l3,go_sem,Xl];omega)|(simp [execOp,resolve,invoke,builtin,Act.eval,e51,e53,l0,l1,l2,l3,go_sem,Xl];intro h;omega)|(simp [execOp,resolve,invoke,builtin,Act.eval,e51,e53,l0,l1,l2,l3,go_sem,Xl];intros;omega)) (⟨by decide,by kernel_rfl,True.intro⟩)
         · have e54:a1.tmps.getD 54 undef = .pointer (some ⟨gF,kf*4,none⟩):=(Ze hJ hi 7 (by kernel_rfl))
           exact Zc hJ hW hi hun rfl (by rfl) rfl (by decide) (by decide) (Yc _ (by decide)) (w':=w') (by simp [execOp,resolve,invoke,builtin,Act.eval,e54,l0,l1,l2,l3,go_sem,Xl]) (⟨by decide,by kernel_rfl,True.intro⟩)
         · have e55:a1.tmps.getD 55 undef = .pointer (some ⟨gF,kf*4+3,none⟩):=(Ze hJ hi 8 (by kernel_rfl))
           have h0:=Yv f3 hg
           exact Zc hJ hW hi hun rfl (by rfl) rfl (by decide) (by decide) (Yc _ (by decide)) (w':=w') (by simp [execOp,resolve,invoke,builtin,Act.eval,e55,h0,l0,l1,l2,l3,go_sem,Xl]) (⟨by decide,by kernel_rfl,True.intro⟩)
         · have e4:a1.tmps.getD 4 undef = .pointer (some ⟨b4,0,none⟩):=hJ.un 4 (fun i hi _=>Zcg 4 (by decide) i hi)
           exact Zc hJ hW hi hun rfl (by rfl) rfl (by decide) (by decide) (Yc _ (by decide)) (w':=w') (by simp [execOp,resolve,invoke,builtin,Act.eval,e4,l0,l1,l2,l3,go_sem,Xl]) (⟨by decide,by kernel_rfl,True.intro⟩)
         · have e57:a1.tmps.getD 57 undef = .pointer (some ⟨b4,2,none⟩):=(Ze hJ hi 10 (by kernel_rfl))
           have h0:=Yv y2 hg
           exact Zc hJ hW hi hun rfl (by rfl) rfl (by decide) (by decide) (Yc _ (by decide)) (w':=w') (by simp [execOp,resolve,invoke,builtin,Act.eval,e57,h0,l0,l1,l2,l3,go_sem,Xl]) (⟨by decide,by kernel_rfl,True.intro⟩)
         · have e6:a1.tmps.getD 6 undef = .int .i64 nv:=hJ.un 6 (fun i hi _=>Zcg 6 (by decide) i hi)
           exact Zc hJ hW hi hun rfl (by rfl) rfl (by decide) (by decide) (Yc _ (by decide)) (w':=w') (by simp [execOp,resolve,invoke,builtin,Act.eval,e6,l0,l1,l2,l3,go_sem,Xl]) (⟨by decide,by kernel_rfl,True.intro⟩)
         · have e56:a1.tmps.getD 56 undef = .slice (some ⟨gC,0,none⟩) code.length cC:=(Ze hJ hi 9 (by kernel_rfl))
           have e58:a1.tmps.getD 58 undef = .int .i64 (kp:Int):=(Ze hJ hi 11 (by kernel_rfl))
           exact Zc hJ hW hi hun rfl (by rfl) rfl (by decide) (by decide) (Yc _ (by decide)) (w':=w') (by first|(simp [execOp,resolve,invoke,builtin,Act.eval,e56,e58,l0,l1,l2,l3,go_sem,Xl];done)|(simp [execOp,resolve,invoke,builtin,Act.eval,e56,e58,l0,l1,l2,l3,go_sem,Xl];omega)|(simp [execOp,resolve,invoke,builtin,Act.eval,e56,e58,l0,l1,l2,l3,go_sem,Xl];intro h;omega)|(simp [execOp,resolve,invoke,builtin,Act.eval,e56,e58,l0,l1,l2,l3,go_sem,Xl];intros;omega)) (⟨by decide,by kernel_rfl,True.intro⟩)
         · have e60:a1.tmps.getD 60 undef = .pointer (some ⟨gC,kp*2,none⟩):=(Ze hJ hi 13 (by kernel_rfl))
           exact Zc hJ hW hi hun rfl (by rfl) rfl (by decide) (by decide) (Yc _ (by decide)) (w':=w') (by simp [execOp,resolve,invoke,builtin,Act.eval,e60,l0,l1,l2,l3,go_sem,Xl]) (⟨by decide,by kernel_rfl,True.intro⟩)
         · have e61:a1.tmps.getD 61 undef = .pointer (some ⟨gC,kp*2+1,none⟩):=(Ze hJ hi 14 (by kernel_rfl))
           have e59:a1.tmps.getD 59 undef = .int .i64 nv:=(Ze hJ hi 12 (by kernel_rfl))
           have k1:=Yv f4 hg
           have j1:w'.frozen? ⟨gC,kp*2+1,none⟩=false:=by rw [hg];exact z4
           have lb2:gC<w'.heap.size:=by rw [hg];exact hgC
           have hall:∀ j,j<16->j≠15->l.getD j false=true:=by
            intro j hj hne
            rcases Zpi j hj with rfl|rfl|rfl|rfl|rfl|rfl|rfl|rfl|rfl|rfl|rfl|rfl|rfl|rfl|rfl|rfl
            · exact hW.cl (1,0) (by decide) (hW.cl (2,1) (by decide) (hW.cl (3,2) (by decide) (hW.cl (4,3) (by decide) (hW.cl (7,4) (by decide) (hW.cl (8,7) (by decide) (hW.cl (9,8) (by decide) (hW.cl (13,9) (by decide) (hW.cl (14,13) (by decide) (Zb hi 14 (by kernel_rfl))))))))))
            · exact hW.cl (2,1) (by decide) (hW.cl (3,2) (by decide) (hW.cl (4,3) (by decide) (hW.cl (7,4) (by decide) (hW.cl (8,7) (by decide) (hW.cl (9,8) (by decide) (hW.cl (13,9) (by decide) (hW.cl (14,13) (by decide) (Zb hi 14 (by kernel_rfl)))))))))
            · exact hW.cl (3,2) (by decide) (hW.cl (4,3) (by decide) (hW.cl (7,4) (by decide) (hW.cl (8,7) (by decide) (hW.cl (9,8) (by decide) (hW.cl (13,9) (by decide) (hW.cl (14,13) (by decide) (Zb hi 14 (by kernel_rfl))))))))
            · exact hW.cl (4,3) (by decide) (hW.cl (7,4) (by decide) (hW.cl (8,7) (by decide) (hW.cl (9,8) (by decide) (hW.cl (13,9) (by decide) (hW.cl (14,13) (by decide) (Zb hi 14 (by kernel_rfl)))))))
            · exact hW.cl (7,4) (by decide) (hW.cl (8,7) (by decide) (hW.cl (9,8) (by decide) (hW.cl (13,9) (by decide) (hW.cl (14,13) (by decide) (Zb hi 14 (by kernel_rfl))))))
            · exact hW.cl (6,5) (by decide) (hW.cl (7,6) (by decide) (hW.cl (8,7) (by decide) (hW.cl (9,8) (by decide) (hW.cl (13,9) (by decide) (hW.cl (14,13) (by decide) (Zb hi 14 (by kernel_rfl)))))))
            · exact hW.cl (7,6) (by decide) (hW.cl (8,7) (by decide) (hW.cl (9,8) (by decide) (hW.cl (13,9) (by decide) (hW.cl (14,13) (by decide) (Zb hi 14 (by kernel_rfl))))))
            · exact hW.cl (8,7) (by decide) (hW.cl (9,8) (by decide) (hW.cl (13,9) (by decide) (hW.cl (14,13) (by decide) (Zb hi 14 (by kernel_rfl)))))
            · exact hW.cl (9,8) (by decide) (hW.cl (13,9) (by decide) (hW.cl (14,13) (by decide) (Zb hi 14 (by kernel_rfl))))
            · exact hW.cl (13,9) (by decide) (hW.cl (14,13) (by decide) (Zb hi 14 (by kernel_rfl)))
            · exact hW.cl (11,10) (by decide) (hW.cl (13,11) (by decide) (hW.cl (14,13) (by decide) (Zb hi 14 (by kernel_rfl))))
            · exact hW.cl (13,11) (by decide) (hW.cl (14,13) (by decide) (Zb hi 14 (by kernel_rfl)))
            · exact Zb hi 12 (by kernel_rfl)
            · exact hW.cl (14,13) (by decide) (Zb hi 14 (by kernel_rfl))
            · exact Zb hi 14 (by kernel_rfl)
            · exact absurd rfl hne
           exact Zbk (WS:=fun l9 w9=>Zcs 15 16 0 [(1,0),(2,1),(3,2),(4,3),(6,5),(7,4),(7,6),(8,7),(9,8),(11,10),(13,9),(13,11),(14,13),(15,14),(15,12)] [] (fun w9=>w9=w4.drew) (fun _=>True) (Yib p b4 kf kp gF c.funcs.length cF gC code.length cC nv ) (fun w9=>w9=w4.drew.setCell ⟨gC,kp*2+1,none⟩ (.int .i64 nv)) l9 w9) hJ rfl rfl rfl (by decide) (by decide) (w':=w'.setCell ⟨gC,kp*2+1,none⟩ (.int .i64 nv)) (by simp [execOp,Act.eval,e61,e59,k1,j1,lb2,go_sem]) (Jh hW (by decide) (by decide) hall (Zj _ hi (by kernel_rfl)) (by rw [hg]))
        case fin =>
         intro l9 a1 w9 hJJ hl9
         obtain ⟨hJ,hW⟩:=hJJ
         have hq9:=hW.q (hl9 15 (by decide))
         have hput:=Xw hJ rfl hl9 (fun i j h1 h2 h3=>Yc j h2 i h1 h3)
         subst hput
         subst hq9
         clear hJ hW hl9 c2 f3 f4 y0 y1 y2 y3
         (try refine hK10 _ _ ?_)
         simp only [Jy,Ymh,Xl,Act.put,List.setIfInBounds_toArray,List.set_cons_zero,List.set_cons_succ]
         go_wp2
         go_roundw
         case rel=>exact ⟨k+1,Zsw fs kf kp nv,by go_num,by omega,HE.out,Zki SS.out kf kp nv,HP.out.1⟩
         case measure=>simp [intOf];omega
    | false =>
      have hfd:Zph c ⟨bline,kf,kp,bw,false⟩=(c.lm.getD kf fun _=>none) bw:=rfl
      go_upto_region 6 with fail
      have AQ0:=Hq (Yr AR.out (Ga wr (.cells #[.int .i64 bline,.int .i64 kf,.int .i64 kp,.string (bs bw),.bool false] 131) none))
      have HB0:=heap_alloc_new wr (.cells #[.int .i64 bline,.int .i64 kf,.int .i64 kp,.string (bs bw),.bool false] 131)
      generalize wr.alloc (.cells #[.int .i64 bline,.int .i64 kf,.int .i64 kp,.string (bs bw),.bool false] 131)=w3 at *
      generalize wr.heap.size=b4 at *
      clear c4 x0 x1 x2 x3 x4
      (try rename_i K6 hK6)
      have hlm:kf<c.lm.length:=by have:=AQ0.out.lens;have:=SS.out.1;simp only [] at *;omega
      have hlb:kf<lb.length:=by have:=AQ0.out.ins.len1;simp only [] at *;omega
      obtain ⟨bq,hbq⟩:∃ b,lb[kf]? = some b:=⟨_,List.getElem?_eq_getElem hlb⟩
      obtain ⟨fq,hfq⟩:∃ f,c.lm[kf]? = some f:=⟨_,List.getElem?_eq_getElem hlm⟩
      have hfd2:(c.lm.getD kf fun _=>none)=fq:=by rw [List.getD_eq_getElem?_getD,hfq];rfl
      rw [hfd2] at hfd
      have AQ:=Hq (Yr AQ0.out (Zg (Zd w3 none)))
      have HB4:=Zf HB0 (Zg (Zd w3 none)) (by simp)
      obtain ⟨gL,cL',hvL,hgL,hcL⟩:=Xc AQ0.out.ins.lrow (by omega)
      injection hvL with hvL h91 h92;clear h91 h92
      subst hvL
      have c5:=Cq w3 p 5 _ _ _ AQ0.out.box
      have e0:=hcL kf (.map (some bq)) (by rw [List.getElem?_map,hbq];rfl) (by omega)
      have x1:=Cq w3 b4 1 _ _ _ HB0
      have hlt3:p<w3.heap.size:=(Gs AQ0.out.box)
      have hb43:b4<w3.heap.size:=(Gs HB0)
      refine Xa (n:=9) (J:=fun a0 l a1 w1=>RJ a0 63 9 fi6 (Zwh p b4 kf gL lb.length cL bq ) l a1/\Zcs 9 9 0 [(1,0),(2,1),(3,2),(5,4),(6,3),(6,5),(7,6),(8,7)] [] (fun w9=>w9=w3.drew) (fun _=>True) (Yrj p b4 kf gL lb.length cL bq ) (fun _=>True) l w1) (by kernel_rfl) rfl (Xx (by kernel_rfl)) (fun l a1 w1 h=>by obtain ⟨h,_⟩:=h;exact h.sz) ⟨Yz rfl,Yf (rfl) (True.intro)⟩ ?step ?fin
      case step =>
       intro l a1 w' i hJJ hi hin
       obtain ⟨hJ,hW⟩:=hJJ
       have hun:l.getD i false=false:=getD_both (mem_ready.1 hi).1
       have hns:=Jv hW hin hun
       have hg:=hW.g hns
       have l0:p<w'.heap.size:=by rw [hg];exact hlt3
       have l1:b4<w'.heap.size:=by rw [hg];exact hb43
       have l2:gL<w'.heap.size:=by rw [hg];exact hgL
       rcases Ypb i hin with rfl|rfl|rfl|rfl|rfl|rfl|rfl|rfl|rfl
       · have e0:a1.tmps.getD 0 undef = .pointer (some ⟨p,0,none⟩):=hJ.un 0 (fun i hi _=>Ydq 0 (by decide) i hi)
         exact Zc hJ hW hi hun rfl (by rfl) rfl (by decide) (by decide) (Zfs _ (by decide)) (w':=w') (by simp [execOp,resolve,invoke,builtin,Act.eval,e0,l0,l1,l2,go_sem,Zwh]) (⟨by decide,by kernel_rfl,True.intro⟩)
       · have e24:a1.tmps.getD 24 undef = .pointer (some ⟨p,0,none⟩):=(Ze hJ hi 0 (by kernel_rfl))
         exact Zc hJ hW hi hun rfl (by rfl) rfl (by decide) (by decide) (Zfs _ (by decide)) (w':=w') (by simp [execOp,resolve,invoke,builtin,Act.eval,e24,l0,l1,l2,go_sem,Zwh]) (⟨by decide,by kernel_rfl,True.intro⟩)
       · have e25:a1.tmps.getD 25 undef = .pointer (some ⟨p,0,none⟩):=(Ze hJ hi 1 (by kernel_rfl))
         exact Zc hJ hW hi hun rfl (by rfl) rfl (by decide) (by decide) (Zfs _ (by decide)) (w':=w') (by simp [execOp,resolve,invoke,builtin,Act.eval,e25,l0,l1,l2,go_sem,Zwh]) (⟨by decide,by kernel_rfl,True.intro⟩)
       · have e26:a1.tmps.getD 26 undef = .pointer (some ⟨p,5,none⟩):=(Ze hJ hi 2 (by kernel_rfl))
         have h0:=Yv c5 hg
         exact Zc hJ hW hi hun rfl (by rfl) rfl (by decide) (by decide) (Zfs _ (by decide)) (w':=w') (by simp [execOp,resolve,invoke,builtin,Act.eval,e26,h0,l0,l1,l2,go_sem,Zwh]) (⟨by decide,by kernel_rfl,True.intro⟩)
       · have e4:a1.tmps.getD 4 undef = .pointer (some ⟨b4,0,none⟩):=hJ.un 4 (fun i hi _=>Ydq 4 (by decide) i hi)
         exact Zc hJ hW hi hun rfl (by rfl) rfl (by decide) (by decide) (Zfs _ (by decide)) (w':=w') (by simp [execOp,resolve,invoke,builtin,Act.eval,e4,l0,l1,l2,go_sem,Zwh]) (⟨by decide,by kernel_rfl,True.intro⟩)
       · have e28:a1.tmps.getD 28 undef = .pointer (some ⟨b4,1,none⟩):=(Ze hJ hi 4 (by kernel_rfl))
         have h0:=Yv x1 hg
         exact Zc hJ hW hi hun rfl (by rfl) rfl (by decide) (by decide) (Zfs _ (by decide)) (w':=w') (by simp [execOp,resolve,invoke,builtin,Act.eval,e28,h0,l0,l1,l2,go_sem,Zwh]) (⟨by decide,by kernel_rfl,True.intro⟩)
       · have e27:a1.tmps.getD 27 undef = .slice (some ⟨gL,0,none⟩) lb.length cL:=(Ze hJ hi 3 (by kernel_rfl))
         have e29:a1.tmps.getD 29 undef = .int .i64 (kf:Int):=(Ze hJ hi 5 (by kernel_rfl))
         exact Zc hJ hW hi hun rfl (by rfl) rfl (by decide) (by decide) (Zfs _ (by decide)) (w':=w') (by first|(simp [execOp,resolve,invoke,builtin,Act.eval,e27,e29,l0,l1,l2,go_sem,Zwh];done)|(simp [execOp,resolve,invoke,builtin,Act.eval,e27,e29,l0,l1,l2,go_sem,Zwh];omega)|(simp [execOp,resolve,invoke,builtin,Act.eval,e27,e29,l0,l1,l2,go_sem,Zwh];intro h;omega)|(simp [execOp,resolve,invoke,builtin,Act.eval,e27,e29,l0,l1,l2,go_sem,Zwh];intros;omega)) (⟨by decide,by kernel_rfl,True.intro⟩)
       · have e30:a1.tmps.getD 30 undef = .pointer (some ⟨gL,kf,none⟩):=(Ze hJ hi 6 (by kernel_rfl))
         have h0:=Yv e0 hg
         exact Zc hJ hW hi hun rfl (by rfl) rfl (by decide) (by decide) (Zfs _ (by decide)) (w':=w') (by simp [execOp,resolve,invoke,builtin,Act.eval,e30,h0,l0,l1,l2,go_sem,Zwh]) (⟨by decide,by kernel_rfl,True.intro⟩)
       · have e31:a1.tmps.getD 31 undef = .map (some bq):=(Ze hJ hi 7 (by kernel_rfl))
         exact Zc hJ hW hi hun rfl (by rfl) rfl (by decide) (by decide) (Zfs _ (by decide)) (w':=w') (by simp [execOp,resolve,invoke,builtin,Act.eval,e31,l0,l1,l2,go_sem,Zwh]) (⟨by decide,by kernel_rfl,True.intro⟩)
      case fin =>
       intro l9 a1 w4 hJJ hl9
       obtain ⟨hJ,hW⟩:=hJJ
       have hq9:w4=w3.drew:=hW.g (Zao hW)
       have hput:=Xw hJ rfl hl9 (fun i j h1 h2 h3=>Zfs j h2 i h1 h3)
       subst hput
       rw [<- hq9] at AQ HB4
       clear hJ hW hl9 c5 e0 x1 HB0 hcL
       (try refine hK6 _ _ ?_)
       simp only [Jy,fi6,Zwh,Act.put,List.setIfInBounds_toArray,List.set_cons_zero,List.set_cons_succ]
       have hmok:=Zox (AQ.out.ins.each kf bq fq hbq hfq).1 bw hbw
       clear hq9
       have y0:=Cq w4 b4 0 _ _ _ HB4
       have y1:=Cq w4 b4 1 _ _ _ HB4
       have y2:=Cq w4 b4 2 _ _ _ HB4
       have y3:=Cq w4 b4 3 _ _ _ HB4
       have hb4:b4<w4.heap.size:=(Gs HB4)
       have hlt4:p<w4.heap.size:=(Gs AQ.out.box)
       obtain ⟨q,hq⟩:∃ q,Zph c ⟨bline,kf,kp,bw,false⟩=q:=⟨_,rfl⟩
       rw [<- hfd,hq] at hmok
       cases q with
       | none =>
         have HE:=Hq (FD.out.symm.trans (Znq hq))
         simp only [Option.getD_none,Option.isSome_none] at hmok
         clear hq hfd
         go_wp2
         go_ret
         rw [HE.out]
         exact ⟨⟨_,rfl,AQ.out.gr.size,heap_alloc_new w4 _⟩,Za AQ.out.gr (Ga _ _ none)⟩
       | some nv =>
         have HE:=Hq ((Znp hq).symm.trans FD.out)
         simp only [Option.getD_some,Option.isSome_some] at hmok
         clear hq hfd
         go_upto_region 10 with fail
         (try rename_i K10 hK10)
         obtain ⟨⟨fa,fl,fr,code⟩,hfs⟩:∃ f,fs[kf]? = some f:=⟨_,List.getElem?_eq_getElem (by rw [<- SS.out.1];exact hkf)⟩
         have hcode:kp<code.length:=by have:=SS.out.2 kf _ _ HF0.out hfs;simp only [] at this;omega
         obtain ⟨vc,hvc⟩:∃ v,cv[kf]? = some v:=⟨_,List.getElem?_eq_getElem (by rw [AQ.out.ins.own.cl];show kf<fs.length;rw [<- SS.out.1];exact hkf)⟩
         have hoc:=AQ.out.ins.own.each kf _ vc hfs hvc
         obtain ⟨gC,cC,hvC,hgC,hcC⟩:=Xc hoc (by simp only [];omega)
         simp only [] at hvC
         subst hvC
         obtain ⟨gF,cF',hvF,hgF,hcF⟩:=Xc AQ.out.ins.own.fr (by show 0<fs.length;rw [<- SS.out.1];omega)
         injection hvF with hvF h91 h92;clear h91 h92
         subst hvF
         obtain ⟨-,-,-,q3⟩:=Zbu fs cv kf _ _ hfs hvc
         have f3:=hcF _ _ q3 (by show kf*4+3<fs.length*4;rw [<- SS.out.1];omega)
         obtain ⟨⟨o9,a9⟩,hcp⟩:∃ z,code[kp]? = some z:=⟨_,List.getElem?_eq_getElem hcode⟩
         obtain ⟨-,k3⟩:=Zhi code kp o9 a9 hcp
         have f4:=hcC _ _ k3 (by simp only [];omega)
         have z4:=Zil hoc (kp*2+1)
         have c2:=Cq w4 p 2 _ _ _ AQ.out.box
         have HP:=Hq (Zqi (n:=nv) (Yr AQ.out (Zg (Zd w4 none))) hfs hvc hcode)
         clear hcF hcC q3 k3 hoc
         refine Xa (n:=16) (J:=fun a0 l a1 w1=>RJ a0 63 16 Ymh (Xl p b4 kf kp gF c.funcs.length cF gC code.length cC nv ) l a1/\Zcs 15 16 0 [(1,0),(2,1),(3,2),(4,3),(6,5),(7,4),(7,6),(8,7),(9,8),(11,10),(13,9),(13,11),(14,13),(15,14),(15,12)] [] (fun w9=>w9=w4.drew) (fun _=>True) (Yib p b4 kf kp gF c.funcs.length cF gC code.length cC nv ) (fun w9=>w9=w4.drew.setCell ⟨gC,kp*2+1,none⟩ (.int .i64 nv)) l w1) (by kernel_rfl) rfl (Xx (by kernel_rfl)) (fun l a1 w1 h=>by obtain ⟨h,_⟩:=h;exact h.sz) ⟨Yz rfl,Yf (rfl) (True.intro)⟩ ?step ?fin
         case step =>
          intro l a1 w' i hJJ hi hin
          obtain ⟨hJ,hW⟩:=hJJ
          have hun:l.getD i false=false:=getD_both (mem_ready.1 hi).1
          have hns:=Jv hW hin hun
          have hg:=hW.g hns
          have l0:p<w'.heap.size:=by rw [hg];exact hlt4
          have l1:b4<w'.heap.size:=by rw [hg];exact hb4
          have l2:gF<w'.heap.size:=by rw [hg];exact hgF
          have l3:gC<w'.heap.size:=by rw [hg];exact hgC
          rcases Zpi i hin with rfl|rfl|rfl|rfl|rfl|rfl|rfl|rfl|rfl|rfl|rfl|rfl|rfl|rfl|rfl|rfl
          · have e0:a1.tmps.getD 0 undef = .pointer (some ⟨p,0,none⟩):=hJ.un 0 (fun i hi _=>Zcg 0 (by decide) i hi)
            exact Zc hJ hW hi hun rfl (by rfl) rfl (by decide) (by decide) (Yc _ (by decide)) (w':=w') (by simp [execOp,resolve,invoke,builtin,Act.eval,e0,l0,l1,l2,l3,go_sem,Xl]) (⟨by decide,by kernel_rfl,True.intro⟩)
          · have e47:a1.tmps.getD 47 undef = .pointer (some ⟨p,0,none⟩):=(Ze hJ hi 0 (by kernel_rfl))
            exact Zc hJ hW hi hun rfl (by rfl) rfl (by decide) (by decide) (Yc _ (by decide)) (w':=w') (by simp [execOp,resolve,invoke,builtin,Act.eval,e47,l0,l1,l2,l3,go_sem,Xl]) (⟨by decide,by kernel_rfl,True.intro⟩)
          · have e48:a1.tmps.getD 48 undef = .pointer (some ⟨p,0,none⟩):=(Ze hJ hi 1 (by kernel_rfl))
            exact Zc hJ hW hi hun rfl (by rfl) rfl (by decide) (by decide) (Yc _ (by decide)) (w':=w') (by simp [execOp,resolve,invoke,builtin,Act.eval,e48,l0,l1,l2,l3,go_sem,Xl]) (⟨by decide,by kernel_rfl,True.intro⟩)
          · have e49:a1.tmps.getD 49 undef = .pointer (some ⟨p,0,none⟩):=(Ze hJ hi 2 (by kernel_rfl))
            exact Zc hJ hW hi hun rfl (by rfl) rfl (by decide) (by decide) (Yc _ (by decide)) (w':=w') (by simp [execOp,resolve,invoke,builtin,Act.eval,e49,l0,l1,l2,l3,go_sem,Xl]) (⟨by decide,by kernel_rfl,True.intro⟩)
          · have e50:a1.tmps.getD 50 undef = .pointer (some ⟨p,2,none⟩):=(Ze hJ hi 3 (by kernel_rfl))
            have h0:=Yv c2 hg
            exact Zc hJ hW hi hun rfl (by rfl) rfl (by decide) (by decide) (Yc _ (by decide)) (w':=w') (by simp [execOp,resolve,invoke,builtin,Act.eval,e50,h0,l0,l1,l2,l3,go_sem,Xl]) (⟨by decide,by kernel_rfl,True.intro⟩)
          · have e4:a1.tmps.getD 4 undef = .pointer (some ⟨b4,0,none⟩):=hJ.un 4 (fun i hi _=>Zcg 4 (by decide) i hi)
            exact Zc hJ hW hi hun rfl (by rfl) rfl (by decide) (by decide) (Yc _ (by decide)) (w':=w') (by simp [execOp,resolve,invoke,builtin,Act.eval,e4,l0,l1,l2,l3,go_sem,Xl]) (⟨by decide,by kernel_rfl,True.intro⟩)
          · have e52:a1.tmps.getD 52 undef = .pointer (some ⟨b4,1,none⟩):=(Ze hJ hi 5 (by kernel_rfl))
            have h0:=Yv y1 hg
            exact Zc hJ hW hi hun rfl (by rfl) rfl (by decide) (by decide) (Yc _ (by decide)) (w':=w') (by simp [execOp,resolve,invoke,builtin,Act.eval,e52,h0,l0,l1,l2,l3,go_sem,Xl]) (⟨by decide,by kernel_rfl,True.intro⟩)
          · have e51:a1.tmps.getD 51 undef = .slice (some ⟨gF,0,none⟩) c.funcs.length cF:=(Ze hJ hi 4 (by kernel_rfl))
            have e53:a1.tmps.getD 53 undef = .int .i64 (kf:Int):=(Ze hJ hi 6 (by kernel_rfl))
            exact Zc hJ hW hi hun rfl (by rfl) rfl (by decide) (by decide) (Yc _ (by decide)) (w':=w') (by first|(simp [execOp,resolve,invoke,builtin,Act.eval,e51,e53,l0,l1,l2,l3,go_sem,Xl];done)|(simp [execOp,resolve,invoke,builtin,Act.eval,e51,e53,l0,l1,l2,l3,go_sem,Xl];omega)|(simp [execOp,resolve,invoke,builtin,Act.eval,e51,e53,l0,l1,l2,l3,go_sem,Xl];intro h;omega)|(simp [execOp,resolve,invoke,builtin,Act.eval,e51,e53,l0,l1,l2,l3,go_sem,Xl];intros;omega)) (⟨by decide,by kernel_rfl,True.intro⟩)
          · have e54:a1.tmps.getD 54 undef = .pointer (some ⟨gF,kf*4,none⟩):=(Ze hJ hi 7 (by kernel_rfl))
            exact Zc hJ hW hi hun rfl (by rfl) rfl (by decide) (by decide) (Yc _ (by decide)) (w':=w') (by simp [execOp,resolve,invoke,builtin,Act.eval,e54,l0,l1,l2,l3,go_sem,Xl]) (⟨by decide,by kernel_rfl,True.intro⟩)
          · have e55:a1.tmps.getD 55 undef = .pointer (some ⟨gF,kf*4+3,none⟩):=(Ze hJ hi 8 (by kernel_rfl))
            have h0:=Yv f3 hg
            exact Zc hJ hW hi hun rfl (by rfl) rfl (by decide) (by decide) (Yc _ (by decide)) (w':=w') (by simp [execOp,resolve,invoke,builtin,Act.eval,e55,h0,l0,l1,l2,l3,go_sem,Xl]) (⟨by decide,by kernel_rfl,True.intro⟩)
          · have e4:a1.tmps.getD 4 undef = .pointer (some ⟨b4,0,none⟩):=hJ.un 4 (fun i hi _=>Zcg 4 (by decide) i hi)
            exact Zc hJ hW hi hun rfl (by rfl) rfl (by decide) (by decide) (Yc _ (by decide)) (w':=w') (by simp [execOp,resolve,invoke,builtin,Act.eval,e4,l0,l1,l2,l3,go_sem,Xl]) (⟨by decide,by kernel_rfl,True.intro⟩)
          · have e57:a1.tmps.getD 57 undef = .pointer (some ⟨b4,2,none⟩):=(Ze hJ hi 10 (by kernel_rfl))
            have h0:=Yv y2 hg
            exact Zc hJ hW hi hun rfl (by rfl) rfl (by decide) (by decide) (Yc _ (by decide)) (w':=w') (by simp [execOp,resolve,invoke,builtin,Act.eval,e57,h0,l0,l1,l2,l3,go_sem,Xl]) (⟨by decide,by kernel_rfl,True.intro⟩)
          · have e6:a1.tmps.getD 6 undef = .int .i64 nv:=hJ.un 6 (fun i hi _=>Zcg 6 (by decide) i hi)
            exact Zc hJ hW hi hun rfl (by rfl) rfl (by decide) (by decide) (Yc _ (by decide)) (w':=w') (by simp [execOp,resolve,invoke,builtin,Act.eval,e6,l0,l1,l2,l3,go_sem,Xl]) (⟨by decide,by kernel_rfl,True.intro⟩)
          · have e56:a1.tmps.getD 56 undef = .slice (some ⟨gC,0,none⟩) code.length cC:=(Ze hJ hi 9 (by kernel_rfl))
            have e58:a1.tmps.getD 58 undef = .int .i64 (kp:Int):=(Ze hJ hi 11 (by kernel_rfl))
            exact Zc hJ hW hi hun rfl (by rfl) rfl (by decide) (by decide) (Yc _ (by decide)) (w':=w') (by first|(simp [execOp,resolve,invoke,builtin,Act.eval,e56,e58,l0,l1,l2,l3,go_sem,Xl];done)|(simp [execOp,resolve,invoke,builtin,Act.eval,e56,e58,l0,l1,l2,l3,go_sem,Xl];omega)|(simp [execOp,resolve,invoke,builtin,Act.eval,e56,e58,l0,l1,l2,l3,go_sem,Xl];intro h;omega)|(simp [execOp,resolve,invoke,builtin,Act.eval,e56,e58,l0,l1,l2,l3,go_sem,Xl];intros;omega)) (⟨by decide,by kernel_rfl,True.intro⟩)
          · have e60:a1.tmps.getD 60 undef = .pointer (some ⟨gC,kp*2,none⟩):=(Ze hJ hi 13 (by kernel_rfl))
            exact Zc hJ hW hi hun rfl (by rfl) rfl (by decide) (by decide) (Yc _ (by decide)) (w':=w') (by simp [execOp,resolve,invoke,builtin,Act.eval,e60,l0,l1,l2,l3,go_sem,Xl]) (⟨by decide,by kernel_rfl,True.intro⟩)
          · have e61:a1.tmps.getD 61 undef = .pointer (some ⟨gC,kp*2+1,none⟩):=(Ze hJ hi 14 (by kernel_rfl))
            have e59:a1.tmps.getD 59 undef = .int .i64 nv:=(Ze hJ hi 12 (by kernel_rfl))
            have k1:=Yv f4 hg
            have j1:w'.frozen? ⟨gC,kp*2+1,none⟩=false:=by rw [hg];exact z4
            have lb2:gC<w'.heap.size:=by rw [hg];exact hgC
            have hall:∀ j,j<16->j≠15->l.getD j false=true:=by
             intro j hj hne
             rcases Zpi j hj with rfl|rfl|rfl|rfl|rfl|rfl|rfl|rfl|rfl|rfl|rfl|rfl|rfl|rfl|rfl|rfl
             · exact hW.cl (1,0) (by decide) (hW.cl (2,1) (by decide) (hW.cl (3,2) (by decide) (hW.cl (4,3) (by decide) (hW.cl (7,4) (by decide) (hW.cl (8,7) (by decide) (hW.cl (9,8) (by decide) (hW.cl (13,9) (by decide) (hW.cl (14,13) (by decide) (Zb hi 14 (by kernel_rfl))))))))))
             · exact hW.cl (2,1) (by decide) (hW.cl (3,2) (by decide) (hW.cl (4,3) (by decide) (hW.cl (7,4) (by decide) (hW.cl (8,7) (by decide) (hW.cl (9,8) (by decide) (hW.cl (13,9) (by decide) (hW.cl (14,13) (by decide) (Zb hi 14 (by kernel_rfl)))))))))
             · exact hW.cl (3,2) (by decide) (hW.cl (4,3) (by decide) (hW.cl (7,4) (by decide) (hW.cl (8,7) (by decide) (hW.cl (9,8) (by decide) (hW.cl (13,9) (by decide) (hW.cl (14,13) (by decide) (Zb hi 14 (by kernel_rfl))))))))
             · exact hW.cl (4,3) (by decide) (hW.cl (7,4) (by decide) (hW.cl (8,7) (by decide) (hW.cl (9,8) (by decide) (hW.cl (13,9) (by decide) (hW.cl (14,13) (by decide) (Zb hi 14 (by kernel_rfl)))))))
             · exact hW.cl (7,4) (by decide) (hW.cl (8,7) (by decide) (hW.cl (9,8) (by decide) (hW.cl (13,9) (by decide) (hW.cl (14,13) (by decide) (Zb hi 14 (by kernel_rfl))))))
             · exact hW.cl (6,5) (by decide) (hW.cl (7,6) (by decide) (hW.cl (8,7) (by decide) (hW.cl (9,8) (by decide) (hW.cl (13,9) (by decide) (hW.cl (14,13) (by decide) (Zb hi 14 (by kernel_rfl)))))))
             · exact hW.cl (7,6) (by decide) (hW.cl (8,7) (by decide) (hW.cl (9,8) (by decide) (hW.cl (13,9) (by decide) (hW.cl (14,13) (by decide) (Zb hi 14 (by kernel_rfl))))))
             · exact hW.cl (8,7) (by decide) (hW.cl (9,8) (by decide) (hW.cl (13,9) (by decide) (hW.cl (14,13) (by decide) (Zb hi 14 (by kernel_rfl)))))
             · exact hW.cl (9,8) (by decide) (hW.cl (13,9) (by decide) (hW.cl (14,13) (by decide) (Zb hi 14 (by kernel_rfl))))
             · exact hW.cl (13,9) (by decide) (hW.cl (14,13) (by decide) (Zb hi 14 (by kernel_rfl)))
             · exact hW.cl (11,10) (by decide) (hW.cl (13,11) (by decide) (hW.cl (14,13) (by decide) (Zb hi 14 (by kernel_rfl))))
             · exact hW.cl (13,11) (by decide) (hW.cl (14,13) (by decide) (Zb hi 14 (by kernel_rfl)))
             · exact Zb hi 12 (by kernel_rfl)
             · exact hW.cl (14,13) (by decide) (Zb hi 14 (by kernel_rfl))
             · exact Zb hi 14 (by kernel_rfl)
             · exact absurd rfl hne
            exact Zbk (WS:=fun l9 w9=>Zcs 15 16 0 [(1,0),(2,1),(3,2),(4,3),(6,5),(7,4),(7,6),(8,7),(9,8),(11,10),(13,9),(13,11),(14,13),(15,14),(15,12)] [] (fun w9=>w9=w4.drew) (fun _=>True) (Yib p b4 kf kp gF c.funcs.length cF gC code.length cC nv ) (fun w9=>w9=w4.drew.setCell ⟨gC,kp*2+1,none⟩ (.int .i64 nv)) l9 w9) hJ rfl rfl rfl (by decide) (by decide) (w':=w'.setCell ⟨gC,kp*2+1,none⟩ (.int .i64 nv)) (by simp [execOp,Act.eval,e61,e59,k1,j1,lb2,go_sem]) (Jh hW (by decide) (by decide) hall (Zj _ hi (by kernel_rfl)) (by rw [hg]))
         case fin =>
          intro l9 a1 w9 hJJ hl9
          obtain ⟨hJ,hW⟩:=hJJ
          have hq9:=hW.q (hl9 15 (by decide))
          have hput:=Xw hJ rfl hl9 (fun i j h1 h2 h3=>Yc j h2 i h1 h3)
          subst hput
          subst hq9
          clear hJ hW hl9 c2 f3 f4 y0 y1 y2 y3
          (try refine hK10 _ _ ?_)
          simp only [Jy,Ymh,Xl,Act.put,List.setIfInBounds_toArray,List.set_cons_zero,List.set_cons_succ]
          go_wp2
          go_roundw
          case rel=>exact ⟨k+1,Zsw fs kf kp nv,by go_num,by omega,HE.out,Zki SS.out kf kp nv,HP.out.1⟩
          case measure=>simp [intOf];omega
  · have hkn:k=c.blk.length:=by omega
    subst hkn
    have HE:=Hq (show R = .ok fs by have:=FR.out;rw [List.drop_length] at this;exact this.symm)
    clear hkl
    go_wp2
    go_ret
    rw [HE.out]
    exact ⟨⟨rfl,_,Yqc AR.out⟩,AR.out.gr⟩
def C0:CS:=⟨0,false,[],[],fun _=>none,[],[]⟩
def Zvw:CS->Int->List Txt->Except (Int × Int) CS
 | c,_,[] => .ok c
 | c,n,l::r=>match lnC n c l with
   | none => .error (141,n)
   | some (c',none)=>Zvw c' (n+1) r
   | some (_,some y) => .error (y,n)
def Zbm (t:Txt):Except (Int × Int) PrP :=
 if 65536<t.length then .error (2,0)
 else match Zvw C0 1 (Zcr t) with
  | .error e => .error e
  | .ok c=>match Zem c c.funcs c.blk with
    | .error n => .error (142,n)
    | .ok fs=>if Xg c.mem c.data.length fs=0 then .ok (c.mem,c.data,fs) else .error (Xg c.mem c.data.length fs,0)
theorem Zit {c c':CS} (h:Zcq c) (h1:c'.funcs=c.funcs) (h2:c'.blk=c.blk):Zcq c':=by
 intro b hb
 rw [h2] at hb
 rw [h1]
 exact h b hb
theorem Yeg {c:CS} {x:Option Int} {t:Txt} (h:Zcq c):Zcq (Zif c x t).1:=by
 unfold Zif
 simp only []
 split
 · exact h
 · exact Zit h rfl rfl
theorem Zre {c:CS} {k:Nat} (hk:c.funcs.length=k+1):c.funcs[k]? = some (c.funcs.getD k (0,0,0,[])):=by
 rw [List.getD_eq_getElem?_getD,List.getElem?_eq_getElem (by omega:k<c.funcs.length)];rfl
theorem Zhm {c:CS} {i:Int × Int} (hk:c.funcs.length≠0) (h:Zcq c):Zcq (Zgt c i):=by
 obtain ⟨k,hk⟩:∃ k,c.funcs.length=k+1:=⟨c.funcs.length - 1,by omega⟩
 intro b hb
 obtain ⟨kf,kp,f,e1,e2,h1,h2,h3⟩:=h b hb
 have hg:=Zre hk
 have hkl:k<c.funcs.length:=by omega
 unfold Zgt
 simp only [hk,Nat.add_sub_cancel]
 by_cases e:kf=k
 · subst e
   rw [hg] at h1
   injection h1 with h1
   refine ⟨kf,kp,_,e1,e2,List.getElem?_set_self hkl,?_,h3⟩
   simp only [List.length_append,List.length_singleton]
   rw [h1];omega
 · exact ⟨kf,kp,f,e1,e2,by rw [List.getElem?_set_ne (Ne.symm e)];exact h1,h2,h3⟩
theorem Zsf {c:CS} {i:Int × Int} {line:Int} {s:Txt} {bb:Bool} (hk:c.funcs.length≠0) (h:Zcq c) (hs:s.length<=1000000):Zcq (Zgt (Zws c line s bb) i):=by
 obtain ⟨k,hk⟩:∃ k,c.funcs.length=k+1:=⟨c.funcs.length - 1,by omega⟩
 have hg:=Zre hk
 have hkl:k<c.funcs.length:=by omega
 intro b hb
 have hb2:b∈c.blk\/b=⟨line,k,((c.funcs.getD k (0,0,0,[])).2.2.2.length:Int),s,bb⟩:=by
  unfold Zgt Zws at hb
  simp only [hk,Nat.add_sub_cancel] at hb
  rcases List.mem_append.1 hb with hb|hb
  · exact Or.inl hb
  · exact Or.inr (by simpa using hb)
 rcases hb2 with hb2|hb2
 · obtain ⟨kf,kp,f,e1,e2,h1,h2,h3⟩:=Zhm (i:=i) (by omega) h b hb2
   refine ⟨kf,kp,f,e1,e2,?_,h2,h3⟩
   exact h1
 · subst hb2
   unfold Zgt Zws
   simp only [hk,Nat.add_sub_cancel]
   exact ⟨k,_,_,rfl,rfl,List.getElem?_set_self hkl,by simp only [List.length_append,List.length_singleton];omega,hs⟩
theorem Yip {c:CS} (h:Zcq c) (f:FnR) (g:Txt->Option Int) (lm:List (Txt->Option Int)):Zcq { c with funcs:=c.funcs++[f],fm:=g,lm:=lm }:=by
 intro b hb
 obtain ⟨kf,kp,f0,e1,e2,h1,h2,h3⟩:=h b hb
 exact ⟨kf,kp,f0,e1,e2,by show (c.funcs++[f])[kf]? = _;rw [List.getElem?_append_left (List.getElem?_eq_some_iff.1 h1).1];exact h1,h2,h3⟩
theorem Yeh {line:Int} {c c':CS} {x x':Option Int} {ps:List Pc} (h:Zcq c) (hw:∀ t,Pc.word t∈ps->t.length<=1000000) (e:Zii line c x ps=some (c',x')):Zcq c':=by
 unfold Zii at e
 split at e
 · rename_i t rest
   split at e
   · cases e
   · split at e
     · cases e
     · rename_i hk
       unfold Zgi at e
       split at e
       · split at e
         · injection e with e;injection e with e _;subst e
           exact Zhm hk h
         · cases e
       · split at e
         · injection e with e;injection e with e _;subst e
           exact Zhm hk h
         · rename_i s
           split at e
           · injection e with e;injection e with e _;subst e
             exact Zsf hk h (hw s (by simp))
           · split at e
             · split at e
               · cases e
               · injection e with e;injection e with e _;subst e
                 exact Zhm hk h
             · cases e
         · cases e
 · cases e
theorem Znx {line:Int} {c c':CS} {x x':Option Int} {lab:Bool} {ps:List Pc} (h:Zcq c) (hw:∀ t,Pc.word t∈ps->t.length<=1000000) (e:Zcm line c x lab ps=some (c',x')):Zcq c':=by
 unfold Zcm at e
 split at e
 · injection e with e;injection e with e _;subst e;exact h
 · rename_i t r
   split at e
   · unfold Yex at e
     split at e
     · cases e
     · split at e
       · cases e
       · injection e with e;injection e with e _;subst e;exact Zit h rfl rfl
   · split at e
     · unfold Zfk at e
       split at e
       · split at e
         · cases e
         · injection e with e;injection e with e _;subst e;exact Zit h rfl rfl
       · cases e
     · split at e
       · unfold Zek at e
         split at e
         · split at e
           · injection e with e;injection e with e _;subst e;exact Yip h _ _ _
           · cases e
         · cases e
       · exact Yeh h hw e
 · cases e
theorem Zzk {line:Int}:∀ (n:Nat) (ps:List Pc) (c c':CS) (x x':Option Int) (lab:Bool),ps.length<=n->Zcq c->(∀ t,Pc.word t∈ps->t.length<=1000000)->Zfj line c x lab ps=some (c',x')->Zcq c':=by
 intro n
 induction n with
 | zero =>
   intro ps c c' x x' lab hn h hw e
   have:ps=[]:=List.eq_nil_of_length_eq_zero (by omega)
   subst this
   rw [Jb _ _ _ _ _ (by intro t r e;cases e)] at e
   exact Znx h hw e
 | succ n ih =>
   intro ps c c' x x' lab hn h hw e
   by_cases hp:∃ t r,ps = .word t :: .colon::r
   · obtain ⟨t,r,rfl⟩:=hp
     rw [Zdn] at e
     split at e
     · cases e
     · exact ih r _ c' _ x' true (by simp only [List.length_cons] at hn;omega) (Yeg h) (fun u hu=>hw u (by simp [hu])) e
   · rw [Jb _ _ _ _ _ (fun t r e=>hp ⟨t,r,e⟩)] at e
     exact Znx h hw e
theorem Yio {line:Int} {c c':CS} {x':Option Int} {t:Txt} (h:Zcq c) (ht:t.length<=1000000) (e:lnC line c t=some (c',x')):Zcq c':=by
 unfold lnC at e
 cases hp:Zsn t with
 | none=>rw [hp] at e;cases e
 | some ps =>
   rw [hp] at e
   have:=(Zvm hp).2
   exact Zzk ps.length ps c c' none x' false (Nat.le_refl _) h (fun u hu=>Nat.le_trans (this u (Or.inl hu)) ht) e
def Zjn:List Txt->Nat
 | []=>0
 | l::r=>2*l.length+2+Zjn r
theorem Zry:∀ (t:Txt),Zjn (Zcr t)=2*t.length+2
 | []=>rfl
 | c::r=>by
   have ih:=Zry r
   have hne:=Ymm r
   rw [Zcr]
   split
   · simp only [Zjn,List.length_cons,List.length_nil];omega
   · split
     · rename_i h;exact absurd h hne
     · rename_i l m h
       rw [h] at ih
       simp only [Zjn,List.length_cons] at ih ⊢
       omega
theorem Znv:∀ (ls:List Txt) (k:Nat) (l:Txt),ls[k]? = some l->Zjn (ls.drop k)=2*l.length+2+Zjn (ls.drop (k+1))
 | [],k,l,h=>by simp at h
 | a::r,0,l,h=>by simp at h;subst h;rfl
 | a::r,k+1,l,h=>by simpa using Znv r k l (by simpa using h)
theorem Zwl:∀ (ls:List Txt) (k:Nat),Zjn (ls.drop k)<=Zjn ls
 | [],k=>by simp
 | a::r,0=>Nat.le_refl _
 | a::r,k+1=>by have:=Zwl r k;simp only [List.drop_succ_cons,Zjn];omega
theorem Zrx:∀ (ls:List Txt),2*ls.length<=Zjn ls
 | []=>Nat.zero_le _
 | a::r=>by have:=Zrx r;simp only [List.length_cons,Zjn];omega
def Zsl (w:World) (b:Nat) (ls:List Txt):Prop:=∃ cs:Array Value,w.heap[b]? = some (.cells cs 9 (0,0))/\∀ (i:Nat) (l:Txt),ls[i]? = some l->cs[i]? = some (Value.string (bs l))
theorem Ztt {w w':World} {b:Nat} {ls:List Txt} (h:Zsl w b ls) (g:Fr w w'):Zsl w' b ls:=by
 obtain ⟨cs,h1,h2⟩:=h
 exact ⟨cs,(g.keep b cs _ _ h1 (Or.inr rfl)).trans h1,h2⟩
theorem Ztu {w:World} {b i:Nat} {ls:List Txt} {l:Txt} (h:Zsl w b ls) (hi:ls[i]? = some l):w.cell? ⟨b,i,none⟩=some (.string (bs l))/\b<w.heap.size:=by
 obtain ⟨cs,h1,h2⟩:=h
 refine ⟨?_,(Gs h1)⟩
 have:=h2 i l hi
 unfold World.cell?
 simp [h1,this]
theorem Yap (s:ByteArray) (hs:s.size<4294967281) (w:World) (h:LibW w) :
 Calls Tryz.prog 27 #[.string s,.string ⟨#[10]⟩] w fun e w'=>∃ b,e = .returned (.slice (some ⟨b,0,none⟩) (Zcr s.data.toList).length (Zcr s.data.toList).length)/\w.grownBy w' none/\Zsl w' b (Zcr s.data.toList):=by
 obtain ⟨m,hm⟩:=h.max
 refine (Tryz.strings_Split s ⟨#[10]⟩ m w hs hm (Nat.le_refl 1)).mono ?_
 rintro e w' ⟨rfl,rfl⟩
 have hc:=Zxf s
 have hl:=Yml s
 rw [hl]
 refine ⟨w.heap.size,rfl,Ga _ _ _,_,heap_alloc_new w _,fun i l hi => ?_⟩
 rw [<- hc,List.getElem?_map] at hi
 obtain ⟨x,hx,rfl⟩:=Option.map_eq_some_iff.1 hi
 rw [List.getElem?_toArray,List.getElem?_map,hx]
 (try rfl)
theorem Ygf (w:World):PS w ((w.alloc (.map #[] 0)).alloc (.cells #[.int .i64 0,.slice none 0 0,.slice none 0 0,.bool false,.map (some w.heap.size),.slice none 0 0,.slice none 0 0,.nilIface] 70)) (w.heap.size+1) 0 C0 .nilIface:=by
 have g1:=Ga w (.map #[] 0) none
 have g2:=Ga (w.alloc (.map #[] 0)) (.cells #[.int .i64 0,.slice none 0 0,.slice none 0 0,.bool false,.map (some w.heap.size),.slice none 0 0,.slice none 0 0,.nilIface] 70) none
 have hb:=heap_alloc_new (w.alloc (.map #[] 0)) (.cells #[.int .i64 0,.slice none 0 0,.slice none 0 0,.bool false,.map (some w.heap.size),.slice none 0 0,.slice none 0 0,.nilIface] 70)
 rw [World.size_alloc] at hb
 have nilr:∀ (t:TypeId) (sz:Nat) (w:World) (E:Nat),w.ownsRow E t sz (.slice none 0 0) 0 []:=fun t sz w E=>World.ownsRow_nil _ _ _ _
 refine ⟨.slice none 0 0,.slice none 0 0,.slice none 0 0,.slice none 0 0,w.heap.size,[],[],Za g1 g2,Nat.le_succ _,hb,?_,rfl⟩
 refine ⟨⟨nilr _ _ _ _,nilr _ _ _ _,rfl,?_,?_⟩,Zw (Zqs w) g2 (by simp),Nat.le_refl _,nilr _ _ _ _,rfl,?_,?_,by simp,nilr _ _ _ _,Nat.le_refl _,Nat.le_refl _,?_,Nat.le_refl _⟩
 · intro k f v hf hv;simp at hv
 · intro k l v v' b hkl hv;simp at hv
 · intro i b f hi;simp at hi
 · intro i j b hi;simp at hi
 · intro f hf;simp [C0] at hf
theorem Zui:Zcq C0:=fun b hb=>by cases hb
def Zgf (w:World) (b:Nat) (v0 v1 v2:Value):Prop:=w.heap[b]? = some (.cells #[v0,v1,v2] 26 (0,0))
theorem Zee {w:World} {b:Nat} {v0 v1 v2 x0 x1 x2:Value} (h:Zgf w b v0 v1 v2):Zgf (((w.setCell ⟨b,0,none⟩ x0).setCell ⟨b,1,none⟩ x1).setCell ⟨b,2,none⟩ x2) b x0 x1 x2:=by
 unfold Zgf
 rw [Zl (Zl (Zl h))];rfl
theorem Ykk {w0 w:World} {b:Nat} {x0 x1 x2:Value} (h:w0.grownBy w none) (hb:w0.heap.size<=b):w0.grownBy (((w.setCell ⟨b,0,none⟩ x0).setCell ⟨b,1,none⟩ x1).setCell ⟨b,2,none⟩ x2) none :=
 Yd (Yd (Yd h hb) hb) hb
theorem Zmr {w:World} {b:Nat} {x0 x1 x2:Value}:w.grownBy (((w.setCell ⟨b,0,none⟩ x0).setCell ⟨b,1,none⟩ x1).setCell ⟨b,2,none⟩ x2) (some b):=Za (Za (Zo _ _ _ _) (Zo _ _ _ _)) (Zo _ _ _ _)
theorem Ybq {w:World} {b:Nat} {v0 v1 v2:Value} (h:Zgf w b v0 v1 v2):(loadVar 26 ⟨b,0,none⟩).run Tryz.prog w = .ok (.agg #[v0,v1,v2]) w:=by
 have c0:=Cq w _ 0 _ _ _ h
 have c1:=Cq w _ 1 _ _ _ h
 have c2:=Cq w _ 2 _ _ _ h
 have z0:=frozen_of_row w _ 0 _ _ h
 have z1:=frozen_of_row w _ 1 _ _ h
 have z2:=frozen_of_row w _ 2 _ _ h
 go_simp
theorem Zmz {fn:Func} {p u:Tmp} (hf:fn.results = #[.cell p 26,.tmp u]) {tmps:Array Value} {w:World} {b:Nat} {v0 v1 v2 f:Value}
 (hp:tmps.getD p undef = .pointer (some ⟨b,0,none⟩)) (hu:tmps.getD u undef=f) (h:Zgf w b v0 v1 v2) :
 (results fn tmps).run Tryz.prog w = .ok (.tuple #[.agg #[v0,v1,v2],f]) w:=by
 rw [results_cell_tmp hf,hp,hu]
 have:(asAddr (.pointer (some ⟨b,0,none⟩))).run Tryz.prog w = .ok (⟨b,0,none⟩:Addr) w:=rfl
 rw [this]
 simp only [Result.andThen]
 rw [Ybq h]
def Zwx (w:World) (r:Except (Int × Int) PrP) (e:Ending) (w':World):Prop :=
 (match r with
   | .ok (mem,d,fs)=>∃ D F cv,e = .returned (.tuple #[.agg #[.int .i64 mem,D,F],.nilIface])/\Zuo w' w.heap.size D F (Zfp d) fs cv
   | .error (y,n)=>∃ a,e = .returned (.tuple #[.agg #[.int .i64 0,.slice none 0 0,.slice none 0 0],.iface 62 (.pointer (some ⟨a,0,none⟩))])/\w.heap.size<=a/\w'.heap[a]? = some (.cells #[.int .i64 n,Zzc y] 64 (0,0)))/\w.grownBy w' none
theorem Ybr {w w9:World} {r:Nat} {n y:Int} {v0 v1 v2:Value} {R:Except (Int × Int) PrP} (hg:w.grownBy w9 none) (hr:w.heap.size<=r) (hb:Zgf w9 r v0 v1 v2) (hR:R = .error (y,n)) :
 Zwx w R (.returned (.tuple #[.agg #[.int .i64 0,.slice none 0 0,.slice none 0 0],.iface 62 (.pointer (some ⟨w9.heap.size,0,none⟩))]))
  ((((w9.setCell ⟨r,0,none⟩ (.int .i64 0)).setCell ⟨r,1,none⟩ (.slice none 0 0)).setCell ⟨r,2,none⟩ (.slice none 0 0)).alloc (.cells #[.int .i64 n,Zzc y] 64)):=by
 subst hR
 have hg3:=Ykk (x0 := .int .i64 0) (x1 := .slice none 0 0) (x2 := .slice none 0 0) hg hr
 have h2:=heap_alloc_new (((w9.setCell ⟨r,0,none⟩ (.int .i64 0)).setCell ⟨r,1,none⟩ (.slice none 0 0)).setCell ⟨r,2,none⟩ (.slice none 0 0)) (.cells #[.int .i64 n,Zzc y] 64)
 have hsz:(((w9.setCell ⟨r,0,none⟩ (.int .i64 0)).setCell ⟨r,1,none⟩ (.slice none 0 0)).setCell ⟨r,2,none⟩ (.slice none 0 0)).heap.size=w9.heap.size:=by simp
 rw [hsz] at h2
 exact ⟨⟨_,rfl,hg.size,h2⟩,Za hg3 (Ga _ _ none)⟩
theorem Ylg {t:Txt} {e:Int × Int} (hl:¬ 65536<t.length) (h:Zvw C0 1 (Zcr t) = .error e):Zbm t = .error e:=by
 unfold Zbm;rw [if_neg hl,h]
theorem Ygt {t:Txt} {c:CS} {n:Int} (hl:¬ 65536<t.length) (h:Zvw C0 1 (Zcr t) = .ok c) (hf:Zem c c.funcs c.blk = .error n):Zbm t = .error (142,n):=by
 unfold Zbm;rw [if_neg hl,h];simp only [hf]
theorem Ylh {t:Txt} {c:CS} {fs:List FnR} (hl:¬ 65536<t.length) (h:Zvw C0 1 (Zcr t) = .ok c) (hf:Zem c c.funcs c.blk = .ok fs) (he:Xg c.mem c.data.length fs≠0):Zbm t = .error (Xg c.mem c.data.length fs,0):=by
 unfold Zbm;rw [if_neg hl,h];simp only [hf,if_neg he]
theorem Yok {t:Txt} {c:CS} {fs:List FnR} (hl:¬ 65536<t.length) (h:Zvw C0 1 (Zcr t) = .ok c) (hf:Zem c c.funcs c.blk = .ok fs) (he:Xg c.mem c.data.length fs=0):Zbm t = .ok (c.mem,c.data,fs):=by
 unfold Zbm;rw [if_neg hl,h];simp only [hf,if_pos he]
theorem Yhh {c:CS} {n:Int} {l:Txt} {r:List Txt}:Zvw c n (l::r)=(match lnC n c l with|none => .error (141,n)|some (c',none)=>Zvw c' (n+1) r|some (_,some y) => .error (y,n)):=rfl
structure Ynd (w:World) (b:Nat) (v0 v1 v2:Value):Prop where
 c0:w.cell? ⟨b,0,none⟩=some v0
 c1:w.cell? ⟨b,1,none⟩=some v1
 c2:w.cell? ⟨b,2,none⟩=some v2
 z0:w.frozen? ⟨b,0,none⟩=false
 z1:w.frozen? ⟨b,1,none⟩=false
 z2:w.frozen? ⟨b,2,none⟩=false
 lt:b<w.heap.size
theorem Zcx {w:World} {b:Nat} {v0 v1 v2:Value} (h:Zgf w b v0 v1 v2):Ynd w b v0 v1 v2 :=
 ⟨Cq w _ 0 _ _ _ h,Cq w _ 1 _ _ _ h,Cq w _ 2 _ _ _ h,frozen_of_row w _ 0 _ _ h,frozen_of_row w _ 1 _ _ h,frozen_of_row w _ 2 _ _ h,(Gs h)⟩
theorem Zqn (t:Txt) (w:World) (hW:LibW w):Calls Tryz.prog 12 #[.string (bs t)] w (Zwx w (Zbm t)):=by
 have hz:=Zi t
 by_cases hl:65536<t.length
 · have HR:=Hq (show Zbm t = .error (2,0) by unfold Zbm;rw [if_pos hl])
   have hi:(t.length:Int)>65536:=by omega
   clear hl
   go_enter Tryz.func12,Tryz.ntmps12
   go_wp2
   have hb:=heap_alloc_new w (.cells #[.int .i64 0,.slice none 0 0,.slice none 0 0] 26)
   have h2:=heap_alloc_new (w.alloc (.cells #[.int .i64 0,.slice none 0 0,.slice none 0 0] 26)) (.cells #[.int .i64 0,Zzc 2] 64)
   rw [World.size_alloc] at h2
   refine bodyPost_ret (Zmz rfl rfl rfl (Zf hb (Ga _ _ none) (by simp))) rfl ?_
   rw [HR.out]
   exact ⟨⟨_,rfl,Nat.le_succ _,h2⟩,Za (Ga _ _ _) (Ga _ _ _)⟩
 · have hi:¬ (t.length:Int)>65536:=by omega
   have hmm := @run_makeMap Tryz.prog
   obtain ⟨L,hL⟩:∃ L,Zvw C0 1 (Zcr t)=L:=⟨_,rfl⟩
   have PE:=Hq (fun e (h:L = .error e)=>Ylg hl (hL.trans h))
   have PF:=Hq (fun c n (h:L = .ok c)=>Ygt (n:=n) hl (hL.trans h))
   have PC:=Hq (fun c fs (h:L = .ok c)=>Ylh (fs:=fs) hl (hL.trans h))
   have PO:=Hq (fun c fs (h:L = .ok c)=>Yok (fs:=fs) hl (hL.trans h))
   have HL:=Hq hL
   have hct:=Zry t
   have hcl:=Zrx (Zcr t)
   clear hL
   go_enter Tryz.func12,Tryz.ntmps12
   go_upto_region 4 with fail
   have PS2:=Ygf (w.alloc (.cells #[.int .i64 0,.slice none 0 0,.slice none 0 0] 26))
   have B1:=heap_alloc_new w (.cells #[.int .i64 0,.slice none 0 0,.slice none 0 0] 26)
   have g1:=Ga w (.cells #[.int .i64 0,.slice none 0 0,.slice none 0 0] 26) none
   have hs1:=World.size_alloc w (.cells #[.int .i64 0,.slice none 0 0,.slice none 0 0] 26)
   rw [hs1] at PS2
   generalize w.alloc (.cells #[.int .i64 0,.slice none 0 0,.slice none 0 0] 26)=w1 at *
   generalize (w1.alloc (.map #[] 0)).alloc (.cells #[.int .i64 0,.slice none 0 0,.slice none 0 0,.bool false,.map (some (w.heap.size+1)),.slice none 0 0,.slice none 0 0,.nilIface] 70)=w2 at *
   generalize w.heap.size+1+1=p at *
   obtain ⟨r0,hr0⟩:∃ r0,w.heap.size=r0:=⟨_,rfl⟩
   rw [hr0] at B1 hs1
   rw [hr0]
   have hr1:r0<w1.heap.size:=by omega
   have BX:=Hq (show Zgf w1 r0 _ _ _ from B1)
   have P2:=Hq PS2
   have LW:=Hq (Zs hW g1)
   have G1:=Hq g1
   have SP0:=Yap (bs t) (by rw [hz];omega) w2 (Zs LW.out (Zax PS2))
   rw [Xd] at SP0
   have SP:=Hq SP0
   clear PS2 SP0 B1 g1 hW
   obtain ⟨ls,hls⟩:∃ ls,Zcr t=ls:=⟨_,rfl⟩
   rw [hls] at SP HL hct hcl
   clear hls
   have hn70:(ls.length:Int)<=70000:=by omega
   go_wp2_with (go_at_call 27;refine SP.out.mono ?_;rintro e w3 ⟨b,rfl,hg,hlt⟩;have P3:=Hq (Zai P2.out hg);have L3:=Hq hlt;clear hg hlt)
   go_loopw [24] (fun i wr=>∃ (k:Nat) (c:CS) (m:Nat) (pend:Value),i = .int .i64 k/\k<=ls.length/\Zvw c ((k:Int)+1) (ls.drop k)=L/\Zcq c/\m+Zjn (ls.drop k)<=262146/\PS w1 wr p m c pend/\Zsl wr b ls) (fun i _=>ls.length - (intOf i).toNat)
   case atStart=>exact ⟨0,C0,0,_,rfl,Nat.zero_le _,HL.out,Zui,by simp only [List.drop_zero];omega,P3.out,L3.out⟩
   case round =>
    obtain ⟨k,c,m,pend,rfl,hk,hln,hbo,hcost,hps,hlt⟩:=hrel
    have LN:=Hq hln
    have BO:=Hq hbo
    have PR:=Hq hps
    have LT:=Hq hlt
    clear hln hbo hps hlt
    by_cases hkl:k<ls.length
    · obtain ⟨l,hkk⟩:∃ l,ls[k]? = some l:=⟨_,List.getElem?_eq_getElem hkl⟩
      obtain ⟨x0,hbl⟩:=Ztu LT.out hkk
      have hcd:=Znv ls k l hkk
      have hcle:=Zwl ls k
      have hdr:ls.drop k=l::ls.drop (k+1):=by rw [List.drop_eq_getElem_cons hkl];congr 1;exact (List.getElem?_eq_some_iff.1 hkk).2
      have HST:=Hq (show (match lnC ((k:Int)+1) c l with|none => .error (141,(k:Int)+1)|some (c',none)=>Zvw c' ((k:Int)+1+1) (ls.drop (k+1))|some (_,some y) => .error (y,(k:Int)+1))=L by rw [<- Yhh,<- hdr];exact LN.out)
      have LI:=Hq (Yhi w1 wr p m ((k:Int)+1) c pend l PR.out LW.out (by omega) (by omega))
      clear hkk hdr
      cases hlc:lnC ((k:Int)+1) c l with
      | none =>
        rw [hlc] at HST LI
        have HE:=Hq (PE.out _ HST.out.symm)
        clear hlc
        go_wp2_with (go_at_call 28;refine LI.out.mono ?_;rintro e w4 ⟨rfl,hf4,hg4⟩;have G4:=Hq hg4;have B4:=Hq (show Zgf w4 r0 _ _ _ from Zf BX.out hg4 (by simp));obtain ⟨k0,k1,k2,z0,z1,z2,hlt4⟩:=Zcx B4.out;clear hf4 hg4)
        refine bodyPost_ret (Zmz rfl rfl rfl (Zf (Zee B4.out) (Ga _ _ none) (by simp))) rfl ?_
        exact Ybr (Za G1.out G4.out) (by omega) B4.out HE.out
      | some r9 =>
        obtain ⟨c',x'⟩:=r9
        have BO2:=Hq (Yio BO.out (by omega) hlc)
        rw [hlc] at HST LI
        clear hlc
        cases x' with
        | some y =>
          have HE:=Hq (PE.out _ HST.out.symm)
          go_wp2_with (go_at_call 28;refine LI.out.mono ?_;rintro e w4 ⟨rfl,hf4,hg4⟩;have G4:=Hq hg4;have B4:=Hq (show Zgf w4 r0 _ _ _ from Zf BX.out hg4 (by simp));obtain ⟨k0,k1,k2,z0,z1,z2,hlt4⟩:=Zcx B4.out;clear hf4 hg4)
          refine bodyPost_ret (Zmz rfl rfl rfl (Zf (Zee B4.out) (Ga _ _ none) (by simp))) rfl ?_
          exact Ybr (Za G1.out G4.out) (by omega) B4.out HE.out
        | none =>
          go_wp2_with (go_at_call 28;refine LI.out.mono ?_;rintro e w4 ⟨⟨rfl,hps4⟩,hf4,hg4⟩;have P4:=Hq hps4;have L4:=Hq (Ztt LT.out hf4);clear hf4 hg4 hps4)
          exact ⟨⟨k+1,c',_,_,by go_num,by omega,HST.out,BO2.out,by omega,P4.out,L4.out⟩,by simp [intOf];omega⟩
    · have hkn:k=ls.length:=by omega
      subst hkn
      have HOK:=Hq (show L = .ok c by have:=LN.out;rw [List.drop_length] at this;exact this.symm)
      have FI:=Hq (Yia w1 wr p m c pend PR.out BO.out (by omega))
      clear hkl
      cases hfc:Zem c c.funcs c.blk with
      | error n =>
        have HE:=Hq (PF.out c n HOK.out hfc)
        rw [hfc] at FI
        clear hfc
        go_wp2_with (go_at_call 29;refine FI.out.mono ?_;rintro e w4 ⟨⟨a,rfl,ha1,ha2⟩,hg4⟩;have G4:=Hq hg4;have A4:=Hq (And.intro ha1 ha2);have B4:=Hq (show Zgf w4 r0 _ _ _ from Zf BX.out hg4 (by simp));obtain ⟨k0,k1,k2,z0,z1,z2,hlt4⟩:=Zcx B4.out;clear hg4 ha1 ha2)
        refine bodyPost_ret (Zmz rfl rfl rfl (Zee B4.out)) rfl ?_
        rw [HE.out]
        refine ⟨⟨a,rfl,by have:=A4.out.1;omega,Zf A4.out.2 Zmr (fun e=>by injection e with e;have:=A4.out.1;omega)⟩,Ykk (Za G1.out G4.out) (by omega)⟩
      | ok fs =>
        have HF:=Hq hfc
        rw [hfc] at FI
        clear hfc
        by_cases he:Xg c.mem c.data.length fs=0
        · have HE:=Hq (PO.out c fs HOK.out HF.out he)
          have HZ:=Hq he
          clear he
          go_wp2_with (first
           | (go_at_call 29;refine FI.out.mono ?_;rintro e w4 ⟨⟨rfl,pend',vd,vF,vL,vB,bm,cv,lb,hA⟩,hg4⟩;obtain ⟨pD,cD,hvD⟩:=Zk hA.ins.own.dt;obtain ⟨pF,cF,hvF⟩:=Zk hA.ins.own.fr;rw [Jk] at hvD;simp only [] at hvD hvF;subst hvD;subst hvF;have A4:=Hq hA;have CK0:=Zic c.mem c.data.length fs pD pF cD cF w4.heap.size w4 (Nat.le_refl _) (Zfa hA.ins.own) (by have:=hA.ins.z1;simp only [] at this;omega);rw [HZ.out] at CK0;have CK:=Hq CK0;have y0:=Cq w4 p 0 _ _ _ hA.box;have y1:=Cq w4 p 1 _ _ _ hA.box;have y2:=Cq w4 p 2 _ _ _ hA.box;have hltp:p<w4.heap.size:=(Gs hA.box);clear hg4 hA CK0)
           | (go_at_call 30;refine CK.out.mono ?_;rintro e w5 ⟨rfl,hg5⟩;have G5:=Hq hg5;have B5:=Hq (show Zgf w5 r0 _ _ _ from Zf (Zf BX.out A4.out.gr (by simp)) hg5 (by simp));have u0:=hg5.cell y0 (by simp);have u1:=hg5.cell y1 (by simp);have u2:=hg5.cell y2 (by simp);have hltp5:=Nat.lt_of_lt_of_le hltp hg5.size;obtain ⟨k0,k1,k2,z0,z1,z2,hlt5⟩:=Zcx B5.out;clear hg5))
          have hq:Zgf _ r0 (.int .i64 c.mem) (.slice pD c.data.length cD) (.slice pF fs.length cF):=Zee B5.out
          refine bodyPost_ret (Zmz rfl rfl rfl hq) rfl ?_
          rw [HE.out]
          refine ⟨⟨_,_,cv,rfl,?_⟩,Ykk (Za G1.out (Za A4.out.gr G5.out)) (by omega)⟩
          have O5:=Ybv A4.out.ins.own G5.out
          have O6:=Zbg O5 (Zmr (b:=r0) (x0 := .int .i64 c.mem) (x1 := .slice pD c.data.length cD) (x2 := .slice pF fs.length cF)) (fun t sz v n xs ho ht=>Znd ho hr1)
          exact Zxy O6 G1.out.size
        · have HE:=Hq (PC.out c fs HOK.out HF.out he)
          have HZ:=Hq (rfl:Xg c.mem c.data.length fs=Xg c.mem c.data.length fs)
          obtain ⟨ev,hev⟩:∃ ev,Xg c.mem c.data.length fs=ev:=⟨_,rfl⟩
          have hne:(ev != 0)=true:=by rw [<- hev,bne_iff_ne];exact he
          rw [hev] at HE
          have HZ:=Hq hev
          clear he hev
          go_wp2_with (first
           | (go_at_call 29;refine FI.out.mono ?_;rintro e w4 ⟨⟨rfl,pend',vd,vF,vL,vB,bm,cv,lb,hA⟩,hg4⟩;obtain ⟨pD,cD,hvD⟩:=Zk hA.ins.own.dt;obtain ⟨pF,cF,hvF⟩:=Zk hA.ins.own.fr;rw [Jk] at hvD;simp only [] at hvD hvF;subst hvD;subst hvF;have A4:=Hq hA;have CK0:=Zic c.mem c.data.length fs pD pF cD cF w4.heap.size w4 (Nat.le_refl _) (Zfa hA.ins.own) (by have:=hA.ins.z1;simp only [] at this;omega);rw [HZ.out] at CK0;have CK:=Hq CK0;have y0:=Cq w4 p 0 _ _ _ hA.box;have y1:=Cq w4 p 1 _ _ _ hA.box;have y2:=Cq w4 p 2 _ _ _ hA.box;have hltp:p<w4.heap.size:=(Gs hA.box);clear hg4 hA CK0)
           | (go_at_call 30;refine CK.out.mono ?_;rintro e w5 ⟨rfl,hg5⟩;have G5:=Hq hg5;have B5:=Hq (show Zgf w5 r0 _ _ _ from Zf (Zf BX.out A4.out.gr (by simp)) hg5 (by simp));have u0:=hg5.cell y0 (by simp);have u1:=hg5.cell y1 (by simp);have u2:=hg5.cell y2 (by simp);have hltp5:=Nat.lt_of_lt_of_le hltp hg5.size;obtain ⟨k0,k1,k2,z0,z1,z2,hlt5⟩:=Zcx B5.out;clear hg5))
          refine bodyPost_ret (Zmz rfl rfl rfl (Zf (Zee B5.out) (Ga _ _ none) (by simp))) rfl ?_
          exact Ybr (Za G1.out (Za A4.out.gr G5.out)) (by omega) B5.out HE.out
theorem Zag {fn:Func} {p:Tmp} {ty:TypeId} (h:fn.results = #[.cell p ty]) (tmps:Array Value) (P:Program) (w:World) :
 (results fn tmps).run P w=((asAddr (tmps.getD p undef)).run P w).andThen fun a w₁=>(loadVar ty a).run P w₁:=by
 simp only [results,h]
 simp [Sem.run_bind,Result.andThen]
theorem Yln {fn:Func} {p:Tmp} (hf:fn.results = #[.cell p 26]) {tmps:Array Value} {w:World} {b:Nat} {v0 v1 v2:Value}
 (hp:tmps.getD p undef = .pointer (some ⟨b,0,none⟩)) (h:Zgf w b v0 v1 v2):(results fn tmps).run Tryz.prog w = .ok (.agg #[v0,v1,v2]) w:=by
 rw [Zag hf,hp]
 have:(asAddr (.pointer (some ⟨b,0,none⟩))).run Tryz.prog w = .ok (⟨b,0,none⟩:Addr) w:=rfl
 rw [this]
 simp only [Result.andThen]
 rw [Ybq h]
theorem Zik {w:World} {b:Nat} {cs:Array Value} {t:TypeId} (h:w.heap[b]? = some (.cells cs t (0,0))) {i:Nat} {v:Value} (hv:cs[i]? = some v):w.cell? ⟨b,i,none⟩=some v:=by
 simp [World.cell?,h,hv]
def oneP:PrP:=(0,[],[(0,0,1,[(18,0)])])
theorem Zvo (w:World):Calls Tryz.prog 22 #[] w fun e w'=>(∃ F k,e = .returned (.agg #[.int .i64 0,.slice none 0 0,.slice (some ⟨F,0,none⟩) 1 k])/\Zam w' w'.heap.size (some ⟨F,0,none⟩) oneP.2.2)/\w.grownBy w' none:=by
 go_enter Tryz.func22,Tryz.ntmps22
 go_wp2
 have h1:=heap_alloc_new w (.cells #[.int .i64 0,.slice none 0 0,.slice (some ⟨w.heap.size+1+1,0,none⟩) 1 1] 26)
 have g1:=Ga w (.cells #[.int .i64 0,.slice none 0 0,.slice (some ⟨w.heap.size+1+1,0,none⟩) 1 1] 26) none
 obtain ⟨wa,hwa⟩:∃ x,w.alloc (.cells #[.int .i64 0,.slice none 0 0,.slice (some ⟨w.heap.size+1+1,0,none⟩) 1 1] 26)=x:=⟨_,rfl⟩
 have sa:wa.heap.size=w.heap.size+1:=by rw [<- hwa];simp
 rw [hwa] at h1 g1 ⊢
 have h2:=heap_alloc_new wa (.cells #[.int .i64 18,.int .i64 0] 58)
 have g2:=Ga wa (.cells #[.int .i64 18,.int .i64 0] 58) none
 obtain ⟨wb,hwb⟩:∃ x,wa.alloc (.cells #[.int .i64 18,.int .i64 0] 58)=x:=⟨_,rfl⟩
 have sb:wb.heap.size=w.heap.size+2:=by rw [<- hwb];simp;omega
 rw [hwb] at h2 g2 ⊢
 have h3:=heap_alloc_new wb (.cells #[.int .i64 0,.int .i64 0,.int .i64 1,.slice (some ⟨w.heap.size+1,0,none⟩) 1 1] 61)
 have g3:=Ga wb (.cells #[.int .i64 0,.int .i64 0,.int .i64 1,.slice (some ⟨w.heap.size+1,0,none⟩) 1 1] 61) none
 have sc:(wb.alloc (.cells #[.int .i64 0,.int .i64 0,.int .i64 1,.slice (some ⟨w.heap.size+1,0,none⟩) 1 1] 61)).heap.size=w.heap.size+3:=by rw [World.size_alloc,sb]
 have h1':=Zf h1 (Za g2 g3) (by simp)
 have h2':=Zf h2 g3 (by simp)
 rw [sa] at h2'
 rw [sb] at h3
 refine bodyPost_ret (v := .agg #[.int .i64 0,.slice none 0 0,.slice (some ⟨w.heap.size+1+1,0,none⟩) 1 1]) (Yln rfl rfl h1') rfl ⟨⟨w.heap.size+1+1,1,rfl,fun _=>⟨w.heap.size+1+1,0,rfl,by rw [sc];omega,fun i a l r c hi => ?_⟩⟩,Za g1 (Za g2 g3)⟩
 match i,hi with
 | 0,hi =>
   simp [oneP] at hi
   obtain ⟨rfl,rfl,rfl,rfl⟩:=hi
   refine ⟨Zik h3 rfl,Zik h3 rfl,Zik h3 rfl,some ⟨w.heap.size+1,0,none⟩,1,Zik h3 rfl,fun _=>⟨w.heap.size+1,0,rfl,by rw [sc];omega,fun j op x hj => ?_⟩⟩
   match j,hj with
   | 0,hj =>
     simp at hj
     obtain ⟨rfl,rfl⟩:=hj
     exact ⟨Zik h2' rfl,Zik h2' rfl⟩
   | j+1,hj=>simp at hj
 | i+1,hi=>simp [oneP] at hi
theorem Yob (n:Nat) (nm:ByteArray) (o t g:Int) (hr:callT[n]? = some (nm,o,t,g)) (w:World) :
 Calls Tryz.prog 100 #[.int .i64 n] w fun e w'=>e = .returned (.tuple #[.agg #[.string nm,.int .i64 o,.int .i64 t,.int .i64 g],.bool true])/\w.grownBy w' none:=by
 have hn:n<5:=(List.getElem?_eq_some_iff.1 hr).1
 have C:=Hq Zsd
 obtain ⟨h1,h2,h3,h4⟩:=Zhh callT n nm o t g hr
 have R:=Hq (fun (S:Nat) (w:World) (hS:S<w.heap.size) (hc:∀ (i:Nat) (v:Value),(Zio callT)[i]? = some v->w.cell? ⟨S,i,none⟩=some v)=>Yjb 5 n hn (by decide) S nm o t g w hS (hc _ _ h1) (hc _ _ h2) (hc _ _ h3) (hc _ _ h4))
 clear hr h1 h2 h3 h4
 go_enter Tryz.func100,Tryz.ntmps100
 go_wp2_with (first
  | (go_at_call 133;refine (C.out _).mono ?_;rintro e w1 ⟨S,rfl,hg,hS,hsh⟩;have G1:=Hq hg;have HS:=Hq hS;have SH:=Hq hsh;clear hg hsh hS)
  | (go_at_call 86;refine (R.out _ _ HS.out SH.out).mono ?_;rintro e w2 ⟨rfl,hg2⟩;have G2:=Hq hg2;have hb:=Zf (Zf (heap_alloc_new w (.cells #[.string ⟨#[]⟩,.int .i64 0,.int .i64 0,.int .i64 0] 144)) G1.out (by simp)) hg2 (by simp);have c0:=Cq w2 _ 0 _ _ _ hb;have c1:=Cq w2 _ 1 _ _ _ hb;have c2:=Cq w2 _ 2 _ _ _ hb;have c3:=Cq w2 _ 3 _ _ _ hb;have z0:=frozen_of_row w2 _ 0 _ _ hb;have z1:=frozen_of_row w2 _ 1 _ _ hb;have z2:=frozen_of_row w2 _ 2 _ _ hb;have z3:=frozen_of_row w2 _ 3 _ _ hb;have HB:=Hq hb;clear hg2 hb))
 (try simp only [Exit.inBlock,Exit.then])
 have hq:((((w2.setCell ⟨w.heap.size,0,none⟩ (.string nm)).setCell ⟨w.heap.size,1,none⟩ (.int .i64 o)).setCell ⟨w.heap.size,2,none⟩ (.int .i64 t)).setCell ⟨w.heap.size,3,none⟩ (.int .i64 g)).heap[w.heap.size]? = some (.cells #[.string nm,.int .i64 o,.int .i64 t,.int .i64 g] 144 (0,0)):=by
  rw [Zl (Zl (Zl (Zl HB.out)))];rfl
 refine bodyPost_ret (v := .tuple #[.agg #[.string nm,.int .i64 o,.int .i64 t,.int .i64 g],.bool true]) ?_ rfl ⟨rfl,Yd (Yd (Yd (Yd (Za (Za (Ga _ _ _) G1.out) G2.out) (Nat.le_refl _)) (Nat.le_refl _)) (Nat.le_refl _)) (Nat.le_refl _)⟩
 clear c0 c1 c2 c3 z0 z1 z2 z3
 have d0:=Cq _ _ 0 _ _ _ hq
 have d1:=Cq _ _ 1 _ _ _ hq
 have d2:=Cq _ _ 2 _ _ _ hq
 have d3:=Cq _ _ 3 _ _ _ hq
 clear hq
 generalize (((w2.setCell ⟨w.heap.size,0,none⟩ (.string nm)).setCell ⟨w.heap.size,1,none⟩ (.int .i64 o)).setCell ⟨w.heap.size,2,none⟩ (.int .i64 t)).setCell ⟨w.heap.size,3,none⟩ (.int .i64 g)=w9 at *
 rw [results_cell_tmp rfl]
 go_simp
theorem Zau (a b:Txt):bs a++bs b=bs (a++b):=by
 unfold bs
 apply ByteArray.ext
 simp
theorem Zzi:∀ s∈callT,s.1.size<=10:=by decide
theorem Yqq {a:Int} (h0:0<=a) (h1:a<5):∃ (n:Nat) (nm:ByteArray) (o t g:Int),a=n/\callT[n]? = some (nm,o,t,g):=by
 obtain ⟨n,rfl⟩:=Int.eq_ofNat_of_zero_le h0
 have hn:n<callT.length:=by show n<5;omega
 exact ⟨n,_,_,_,_,rfl,List.getElem?_eq_getElem hn⟩
theorem Zku (mem a0 l0 r0 kind a:Int) (pd pF pc:Option Addr) (nd cd nF cF nC cc:Nat) (w:World) (hW:LibW w) (h0 : -9223372036854775808<=a) (h1:a<=9223372036854775807) (hs:kind=5->0<=a/\a<5) :
 Calls Tryz.prog 67 #[.agg #[.int .i64 mem,.slice pd nd cd,.slice pF nF cF],.agg #[.int .i64 a0,.int .i64 l0,.int .i64 r0,.slice pc nC cc],.int .i64 kind,.int .i64 a] w fun e w'=>e = .returned (.string (bs (Zcz nF nC kind a)))/\w.grownBy w' none:=by
 have g1:=Ga w (.cells #[.int .i64 mem,.slice pd nd cd,.slice pF nF cF] 26) none
 have g2:=Ga (w.alloc (.cells #[.int .i64 mem,.slice pd nd cd,.slice pF nF cF] 26)) (.cells #[.int .i64 a0,.int .i64 l0,.int .i64 r0,.slice pc nC cc] 61) none
 have G:=Hq (Za g1 g2)
 have IT:=Hq (Zaj a h0 h1 _ (Zs hW (Za g1 g2)))
 clear g1 g2
 have hz:=Lib.itoa_length_le a h0 h1
 have hc1:¬ 9223372036854775807<1+(bs (Lib.itoa a)).size:=by rw [Zi];omega
 have hc2:¬ 9223372036854775807<2+(bs (Lib.itoa a)).size:=by rw [Zi];omega
 by_cases k0:kind=0
 · subst k0
   rw [Ybw]
   go_enter Tryz.func67,Tryz.ntmps67
   go_wp2
   go_ret
   exact ⟨rfl,G.out⟩
 · have b0:(kind == 0)=false:=beq_eq_false_iff_ne.2 k0
   by_cases k5:kind=5
   · subst k5
     obtain ⟨n,nm,o,t,g,rfl,hr⟩:=Yqq (hs rfl).1 (hs rfl).2
     have HC:=Hq (show bs (Zcz nF nC 5 n)=⟨#[32]⟩++nm by rw [Ygw hr,<- Zau];rfl)
     have SY:=Hq (fun w=>Yob n nm o t g hr w)
     have hnz:¬ 9223372036854775807<1+nm.size:=by
      have:nm.size<=10:=Zzi _ (List.mem_of_getElem? hr)
      omega
     go_enter Tryz.func67,Tryz.ntmps67
     go_wp2_with (go_at_call 100;refine (SY.out _).mono ?_;rintro e w1 ⟨rfl,hg⟩;have G1:=Hq hg;clear hg)
     go_ret
     rw [HC.out]
     exact ⟨rfl,Za G.out (Za G1.out (Ga _ _ _))⟩
   · have b5:(kind == 5)=false:=beq_eq_false_iff_ne.2 k5
     by_cases k3:kind=3
     · subst k3
       by_cases hl:a<=nC
       · have HC:=Hq (show bs (Zcz nF nC 3 a)=⟨#[32,76]⟩++bs (Lib.itoa a) by rw [Ybx hl,<- Zau];rfl)
         go_enter Tryz.func67,Tryz.ntmps67
         go_wp2_with (go_at_call 39;refine IT.out.mono ?_;rintro e w1 ⟨rfl,hg⟩;have G1:=Hq hg;clear hg)
         go_ret
         rw [HC.out]
         exact ⟨rfl,Za G.out G1.out⟩
       · have HC:=Hq (show bs (Zcz nF nC 3 a)=⟨#[32]⟩++bs (Lib.itoa a) by rw [Zoq k0 (fun _=>hl) (fun h=>absurd h (by decide)) k5,<- Zau];rfl)
         go_enter Tryz.func67,Tryz.ntmps67
         go_wp2_with (go_at_call 39;refine IT.out.mono ?_;rintro e w1 ⟨rfl,hg⟩;have G1:=Hq hg;clear hg)
         go_ret
         rw [HC.out]
         exact ⟨rfl,Za G.out G1.out⟩
     · have b3:(kind == 3)=false:=beq_eq_false_iff_ne.2 k3
       by_cases k4:kind=4
       · subst k4
         by_cases hl:a<nF
         · have HC:=Hq (show bs (Zcz nF nC 4 a)=⟨#[32,102]⟩++bs (Lib.itoa a) by rw [Yll hl,<- Zau];rfl)
           go_enter Tryz.func67,Tryz.ntmps67
           go_wp2_with (go_at_call 39;refine IT.out.mono ?_;rintro e w1 ⟨rfl,hg⟩;have G1:=Hq hg;clear hg)
           go_ret
           rw [HC.out]
           exact ⟨rfl,Za G.out G1.out⟩
         · have HC:=Hq (show bs (Zcz nF nC 4 a)=⟨#[32]⟩++bs (Lib.itoa a) by rw [Zoq k0 (fun h=>absurd h (by decide)) (fun _=>hl) k5,<- Zau];rfl)
           go_enter Tryz.func67,Tryz.ntmps67
           go_wp2_with (go_at_call 39;refine IT.out.mono ?_;rintro e w1 ⟨rfl,hg⟩;have G1:=Hq hg;clear hg)
           go_ret
           rw [HC.out]
           exact ⟨rfl,Za G.out G1.out⟩
       · have b4:(kind == 4)=false:=beq_eq_false_iff_ne.2 k4
         have HC:=Hq (show bs (Zcz nF nC kind a)=⟨#[32]⟩++bs (Lib.itoa a) by rw [Zoq k0 (fun h=>absurd h k3) (fun h=>absurd h k4) k5,<- Zau];rfl)
         go_enter Tryz.func67,Tryz.ntmps67
         go_wp2_with (go_at_call 39;refine IT.out.mono ?_;rintro e w1 ⟨rfl,hg⟩;have G1:=Hq hg;clear hg)
         go_ret
         rw [HC.out]
         exact ⟨rfl,Za G.out G1.out⟩
theorem Zwt:(Tryz.prog.info? 99).map (·.size)=some 2:=by kernel_rfl
theorem Yir:liesAt Tryz.prog Tryz.prog.depth 99 (2 / Tryz.prog.cellsOf 99) 0 99 1=true:=by kernel_rfl
theorem Zoo:Tryz.prog.underlying 97=some (.pointer 99):=by kernel_rfl
theorem Yam:Tryz.prog.underlying 187=some .unsafePointer:=by kernel_rfl
structure BFr (B b:Nat) (w w':World):Prop where
 below:Below B w w'
 keep:∀ (k:Nat) (cs:Array Value) (t:TypeId) (fz:Nat × Nat),w.heap[k]? = some (Obj.cells cs t fz)->t≠5->k≠b->w'.heap[k]? = w.heap[k]?
theorem Zfh (B b:Nat) (w:World):BFr B b w w:=⟨Below.refl B w,fun _ _ _ _ _ _ _=>rfl⟩
theorem Zet {B:Nat} {u v w:World} (h:Below B u v) (g:Below B v w):Below B u w :=
 ⟨g.os.trans h.os,g.tape.trans h.tape,g.output.trans h.output,Nat.le_trans h.size g.size,fun k hk=>(g.block k hk).trans (h.block k hk)⟩
theorem Zt {B b:Nat} {u v w:World} (h:BFr B b u v) (g:BFr B b v w):BFr B b u w :=
 ⟨Zet h.below g.below,fun k cs t fz hk ht hb=>(g.keep k cs t fz ((h.keep k cs t fz hk ht hb).trans hk) ht hb).trans (h.keep k cs t fz hk ht hb)⟩
theorem Ym {B b:Nat} {w w':World} (g:w.grownBy w' none) (hB:B<=w.heap.size):BFr B b w w' :=
 ⟨⟨g.os,g.tape,g.output,g.size,fun k hk=>g.block k (by omega) (by simp)⟩,fun k cs t fz hk _ _=>g.block k (Gs hk) (by simp)⟩
theorem Zap {B b k:Nat} {w w':World} {cs:Array Value} {t:TypeId} {fz:Nat × Nat} (h:BFr B b w w') (hk:w.heap[k]? = some (Obj.cells cs t fz)) (ht:t≠5) (hb:k≠b):w'.heap[k]? = some (Obj.cells cs t fz):=(h.keep k cs t fz hk ht hb).trans hk
theorem Yq {B b k o:Nat} {w w':World} {v:Value} (h:BFr B b w w') (hk:k<B) (hc:w.cell? ⟨k,o,none⟩=some v):w'.cell? ⟨k,o,none⟩=some v:=(World.cell?_of_block (h.below.block k hk)).trans hc
theorem Zwu {B b D:Nat} {w w':World} {p:Option Addr} {l:List (Int × Int)} (h:BFr B b w w') (hD:D<=B) (hc:Zhp w D p l):Zhp w' D p l:=fun h0=>by
 obtain ⟨k,o,e,hk,hl⟩:=hc h0
 exact ⟨k,o,e,hk,fun i op a hi=>⟨Yq h (by omega) (hl i op a hi).1,Yq h (by omega) (hl i op a hi).2⟩⟩
theorem Zal {B b:Nat} {w w':World} (h:BFr B b w w') (hB:8<=B) (hW:LibW w):LibW w':=by
 have hb:=hW.big
 refine ⟨Nat.le_trans hb h.below.size,?_,?_,?_⟩
 · obtain ⟨m,hm⟩:=hW.max
   exact ⟨m,Yq h (by omega) hm⟩
 · have hp:=hW.pow
   unfold Lib.TabIs World.var? at hp ⊢
   rw [Zwe] at hp ⊢
   simp only [Option.bind] at hp ⊢
   rw [h.below.block _ (by omega)]
   exact hp
 · obtain ⟨te,pe,hm⟩:=hW.rng
   exact ⟨te,pe,Yq h (by omega) hm⟩
theorem Yen {B b o:Nat} {w:World} {v:Value} (hB:B<=b):BFr B b w (w.setCell ⟨b,o,none⟩ v) :=
 ⟨(Below.refl B w).setCell (p:=⟨b,o,none⟩) hB _,fun k cs t fz _ _ hb=>Below.heap_setCell _ _ _ _ hb⟩
abbrev Bld (B b:Nat) (l:Txt) (w:World):Prop:=Lib.IsBuilderF 99 5 B b (Lib.byteCells l) w
theorem Yiq (b:Nat) (w:World) (h0:w.cell? ⟨b,0,none⟩=some (.pointer (some ⟨b,0,none⟩))) :
 Calls Tryz.prog 64 #[.pointer (some ⟨b,0,none⟩)] w fun e w'=>e = .returned (.tuple #[])/\w'=w:=by
 obtain ⟨j,hj,_⟩:=Option.map_eq_some_iff.1 Zwt
 go_enter Tryz.func64,Tryz.ntmps64
 go_wp2
 rw [Lib.run_neq_ptr_same w _ Zoo hj]
 go_wp2
 go_end0
 exact ⟨rfl,rfl⟩
theorem Yei (b:Nat) (w:World) (h0:w.cell? ⟨b,0,none⟩=some (.pointer none)) (hsh:w.shape? b=some (99,2)) (hfz:w.frozen? ⟨b,0,none⟩=false) :
 Calls Tryz.prog 64 #[.pointer (some ⟨b,0,none⟩)] w fun e w'=>e = .returned (.tuple #[])/\w'=w.setCell ⟨b,0,none⟩ (.pointer (some ⟨b,0,none⟩)):=by
 obtain ⟨j,hj,hjs⟩:=Option.map_eq_some_iff.1 Zwt
 go_enter Tryz.func64,Tryz.ntmps64
 go_wp2
 rw [Lib.run_to_unsafe w ⟨b,0,none⟩ Zoo Yam hj (by rw [hjs];decide) hsh (Nat.zero_lt_succ 1)]
 simp only [Result.andThen]
 rw [Oper.upon_value]
 go_wp2
 rw [run_callFunc_extern Tryz.func98 (by kernel_rfl) (by kernel_rfl) (by kernel_rfl) (e:=Extern.AbiNoEscape.same) (by kernel_rfl)]
 rw [Lib.run_noEscape]
 simp only [Result.andThen]
 rw [Oper.upon_value]
 go_wp2
 rw [Lib.run_from_unsafe w ⟨b,0,none⟩ Yam Zoo hj hsh Yir]
 simp only [Result.andThen]
 rw [Oper.upon_value]
 go_wp2
 go_end0
 exact ⟨rfl,rfl⟩
theorem Yej (B b:Nat) (bs:List Value) (w:World) (h:Lib.IsBuilderF 99 5 B b bs w) :
 Calls Tryz.prog 64 #[.pointer (some ⟨b,0,none⟩)] w fun e w'=>e = .returned (.tuple #[])/\(Lib.BuilderAtF 99 5 B b (.pointer (some ⟨b,0,none⟩)) bs w'/\BFr B b w w'):=by
 rcases h with h|h
 · refine (Yei b w h.cell0 h.shape h.frozen0).mono ?_
   rintro e w' ⟨rfl,rfl⟩
   exact ⟨rfl,h.used _,Yen h.1⟩
 · refine (Yiq b w h.cell0).mono ?_
   rintro e w' ⟨rfl,rfl⟩
   exact ⟨rfl,h,Zfh B b _⟩
theorem Zst (l:Txt):Lib.strCells (bs l)=Lib.byteCells l:=by
 unfold Lib.strCells Lib.byteCells
 rw [Xd]
theorem Zer (B b:Nat) (l s:Txt) (w:World) (h:Bld B b l w) (hlen:l.length+s.length<=140737488355328) (hBw:B<=w.heap.size) :
 Calls Tryz.prog 38 #[.pointer (some ⟨b,0,none⟩),.string (bs s)] w fun e w'=>e = .returned (.tuple #[.int .i64 s.length,.nilIface])/\(Bld B b (l++s) w'/\BFr B b w w'):=by
 obtain ⟨i0,hi,hz0,hz1,hz2⟩:=info_parts Jn
 have hss:=Zi s
 have HS:=Hq hss
 have hbl:=Lib.byteCells_length l
 go_enter Tryz.func38,Tryz.ntmps38
 go_wp2_with (go_at_call 64;refine (Yej B b _ _ h).mono ?_)
 rintro e w1 ⟨rfl,h1,hb1⟩
 obtain ⟨hB,v,hbk,hown,hne⟩:=h1
 have c0:w1.cell? ⟨b,0,none⟩=some (.pointer (some ⟨b,0,none⟩)):=by rw [Lib.cell_of_heap hbk];rfl
 have c1:w1.cell? ⟨b,1,none⟩=some v:=by rw [Lib.cell_of_heap hbk];rfl
 go_wp2_with (at_builtin;refine Lib.wpList_append_own_stringF _ rfl _ _ 23 9 rfl B 5 i0 Xk Jf hi hz0 hz1 hz2 _ _ _ rfl hown (bs s) rfl ?c3 ?c4 ?c5 ?_)
 case c3=>rw [HS.out,hbl];unfold maxLen;omega
 case c4=>rw [HS.out,hbl];omega
 case c5=>have:=hb1.below.size;omega
 intro v' w2 hown' hgrow _
 have hlt:b<w1.heap.size:=by
  rcases Nat.lt_or_ge b w1.heap.size with h'|h'
  · exact h'
  · simp [Array.getElem?_eq_none h'] at hbk
 have hb2:w2.heap[b]? = some (.cells #[.pointer (some ⟨b,0,none⟩),v] 99 (0,0)):=by
  rw [hgrow.block b hlt (fun e=>hne e.symm)]
  exact hbk
 have d0:w2.cell? ⟨b,0,none⟩=some (.pointer (some ⟨b,0,none⟩)):=by rw [Lib.cell_of_heap hb2];rfl
 have d1:w2.cell? ⟨b,1,none⟩=some v:=by rw [Lib.cell_of_heap hb2];rfl
 have f1:w2.frozen? ⟨b,1,none⟩=false:=Lib.frozen_of_heap hb2 1
 obtain ⟨ao,n',cap,rfl⟩:∃ ao n' cap,v' = .slice ao n' cap:=by
  rcases hown'.2 with ⟨hv,_⟩|⟨g,cap,cur,fz,hv,_⟩
  · exact ⟨_,_,_,hv⟩
  · exact ⟨_,_,_,hv⟩
 go_wp2
 go_ret2
 refine ⟨rfl,.inr ?_,?_⟩
 · have he:Lib.byteCells (l++s)=Lib.byteCells l++Lib.strCells (bs s):=by rw [Zst];simp [Lib.byteCells]
   rw [he]
   exact Lib.BuilderAtF.put (T:=99) (e:=5) hB hb2 (bs':=Lib.byteCells l++Lib.strCells (bs s)) (by rw [List.length_append,Lib.strCells_length,hbl,Zi];exact hown') (by decide)
 · refine Zt hb1 (Zt (v:=w2) ⟨?_,?_⟩ (Yen hB))
   · exact (Below.refl B w1).grown hgrow (by have:=hb1.below.size;omega) (fun k hk=>(hown.lt k hk).1)
   · intro k cs t fz hk ht _
     exact hgrow.block k (Gs hk) (fun e=>Lib.ownBlock_neF hown hk ht e.symm)
theorem Zar {B b:Nat} {l:Txt} {w w':World} (h:Bld B b l w) (g:w.grownBy w' none):Bld B b l w':=by
 have K:∀ p,Lib.BuilderAtF 99 5 B b p (Lib.byteCells l) w->Lib.BuilderAtF 99 5 B b p (Lib.byteCells l) w':=fun p h=>by
  have hlt:=h.lt
  obtain ⟨hB,v,hb,hown,hne⟩:=h
  exact ⟨hB,v,(g.block b hlt (by simp)).trans hb,hown.kept g (by cases hv:v.ownBlock <;> simp),hne⟩
 exact h.elim (fun h => .inl (K _ h)) (fun h => .inr (K _ h))
theorem Ymu (w:World):Bld w.heap.size w.heap.size [] (w.alloc (.cells #[.pointer none,.slice none 0 0] 99)) :=
 .inl ⟨Nat.le_refl _,_,heap_alloc_new w _,World.ownsRowF_nil _ _ _ _,by simp [Value.ownBlock]⟩
theorem Zsg {B b:Nat} {l:Txt} {w:World} (h:Bld B b l w):B<=b/\b<w.heap.size:=h.elim (fun h=>⟨h.1,h.lt⟩) (fun h=>⟨h.1,h.lt⟩)
theorem Zes (B b:Nat) (l:Txt) (w:World) (h:Bld B b l w):Calls Tryz.prog 42 #[.pointer (some ⟨b,0,none⟩)] w fun e w'=>e = .returned (.int .i64 l.length)/\w'=w:=by
 have:=Tryz.Builder_Len_f B b (Lib.byteCells l) w h
 rw [Lib.byteCells_length] at this
 exact this
theorem Zny (B b:Nat) (l:Txt) (w:World) (h:Bld B b l w) (hBw:B<=w.heap.size):Calls Tryz.prog 43 #[.pointer (some ⟨b,0,none⟩)] w fun e w'=>e = .returned (.string (bs l))/\Below B w w' :=
 (Tryz.Builder_String_any_f B b l w h hBw).mono fun e w' he=>⟨he.1,he.2.2⟩
end Go.Proofs.YteciblfmgdlipaaGreatDoor.AS
