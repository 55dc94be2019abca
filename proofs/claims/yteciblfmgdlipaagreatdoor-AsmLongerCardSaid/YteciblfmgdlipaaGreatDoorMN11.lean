/-
  Part of a proof: contracts of functions and lemmas, each stated by its own theorem. Conditions: as each theorem states.
-/
import Derived.Test.YteciblfmgdlipaaGreatDoorMN10
import Derived.Test.YteciblfmgdlipaaGreatDoorMN00
set_option linter.unusedSimpArgs false
set_option linter.unusedVariables false
set_option maxRecDepth 100000
set_option maxHeartbeats 16000000
namespace Go.Proofs.YteciblfmgdlipaaGreatDoor.AS
open Go.RowKit Go.Great CK
theorem Zkb {c:CS} {fs:List FnR} {b:BlP} {r:List BlP} {n:Int} (h:Zlp c b=some n):Zcv c fs (b::r)=Zcv c (Zub fs b.fn.toNat b.pl.toNat n) r:=by
 rw [Zcv]
 simp only [h]
theorem Zkc {c:CS} {fs:List FnR} {b:BlP} {r:List BlP} (h:Zlp c b=none):Zcv c fs (b::r) = .error b.line:=by
 rw [Zcv]
 simp only [h]
def fi6:Nat->Nat
 | 0=>24
 | 1=>25
 | 2=>26
 | 3=>27
 | 4=>28
 | 5=>29
 | 6=>30
 | 7=>31
 | 8=>5
 | _=>5000
theorem Zdn:∀ i,i<9->∀ j,j<9->j≠i->fi6 j≠fi6 i:=by decide
theorem Yfn (i:Nat) (h:i<9):i=0\/i=1\/i=2\/i=3\/i=4\/i=5\/i=6\/i=7\/i=8:=by omega
theorem Zww (j:Nat) (hj:j∈[0,4]):∀ i,i<9->fi6 i≠j:=by revert j;decide
def Zrh (p b4 kf gL nL cL bq:Nat):Nat->Value
 | 0 => .pointer (some ⟨p,0,none⟩)
 | 1 => .pointer (some ⟨p,0,none⟩)
 | 2 => .pointer (some ⟨p,5,none⟩)
 | 3 => .slice (some ⟨gL,0,none⟩) nL cL
 | 4 => .pointer (some ⟨b4,1,none⟩)
 | 5 => .int .i64 (kf:Int)
 | 6 => .pointer (some ⟨gL,kf,none⟩)
 | 7 => .map (some bq)
 | 8 => .map (some bq)
 | _=>undef
def Yhe (p b4 kf gL nL cL bq:Nat)  : Nat->World->Prop
 | _=>fun _=>True
def Ydi:Nat->Nat
 | 0=>47
 | 1=>48
 | 2=>49
 | 3=>50
 | 4=>51
 | 5=>52
 | 6=>53
 | 7=>54
 | 8=>55
 | 9=>56
 | 10=>57
 | 11=>58
 | 12=>59
 | 13=>60
 | 14=>61
 | 15=>1015
 | _=>5000
theorem Zz:∀ i,i<16->∀ j,j<16->j≠i->Ydi j≠Ydi i:=by decide
theorem Zlq (i:Nat) (h:i<16):i=0\/i=1\/i=2\/i=3\/i=4\/i=5\/i=6\/i=7\/i=8\/i=9\/i=10\/i=11\/i=12\/i=13\/i=14\/i=15:=by omega
theorem Zaz (j:Nat) (hj:j∈[0,4,6]):∀ i,i<16->Ydi i≠j:=by revert j;decide
def Xc (p b4 kf kp gF nF cF gC lc cC:Nat) (nv:Int):Nat->Value
 | 0 => .pointer (some ⟨p,0,none⟩)
 | 1 => .pointer (some ⟨p,0,none⟩)
 | 2 => .pointer (some ⟨p,0,none⟩)
 | 3 => .pointer (some ⟨p,2,none⟩)
 | 4 => .slice (some ⟨gF,0,none⟩) nF cF
 | 5 => .pointer (some ⟨b4,1,none⟩)
 | 6 => .int .i64 (kf:Int)
 | 7 => .pointer (some ⟨gF,kf*4,none⟩)
 | 8 => .pointer (some ⟨gF,kf*4+3,none⟩)
 | 9 => .slice (some ⟨gC,0,none⟩) lc cC
 | 10 => .pointer (some ⟨b4,2,none⟩)
 | 11 => .int .i64 (kp:Int)
 | 12 => .int .i64 nv
 | 13 => .pointer (some ⟨gC,kp*2,none⟩)
 | 14 => .pointer (some ⟨gC,kp*2+1,none⟩)
 | 15=>undef
 | _=>undef
def Zzx (p b4 kf kp gF nF cF gC lc cC:Nat) (nv:Int)  : Nat->World->Prop
 | _=>fun _=>True
theorem Zzw (w0 w:World) (p m:Nat) (c:CS) (pend:Value) (h:PS w0 w p m c pend) (hok:Zbi c) (hm:m<=1000000) :
 Calls Tryz.prog 29 #[.pointer (some ⟨p,0,none⟩)] w (Yap w0 w p m c (Zcv c c.funcs c.blk)):=by
 obtain ⟨vd,vF,vL,vB,bm,cv,lb,hA⟩:=h
 obtain ⟨pB,cB,hvB⟩:=Zk hA.ins.brow
 obtain ⟨pF,cF,hvF⟩:=Zk hA.ins.own.fr
 obtain ⟨pL,cL,hvL⟩:=Zk hA.ins.lrow
 subst hvB;subst hvF;subst hvL
 have A0:=Hq hA
 have BO:=Hq hok
 have c6:=Cq w p 6 _ _ _ hA.box
 have hlt:p<w.heap.size:=(Gs hA.box)
 have hz4:=hA.ins.z4
 obtain ⟨R,hR⟩:∃ R,Zcv c c.funcs c.blk=R:=⟨_,rfl⟩
 have HR:=Hq hR
 rw [hR]
 have hbl:(c.blk.length:Int)<=1000000:=by omega
 clear hA hok hR
 go_enter Tryz.func29,Tryz.ntmps29
 go_wp2
 go_loopw [13] (fun i wr=>∃ (k:Nat) (fs:List FnR),i = .int .i64 k/\k<=c.blk.length/\Zcv c fs (c.blk.drop k)=R/\Zru c.funcs fs/\Zdv w0 wr p m { c with funcs:=fs } pend vd (.slice pF c.funcs.length cF) (.slice pL lb.length cL) (.slice pB c.blk.length cB) bm cv lb) (fun i _=>c.blk.length - (intOf i).toNat)
 case atStart=>exact ⟨0,c.funcs,rfl,Nat.zero_le _,HR.out,Zok _,A0.out⟩
 case round =>
  obtain ⟨k,fs,rfl,hk,hf,hs,hA⟩:=hrel
  have AR:=Hq hA
  have FR:=Hq hf
  have SS:=Hq hs
  clear hA hf hs
  by_cases hkl:k<c.blk.length
  · obtain ⟨⟨bline,bfn,bpl,bw,bc⟩,hb⟩:∃ b,c.blk[k]? = some b:=⟨_,List.getElem?_eq_getElem hkl⟩
    obtain ⟨kf,kp,f0,e1,e2,hf0,hkp,hbw⟩:=BO.out _ (List.mem_of_getElem? hb)
    simp only [] at e1 e2 hbw
    subst e1;subst e2
    have hdr:c.blk.drop k=⟨bline,kf,kp,bw,bc⟩::c.blk.drop (k+1):=by rw [List.drop_eq_getElem_cons hkl];congr 1;exact (List.getElem?_eq_some_iff.1 hb).2
    obtain ⟨y0,y1,y2,y3,y4⟩:=Zxk c.blk k _ hb
    simp only [] at y0 y1 y2 y3 y4
    obtain ⟨gB,cB',hvB,hgB,hcB⟩:=Xb AR.out.ins.brow (by show 0<c.blk.length;omega)
    injection hvB with hvB h91 h92;clear h91 h92
    subst hvB
    have x0:=hcB _ _ y0 (by show k*5<c.blk.length*5;omega)
    have x1:=hcB _ _ y1 (by show k*5+1<c.blk.length*5;omega)
    have x2:=hcB _ _ y2 (by show k*5+2<c.blk.length*5;omega)
    have x3:=hcB _ _ y3 (by show k*5+3<c.blk.length*5;omega)
    have x4:=hcB _ _ y4 (by show k*5+4<c.blk.length*5;omega)
    have c4:=Cq wr p 4 _ _ _ AR.out.box
    have hltr:p<wr.heap.size:=(Gs AR.out.box)
    have hkf:kf<c.funcs.length:=(List.getElem?_eq_some_iff.1 hf0).1
    have HF0:=Hq hf0
    have FD:=Hq (show Zcv c fs (⟨bline,kf,kp,bw,bc⟩::c.blk.drop (k+1))=R by rw [<- hdr];exact FR.out)
    clear hcB y0 y1 y2 y3 y4 hb hdr hf0
    cases bc with
    | true =>
      have hfd:Zlp c ⟨bline,kf,kp,bw,true⟩=c.fm bw:=rfl
      go_upto_region 7 with fail
      have AQ:=Hq (Yn AR.out (Ga wr (.cells #[.int .i64 bline,.int .i64 kf,.int .i64 kp,.string (bs bw),.bool true] 131) none))
      have HB4:=heap_alloc_new wr (.cells #[.int .i64 bline,.int .i64 kf,.int .i64 kp,.string (bs bw),.bool true] 131)
      generalize wr.alloc (.cells #[.int .i64 bline,.int .i64 kf,.int .i64 kp,.string (bs bw),.bool true] 131)=w4 at *
      generalize wr.heap.size=b4 at *
      have hmok:=Zlf AQ.out.ins.fm bw hbw
      simp only [] at hmok
      clear c4 x0 x1 x2 x3 x4
      have y0:=Cq w4 b4 0 _ _ _ HB4
      have y1:=Cq w4 b4 1 _ _ _ HB4
      have y2:=Cq w4 b4 2 _ _ _ HB4
      have y3:=Cq w4 b4 3 _ _ _ HB4
      have hb4:b4<w4.heap.size:=(Gs HB4)
      have hlt4:p<w4.heap.size:=(Gs AQ.out.box)
      obtain ⟨q,hq⟩:∃ q,Zlp c ⟨bline,kf,kp,bw,true⟩=q:=⟨_,rfl⟩
      rw [<- hfd,hq] at hmok
      cases q with
      | none =>
        have HE:=Hq (FD.out.symm.trans (Zkc hq))
        simp only [Option.getD_none,Option.isSome_none] at hmok
        clear hq hfd
        go_wp2
        go_ret
        rw [HE.out]
        exact ⟨⟨_,rfl,AQ.out.gr.size,heap_alloc_new w4 _⟩,Za AQ.out.gr (Ga _ _ none)⟩
      | some nv =>
        have HE:=Hq ((Zkb hq).symm.trans FD.out)
        simp only [Option.getD_some,Option.isSome_some] at hmok
        clear hq hfd
        go_upto_region 10 with fail
        (try rename_i K10 hK10)
        obtain ⟨⟨fa,fl,fr,code⟩,hfs⟩:∃ f,fs[kf]? = some f:=⟨_,List.getElem?_eq_getElem (by rw [<- SS.out.1];exact hkf)⟩
        have hcode:kp<code.length:=by have:=SS.out.2 kf _ _ HF0.out hfs;simp only [] at this;omega
        obtain ⟨vc,hvc⟩:∃ v,cv[kf]? = some v:=⟨_,List.getElem?_eq_getElem (by rw [AQ.out.ins.own.cl];show kf<fs.length;rw [<- SS.out.1];exact hkf)⟩
        have hoc:=AQ.out.ins.own.each kf _ vc hfs hvc
        obtain ⟨gC,cC,hvC,hgC,hcC⟩:=Xb hoc (by simp only [];omega)
        simp only [] at hvC
        subst hvC
        obtain ⟨gF,cF',hvF,hgF,hcF⟩:=Xb AQ.out.ins.own.fr (by show 0<fs.length;rw [<- SS.out.1];omega)
        injection hvF with hvF h91 h92;clear h91 h92
        subst hvF
        obtain ⟨-,-,-,q3⟩:=Zap fs cv kf _ _ hfs hvc
        have f3:=hcF _ _ q3 (by show kf*4+3<fs.length*4;rw [<- SS.out.1];omega)
        obtain ⟨⟨o9,a9⟩,hcp⟩:∃ z,code[kp]? = some z:=⟨_,List.getElem?_eq_getElem hcode⟩
        obtain ⟨-,k3⟩:=Zer code kp o9 a9 hcp
        have f4:=hcC _ _ k3 (by simp only [];omega)
        have z4:=Zfs hoc (kp*2+1)
        have c2:=Cq w4 p 2 _ _ _ AQ.out.box
        have HP:=Hq (Zmj (n:=nv) (Yn AQ.out (Zf (Zd w4 none))) hfs hvc hcode)
        clear hcF hcC q3 k3 hoc
        refine Yw (n:=16) (J:=fun a0 l a1 w1=>RJ a0 63 16 Ydi (Xc p b4 kf kp gF c.funcs.length cF gC code.length cC nv ) l a1/\Zbj 15 16 0 [(1,0),(2,1),(3,2),(4,3),(6,5),(7,4),(7,6),(8,7),(9,8),(11,10),(13,9),(13,11),(14,13),(15,14),(15,12)] [] (fun w9=>w9=w4.drew) (fun _=>True) (Zzx p b4 kf kp gF c.funcs.length cF gC code.length cC nv ) (fun w9=>w9=w4.drew.setCell ⟨gC,kp*2+1,none⟩ (.int .i64 nv)) l w1) (by kernel_rfl) rfl (Xm (by kernel_rfl)) (fun l a1 w1 h=>by obtain ⟨h,_⟩:=h;exact h.sz) ⟨Yv rfl,Yb (rfl) (True.intro)⟩ ?step ?fin
        case step =>
         intro l a1 w' i hJJ hi hin
         obtain ⟨hJ,hW⟩:=hJJ
         have hun:l.getD i false=false:=getD_both (mem_ready.1 hi).1
         have hns:=Jb hW hin hun
         have hg:=hW.g hns
         have l0:p<w'.heap.size:=by rw [hg];exact hlt4
         have l1:b4<w'.heap.size:=by rw [hg];exact hb4
         have l2:gF<w'.heap.size:=by rw [hg];exact hgF
         have l3:gC<w'.heap.size:=by rw [hg];exact hgC
         rcases Zlq i hin with rfl|rfl|rfl|rfl|rfl|rfl|rfl|rfl|rfl|rfl|rfl|rfl|rfl|rfl|rfl|rfl
         · have e0:a1.tmps.getD 0 undef = .pointer (some ⟨p,0,none⟩):=hJ.un 0 (fun i hi _=>Zaz 0 (by decide) i hi)
           exact Zc hJ hW hi hun rfl (by rfl) rfl (by decide) (by decide) (Zz _ (by decide)) (w':=w') (by simp [execOp,resolve,invoke,builtin,Act.eval,e0,l0,l1,l2,l3,go_sem,Xc]) (⟨by decide,by kernel_rfl,True.intro⟩)
         · have e47:a1.tmps.getD 47 undef = .pointer (some ⟨p,0,none⟩):=(Ze hJ hi 0 (by kernel_rfl))
           exact Zc hJ hW hi hun rfl (by rfl) rfl (by decide) (by decide) (Zz _ (by decide)) (w':=w') (by simp [execOp,resolve,invoke,builtin,Act.eval,e47,l0,l1,l2,l3,go_sem,Xc]) (⟨by decide,by kernel_rfl,True.intro⟩)
         · have e48:a1.tmps.getD 48 undef = .pointer (some ⟨p,0,none⟩):=(Ze hJ hi 1 (by kernel_rfl))
           exact Zc hJ hW hi hun rfl (by rfl) rfl (by decide) (by decide) (Zz _ (by decide)) (w':=w') (by simp [execOp,resolve,invoke,builtin,Act.eval,e48,l0,l1,l2,l3,go_sem,Xc]) (⟨by decide,by kernel_rfl,True.intro⟩)
         · have e49:a1.tmps.getD 49 undef = .pointer (some ⟨p,0,none⟩):=(Ze hJ hi 2 (by kernel_rfl))
           exact Zc hJ hW hi hun rfl (by rfl) rfl (by decide) (by decide) (Zz _ (by decide)) (w':=w') (by simp [execOp,resolve,invoke,builtin,Act.eval,e49,l0,l1,l2,l3,go_sem,Xc]) (⟨by decide,by kernel_rfl,True.intro⟩)
         · have e50:a1.tmps.getD 50 undef = .pointer (some ⟨p,2,none⟩):=(Ze hJ hi 3 (by kernel_rfl))
           have h0:=Yq c2 hg
           exact Zc hJ hW hi hun rfl (by rfl) rfl (by decide) (by decide) (Zz _ (by decide)) (w':=w') (by simp [execOp,resolve,invoke,builtin,Act.eval,e50,h0,l0,l1,l2,l3,go_sem,Xc]) (⟨by decide,by kernel_rfl,True.intro⟩)
         · have e4:a1.tmps.getD 4 undef = .pointer (some ⟨b4,0,none⟩):=hJ.un 4 (fun i hi _=>Zaz 4 (by decide) i hi)
           exact Zc hJ hW hi hun rfl (by rfl) rfl (by decide) (by decide) (Zz _ (by decide)) (w':=w') (by simp [execOp,resolve,invoke,builtin,Act.eval,e4,l0,l1,l2,l3,go_sem,Xc]) (⟨by decide,by kernel_rfl,True.intro⟩)
         · have e52:a1.tmps.getD 52 undef = .pointer (some ⟨b4,1,none⟩):=(Ze hJ hi 5 (by kernel_rfl))
           have h0:=Yq y1 hg
           exact Zc hJ hW hi hun rfl (by rfl) rfl (by decide) (by decide) (Zz _ (by decide)) (w':=w') (by simp [execOp,resolve,invoke,builtin,Act.eval,e52,h0,l0,l1,l2,l3,go_sem,Xc]) (⟨by decide,by kernel_rfl,True.intro⟩)
         · have e51:a1.tmps.getD 51 undef = .slice (some ⟨gF,0,none⟩) c.funcs.length cF:=(Ze hJ hi 4 (by kernel_rfl))
           have e53:a1.tmps.getD 53 undef = .int .i64 (kf:Int):=(Ze hJ hi 6 (by kernel_rfl))
           exact Zc hJ hW hi hun rfl (by rfl) rfl (by decide) (by decide) (Zz _ (by decide)) (w':=w') (by first|(simp [execOp,resolve,invoke,builtin,Act.eval,e51,e53,l0,l1,l2,l3,go_sem,Xc];done)|(simp [execOp,resolve,invoke,builtin,Act.eval,e51,e53,l0,l1,l2,l3,go_sem,Xc];omega)|(simp [execOp,resolve,invoke,builtin,Act.eval,e51,e53,l0,l1,l2,l3,go_sem,Xc];intro h;omega)|(simp [execOp,resolve,invoke,builtin,Act.eval,e51,e53,l0,l1,l2,l3,go_sem,Xc];intros;omega)) (⟨by decide,by kernel_rfl,True.intro⟩)
         · have e54:a1.tmps.getD 54 undef = .pointer (some ⟨gF,kf*4,none⟩):=(Ze hJ hi 7 (by kernel_rfl))
           exact Zc hJ hW hi hun rfl (by rfl) rfl (by decide) (by decide) (Zz _ (by decide)) (w':=w') (by simp [execOp,resolve,invoke,builtin,Act.eval,e54,l0,l1,l2,l3,go_sem,Xc]) (⟨by decide,by kernel_rfl,True.intro⟩)
         · have e55:a1.tmps.getD 55 undef = .pointer (some ⟨gF,kf*4+3,none⟩):=(Ze hJ hi 8 (by kernel_rfl))
           have h0:=Yq f3 hg
           exact Zc hJ hW hi hun rfl (by rfl) rfl (by decide) (by decide) (Zz _ (by decide)) (w':=w') (by simp [execOp,resolve,invoke,builtin,Act.eval,e55,h0,l0,l1,l2,l3,go_sem,Xc]) (⟨by decide,by kernel_rfl,True.intro⟩)
         · have e4:a1.tmps.getD 4 undef = .pointer (some ⟨b4,0,none⟩):=hJ.un 4 (fun i hi _=>Zaz 4 (by decide) i hi)
           exact Zc hJ hW hi hun rfl (by rfl) rfl (by decide) (by decide) (Zz _ (by decide)) (w':=w') (by simp [execOp,resolve,invoke,builtin,Act.eval,e4,l0,l1,l2,l3,go_sem,Xc]) (⟨by decide,by kernel_rfl,True.intro⟩)
         · have e57:a1.tmps.getD 57 undef = .pointer (some ⟨b4,2,none⟩):=(Ze hJ hi 10 (by kernel_rfl))
           have h0:=Yq y2 hg
           exact Zc hJ hW hi hun rfl (by rfl) rfl (by decide) (by decide) (Zz _ (by decide)) (w':=w') (by simp [execOp,resolve,invoke,builtin,Act.eval,e57,h0,l0,l1,l2,l3,go_sem,Xc]) (⟨by decide,by kernel_rfl,True.intro⟩)
         · have e6:a1.tmps.getD 6 undef = .int .i64 nv:=hJ.un 6 (fun i hi _=>Zaz 6 (by decide) i hi)
           exact Zc hJ hW hi hun rfl (by rfl) rfl (by decide) (by decide) (Zz _ (by decide)) (w':=w') (by simp [execOp,resolve,invoke,builtin,Act.eval,e6,l0,l1,l2,l3,go_sem,Xc]) (⟨by decide,by kernel_rfl,True.intro⟩)
         · have e56:a1.tmps.getD 56 undef = .slice (some ⟨gC,0,none⟩) code.length cC:=(Ze hJ hi 9 (by kernel_rfl))
           have e58:a1.tmps.getD 58 undef = .int .i64 (kp:Int):=(Ze hJ hi 11 (by kernel_rfl))
           exact Zc hJ hW hi hun rfl (by rfl) rfl (by decide) (by decide) (Zz _ (by decide)) (w':=w') (by first|(simp [execOp,resolve,invoke,builtin,Act.eval,e56,e58,l0,l1,l2,l3,go_sem,Xc];done)|(simp [execOp,resolve,invoke,builtin,Act.eval,e56,e58,l0,l1,l2,l3,go_sem,Xc];omega)|(simp [execOp,resolve,invoke,builtin,Act.eval,e56,e58,l0,l1,l2,l3,go_sem,Xc];intro h;omega)|(simp [execOp,resolve,invoke,builtin,Act.eval,e56,e58,l0,l1,l2,l3,go_sem,Xc];intros;omega)) (⟨by decide,by kernel_rfl,True.intro⟩)
         · have e60:a1.tmps.getD 60 undef = .pointer (some ⟨gC,kp*2,none⟩):=(Ze hJ hi 13 (by kernel_rfl))
           exact Zc hJ hW hi hun rfl (by rfl) rfl (by decide) (by decide) (Zz _ (by decide)) (w':=w') (by simp [execOp,resolve,invoke,builtin,Act.eval,e60,l0,l1,l2,l3,go_sem,Xc]) (⟨by decide,by kernel_rfl,True.intro⟩)
         · have e61:a1.tmps.getD 61 undef = .pointer (some ⟨gC,kp*2+1,none⟩):=(Ze hJ hi 14 (by kernel_rfl))
           have e59:a1.tmps.getD 59 undef = .int .i64 nv:=(Ze hJ hi 12 (by kernel_rfl))
           have k1:=Yq f4 hg
           have j1:w'.frozen? ⟨gC,kp*2+1,none⟩=false:=by rw [hg];exact z4
           have lb2:gC<w'.heap.size:=by rw [hg];exact hgC
           have hall:∀ j,j<16->j≠15->l.getD j false=true:=by
            intro j hj hne
            rcases Zlq j hj with rfl|rfl|rfl|rfl|rfl|rfl|rfl|rfl|rfl|rfl|rfl|rfl|rfl|rfl|rfl|rfl
            · exact hW.cl (1,0) (by decide) (hW.cl (2,1) (by decide) (hW.cl (3,2) (by decide) (hW.cl (4,3) (by decide) (hW.cl (7,4) (by decide) (hW.cl (8,7) (by decide) (hW.cl (9,8) (by decide) (hW.cl (13,9) (by decide) (hW.cl (14,13) (by decide) (Zb hi 14 (by kernel_rfl))))))))))
            · exact hW.cl (2,1) (by decide) (hW.cl (3,2) (by decide) (hW.cl (4,3) (by decide) (hW.cl (7,4) (by decide) (hW.cl (8,7) (by decide) (hW.cl (9,8) (by decide) (hW.cl (13,9) (by decide) (hW.cl (14,13) (by decide) (Zb hi 14 (by kernel_rfl)))))))))
            · exact hW.cl (3,2) (by decide) (hW.cl (4,3) (by decide) (hW.cl (7,4) (by decide) (hW.cl (8,7) (by decide) (hW.cl (9,8) (by decide) (hW.cl (13,9) (by decide) (hW.cl (14,13) (by decide) (Zb hi 14 (by kernel_rfl))))))))
            · exact hW.cl (4,3) (by decide) (hW.cl (7,4) (by decide) (hW.cl (8,7) (by decide) (hW.cl (9,8) (by decide) (hW.cl (13,9) (by decide) (hW.cl (14,13) (by decide) (Zb hi 14 (by kernel_rfl)))))))
            · exact hW.cl (7,4) (by decide) (hW.cl (8,7) (by decide) (hW.cl (9,8) (by decide) (hW.cl (13,9) (by decide) (hW.cl (14,13) (by decide) (Zb hi 14 (by kernel_rfl))))))
            · exact hW.cl (6,5) (by decide) (hW.cl (7,6) (by decide) (hW.cl (8,7) (by decide) (hW.cl (9,8) (by decide) (hW.cl (13,9) (by decide) (hW.cl (14,13) (by decide) (Zb hi 14 (by kernel_rfl)))))))
            · exact hW.cl (7,6) (by decide) (hW.cl (8,7) (by decide) (hW.cl (9,8) (by decide) (hW.cl (13,9) (by decide) (hW.cl (14,13) (by decide) (Zb hi 14 (by kernel_rfl))))))
            · exact hW.cl (8,7) (by decide) (hW.cl (9,8) (by decide) (hW.cl (13,9) (by decide) (hW.cl (14,13) (by decide) (Zb hi 14 (by kernel_rfl)))))
            · exact hW.cl (9,8) (by decide) (hW.cl (13,9) (by decide) (hW.cl (14,13) (by decide) (Zb hi 14 (by kernel_rfl))))
            · exact hW.cl (13,9) (by decide) (hW.cl (14,13) (by decide) (Zb hi 14 (by kernel_rfl)))
            · exact hW.cl (11,10) (by decide) (hW.cl (13,11) (by decide) (hW.cl (14,13) (by decide) (Zb hi 14 (by kernel_rfl))))
            · exact hW.cl (13,11) (by decide) (hW.cl (14,13) (by decide) (Zb hi 14 (by kernel_rfl)))
            · exact Zb hi 12 (by kernel_rfl)
            · exact hW.cl (14,13) (by decide) (Zb hi 14 (by kernel_rfl))
            · exact Zb hi 14 (by kernel_rfl)
            · exact absurd rfl hne
           exact Zam (WS:=fun l9 w9=>Zbj 15 16 0 [(1,0),(2,1),(3,2),(4,3),(6,5),(7,4),(7,6),(8,7),(9,8),(11,10),(13,9),(13,11),(14,13),(15,14),(15,12)] [] (fun w9=>w9=w4.drew) (fun _=>True) (Zzx p b4 kf kp gF c.funcs.length cF gC code.length cC nv ) (fun w9=>w9=w4.drew.setCell ⟨gC,kp*2+1,none⟩ (.int .i64 nv)) l9 w9) hJ rfl rfl rfl (by decide) (by decide) (w':=w'.setCell ⟨gC,kp*2+1,none⟩ (.int .i64 nv)) (by simp [execOp,Act.eval,e61,e59,k1,j1,lb2,go_sem]) (Xv hW (by decide) (by decide) hall (Zi _ hi (by kernel_rfl)) (by rw [hg]))
        case fin =>
         intro l9 a1 w9 hJJ hl9
         obtain ⟨hJ,hW⟩:=hJJ
         have hq9:=hW.q (hl9 15 (by decide))
         have hput:=Xk hJ rfl hl9 (fun i j h1 h2 h3=>Zz j h2 i h1 h3)
         subst hput
         subst hq9
         clear hJ hW hl9 c2 f3 f4 y0 y1 y2 y3
         (try refine hK10 _ _ ?_)
         simp only [Je,Ydi,Xc,Act.put,List.setIfInBounds_toArray,List.set_cons_zero,List.set_cons_succ]
         go_wp2
         go_roundw
         case rel=>exact ⟨k+1,Zub fs kf kp nv,by go_num,by omega,HE.out,Zhh SS.out kf kp nv,HP.out.1⟩
         case measure=>simp [intOf];omega
    | false =>
      have hfd:Zlp c ⟨bline,kf,kp,bw,false⟩=(c.lm.getD kf fun _=>none) bw:=rfl
      go_upto_region 6 with fail
      have AQ0:=Hq (Yn AR.out (Ga wr (.cells #[.int .i64 bline,.int .i64 kf,.int .i64 kp,.string (bs bw),.bool false] 131) none))
      have HB0:=heap_alloc_new wr (.cells #[.int .i64 bline,.int .i64 kf,.int .i64 kp,.string (bs bw),.bool false] 131)
      generalize wr.alloc (.cells #[.int .i64 bline,.int .i64 kf,.int .i64 kp,.string (bs bw),.bool false] 131)=w3 at *
      generalize wr.heap.size=b4 at *
      clear c4 x0 x1 x2 x3 x4
      (try rename_i K6 hK6)
      have hlm:kf<c.lm.length:=by have:=AQ0.out.lens;have:=SS.out.1;simp only [] at *;omega
      have hlb:kf<lb.length:=by have:=AQ0.out.ins.len1;simp only [] at *;omega
      obtain ⟨bq,hbq⟩:∃ b,lb[kf]? = some b:=⟨_,List.getElem?_eq_getElem hlb⟩
      obtain ⟨fq,hfq⟩:∃ f,c.lm[kf]? = some f:=⟨_,List.getElem?_eq_getElem hlm⟩
      have hfd2:(c.lm.getD kf fun _=>none)=fq:=by rw [List.getD_eq_getElem?_getD,hfq];rfl
      rw [hfd2] at hfd
      have AQ:=Hq (Yn AQ0.out (Zf (Zd w3 none)))
      have HB4:=Zh HB0 (Zf (Zd w3 none)) (by simp)
      obtain ⟨gL,cL',hvL,hgL,hcL⟩:=Xb AQ0.out.ins.lrow (by omega)
      injection hvL with hvL h91 h92;clear h91 h92
      subst hvL
      have c5:=Cq w3 p 5 _ _ _ AQ0.out.box
      have e0:=hcL kf (.map (some bq)) (by rw [List.getElem?_map,hbq];rfl) (by omega)
      have x1:=Cq w3 b4 1 _ _ _ HB0
      have hlt3:p<w3.heap.size:=(Gs AQ0.out.box)
      have hb43:b4<w3.heap.size:=(Gs HB0)
      refine Yw (n:=9) (J:=fun a0 l a1 w1=>RJ a0 63 9 fi6 (Zrh p b4 kf gL lb.length cL bq ) l a1/\Zbj 9 9 0 [(1,0),(2,1),(3,2),(5,4),(6,3),(6,5),(7,6),(8,7)] [] (fun w9=>w9=w3.drew) (fun _=>True) (Yhe p b4 kf gL lb.length cL bq ) (fun _=>True) l w1) (by kernel_rfl) rfl (Xm (by kernel_rfl)) (fun l a1 w1 h=>by obtain ⟨h,_⟩:=h;exact h.sz) ⟨Yv rfl,Yb (rfl) (True.intro)⟩ ?step ?fin
      case step =>
       intro l a1 w' i hJJ hi hin
       obtain ⟨hJ,hW⟩:=hJJ
       have hun:l.getD i false=false:=getD_both (mem_ready.1 hi).1
       have hns:=Jb hW hin hun
       have hg:=hW.g hns
       have l0:p<w'.heap.size:=by rw [hg];exact hlt3
       have l1:b4<w'.heap.size:=by rw [hg];exact hb43
       have l2:gL<w'.heap.size:=by rw [hg];exact hgL
       rcases Yfn i hin with rfl|rfl|rfl|rfl|rfl|rfl|rfl|rfl|rfl
       · have e0:a1.tmps.getD 0 undef = .pointer (some ⟨p,0,none⟩):=hJ.un 0 (fun i hi _=>Zww 0 (by decide) i hi)
         exact Zc hJ hW hi hun rfl (by rfl) rfl (by decide) (by decide) (Zdn _ (by decide)) (w':=w') (by simp [execOp,resolve,invoke,builtin,Act.eval,e0,l0,l1,l2,go_sem,Zrh]) (⟨by decide,by kernel_rfl,True.intro⟩)
       · have e24:a1.tmps.getD 24 undef = .pointer (some ⟨p,0,none⟩):=(Ze hJ hi 0 (by kernel_rfl))
         exact Zc hJ hW hi hun rfl (by rfl) rfl (by decide) (by decide) (Zdn _ (by decide)) (w':=w') (by simp [execOp,resolve,invoke,builtin,Act.eval,e24,l0,l1,l2,go_sem,Zrh]) (⟨by decide,by kernel_rfl,True.intro⟩)
       · have e25:a1.tmps.getD 25 undef = .pointer (some ⟨p,0,none⟩):=(Ze hJ hi 1 (by kernel_rfl))
         exact Zc hJ hW hi hun rfl (by rfl) rfl (by decide) (by decide) (Zdn _ (by decide)) (w':=w') (by simp [execOp,resolve,invoke,builtin,Act.eval,e25,l0,l1,l2,go_sem,Zrh]) (⟨by decide,by kernel_rfl,True.intro⟩)
       · have e26:a1.tmps.getD 26 undef = .pointer (some ⟨p,5,none⟩):=(Ze hJ hi 2 (by kernel_rfl))
         have h0:=Yq c5 hg
         exact Zc hJ hW hi hun rfl (by rfl) rfl (by decide) (by decide) (Zdn _ (by decide)) (w':=w') (by simp [execOp,resolve,invoke,builtin,Act.eval,e26,h0,l0,l1,l2,go_sem,Zrh]) (⟨by decide,by kernel_rfl,True.intro⟩)
       · have e4:a1.tmps.getD 4 undef = .pointer (some ⟨b4,0,none⟩):=hJ.un 4 (fun i hi _=>Zww 4 (by decide) i hi)
         exact Zc hJ hW hi hun rfl (by rfl) rfl (by decide) (by decide) (Zdn _ (by decide)) (w':=w') (by simp [execOp,resolve,invoke,builtin,Act.eval,e4,l0,l1,l2,go_sem,Zrh]) (⟨by decide,by kernel_rfl,True.intro⟩)
       · have e28:a1.tmps.getD 28 undef = .pointer (some ⟨b4,1,none⟩):=(Ze hJ hi 4 (by kernel_rfl))
         have h0:=Yq x1 hg
         exact Zc hJ hW hi hun rfl (by rfl) rfl (by decide) (by decide) (Zdn _ (by decide)) (w':=w') (by simp [execOp,resolve,invoke,builtin,Act.eval,e28,h0,l0,l1,l2,go_sem,Zrh]) (⟨by decide,by kernel_rfl,True.intro⟩)
       · have e27:a1.tmps.getD 27 undef = .slice (some ⟨gL,0,none⟩) lb.length cL:=(Ze hJ hi 3 (by kernel_rfl))
         have e29:a1.tmps.getD 29 undef = .int .i64 (kf:Int):=(Ze hJ hi 5 (by kernel_rfl))
         exact Zc hJ hW hi hun rfl (by rfl) rfl (by decide) (by decide) (Zdn _ (by decide)) (w':=w') (by first|(simp [execOp,resolve,invoke,builtin,Act.eval,e27,e29,l0,l1,l2,go_sem,Zrh];done)|(simp [execOp,resolve,invoke,builtin,Act.eval,e27,e29,l0,l1,l2,go_sem,Zrh];omega)|(simp [execOp,resolve,invoke,builtin,Act.eval,e27,e29,l0,l1,l2,go_sem,Zrh];intro h;omega)|(simp [execOp,resolve,invoke,builtin,Act.eval,e27,e29,l0,l1,l2,go_sem,Zrh];intros;omega)) (⟨by decide,by kernel_rfl,True.intro⟩)
       · have e30:a1.tmps.getD 30 undef = .pointer (some ⟨gL,kf,none⟩):=(Ze hJ hi 6 (by kernel_rfl))
         have h0:=Yq e0 hg
         exact Zc hJ hW hi hun rfl (by rfl) rfl (by decide) (by decide) (Zdn _ (by decide)) (w':=w') (by simp [execOp,resolve,invoke,builtin,Act.eval,e30,h0,l0,l1,l2,go_sem,Zrh]) (⟨by decide,by kernel_rfl,True.intro⟩)
       · have e31:a1.tmps.getD 31 undef = .map (some bq):=(Ze hJ hi 7 (by kernel_rfl))
         exact Zc hJ hW hi hun rfl (by rfl) rfl (by decide) (by decide) (Zdn _ (by decide)) (w':=w') (by simp [execOp,resolve,invoke,builtin,Act.eval,e31,l0,l1,l2,go_sem,Zrh]) (⟨by decide,by kernel_rfl,True.intro⟩)
      case fin =>
       intro l9 a1 w4 hJJ hl9
       obtain ⟨hJ,hW⟩:=hJJ
       have hq9:w4=w3.drew:=hW.g (Jx hW)
       have hput:=Xk hJ rfl hl9 (fun i j h1 h2 h3=>Zdn j h2 i h1 h3)
       subst hput
       rw [<- hq9] at AQ HB4
       clear hJ hW hl9 c5 e0 x1 HB0 hcL
       (try refine hK6 _ _ ?_)
       simp only [Je,fi6,Zrh,Act.put,List.setIfInBounds_toArray,List.set_cons_zero,List.set_cons_succ]
       have hmok:=Zlf (AQ.out.ins.each kf bq fq hbq hfq).1 bw hbw
       clear hq9
       have y0:=Cq w4 b4 0 _ _ _ HB4
       have y1:=Cq w4 b4 1 _ _ _ HB4
       have y2:=Cq w4 b4 2 _ _ _ HB4
       have y3:=Cq w4 b4 3 _ _ _ HB4
       have hb4:b4<w4.heap.size:=(Gs HB4)
       have hlt4:p<w4.heap.size:=(Gs AQ.out.box)
       obtain ⟨q,hq⟩:∃ q,Zlp c ⟨bline,kf,kp,bw,false⟩=q:=⟨_,rfl⟩
       rw [<- hfd,hq] at hmok
       cases q with
       | none =>
         have HE:=Hq (FD.out.symm.trans (Zkc hq))
         simp only [Option.getD_none,Option.isSome_none] at hmok
         clear hq hfd
         go_wp2
         go_ret
         rw [HE.out]
         exact ⟨⟨_,rfl,AQ.out.gr.size,heap_alloc_new w4 _⟩,Za AQ.out.gr (Ga _ _ none)⟩
       | some nv =>
         have HE:=Hq ((Zkb hq).symm.trans FD.out)
         simp only [Option.getD_some,Option.isSome_some] at hmok
         clear hq hfd
         go_upto_region 10 with fail
         (try rename_i K10 hK10)
         obtain ⟨⟨fa,fl,fr,code⟩,hfs⟩:∃ f,fs[kf]? = some f:=⟨_,List.getElem?_eq_getElem (by rw [<- SS.out.1];exact hkf)⟩
         have hcode:kp<code.length:=by have:=SS.out.2 kf _ _ HF0.out hfs;simp only [] at this;omega
         obtain ⟨vc,hvc⟩:∃ v,cv[kf]? = some v:=⟨_,List.getElem?_eq_getElem (by rw [AQ.out.ins.own.cl];show kf<fs.length;rw [<- SS.out.1];exact hkf)⟩
         have hoc:=AQ.out.ins.own.each kf _ vc hfs hvc
         obtain ⟨gC,cC,hvC,hgC,hcC⟩:=Xb hoc (by simp only [];omega)
         simp only [] at hvC
         subst hvC
         obtain ⟨gF,cF',hvF,hgF,hcF⟩:=Xb AQ.out.ins.own.fr (by show 0<fs.length;rw [<- SS.out.1];omega)
         injection hvF with hvF h91 h92;clear h91 h92
         subst hvF
         obtain ⟨-,-,-,q3⟩:=Zap fs cv kf _ _ hfs hvc
         have f3:=hcF _ _ q3 (by show kf*4+3<fs.length*4;rw [<- SS.out.1];omega)
         obtain ⟨⟨o9,a9⟩,hcp⟩:∃ z,code[kp]? = some z:=⟨_,List.getElem?_eq_getElem hcode⟩
         obtain ⟨-,k3⟩:=Zer code kp o9 a9 hcp
         have f4:=hcC _ _ k3 (by simp only [];omega)
         have z4:=Zfs hoc (kp*2+1)
         have c2:=Cq w4 p 2 _ _ _ AQ.out.box
         have HP:=Hq (Zmj (n:=nv) (Yn AQ.out (Zf (Zd w4 none))) hfs hvc hcode)
         clear hcF hcC q3 k3 hoc
         refine Yw (n:=16) (J:=fun a0 l a1 w1=>RJ a0 63 16 Ydi (Xc p b4 kf kp gF c.funcs.length cF gC code.length cC nv ) l a1/\Zbj 15 16 0 [(1,0),(2,1),(3,2),(4,3),(6,5),(7,4),(7,6),(8,7),(9,8),(11,10),(13,9),(13,11),(14,13),(15,14),(15,12)] [] (fun w9=>w9=w4.drew) (fun _=>True) (Zzx p b4 kf kp gF c.funcs.length cF gC code.length cC nv ) (fun w9=>w9=w4.drew.setCell ⟨gC,kp*2+1,none⟩ (.int .i64 nv)) l w1) (by kernel_rfl) rfl (Xm (by kernel_rfl)) (fun l a1 w1 h=>by obtain ⟨h,_⟩:=h;exact h.sz) ⟨Yv rfl,Yb (rfl) (True.intro)⟩ ?step ?fin
         case step =>
          intro l a1 w' i hJJ hi hin
          obtain ⟨hJ,hW⟩:=hJJ
          have hun:l.getD i false=false:=getD_both (mem_ready.1 hi).1
          have hns:=Jb hW hin hun
          have hg:=hW.g hns
          have l0:p<w'.heap.size:=by rw [hg];exact hlt4
          have l1:b4<w'.heap.size:=by rw [hg];exact hb4
          have l2:gF<w'.heap.size:=by rw [hg];exact hgF
          have l3:gC<w'.heap.size:=by rw [hg];exact hgC
          rcases Zlq i hin with rfl|rfl|rfl|rfl|rfl|rfl|rfl|rfl|rfl|rfl|rfl|rfl|rfl|rfl|rfl|rfl
          · have e0:a1.tmps.getD 0 undef = .pointer (some ⟨p,0,none⟩):=hJ.un 0 (fun i hi _=>Zaz 0 (by decide) i hi)
            exact Zc hJ hW hi hun rfl (by rfl) rfl (by decide) (by decide) (Zz _ (by decide)) (w':=w') (by simp [execOp,resolve,invoke,builtin,Act.eval,e0,l0,l1,l2,l3,go_sem,Xc]) (⟨by decide,by kernel_rfl,True.intro⟩)
          · have e47:a1.tmps.getD 47 undef = .pointer (some ⟨p,0,none⟩):=(Ze hJ hi 0 (by kernel_rfl))
            exact Zc hJ hW hi hun rfl (by rfl) rfl (by decide) (by decide) (Zz _ (by decide)) (w':=w') (by simp [execOp,resolve,invoke,builtin,Act.eval,e47,l0,l1,l2,l3,go_sem,Xc]) (⟨by decide,by kernel_rfl,True.intro⟩)
          · have e48:a1.tmps.getD 48 undef = .pointer (some ⟨p,0,none⟩):=(Ze hJ hi 1 (by kernel_rfl))
            exact Zc hJ hW hi hun rfl (by rfl) rfl (by decide) (by decide) (Zz _ (by decide)) (w':=w') (by simp [execOp,resolve,invoke,builtin,Act.eval,e48,l0,l1,l2,l3,go_sem,Xc]) (⟨by decide,by kernel_rfl,True.intro⟩)
          · have e49:a1.tmps.getD 49 undef = .pointer (some ⟨p,0,none⟩):=(Ze hJ hi 2 (by kernel_rfl))
            exact Zc hJ hW hi hun rfl (by rfl) rfl (by decide) (by decide) (Zz _ (by decide)) (w':=w') (by simp [execOp,resolve,invoke,builtin,Act.eval,e49,l0,l1,l2,l3,go_sem,Xc]) (⟨by decide,by kernel_rfl,True.intro⟩)
          · have e50:a1.tmps.getD 50 undef = .pointer (some ⟨p,2,none⟩):=(Ze hJ hi 3 (by kernel_rfl))
            have h0:=Yq c2 hg
            exact Zc hJ hW hi hun rfl (by rfl) rfl (by decide) (by decide) (Zz _ (by decide)) (w':=w') (by simp [execOp,resolve,invoke,builtin,Act.eval,e50,h0,l0,l1,l2,l3,go_sem,Xc]) (⟨by decide,by kernel_rfl,True.intro⟩)
          · have e4:a1.tmps.getD 4 undef = .pointer (some ⟨b4,0,none⟩):=hJ.un 4 (fun i hi _=>Zaz 4 (by decide) i hi)
            exact Zc hJ hW hi hun rfl (by rfl) rfl (by decide) (by decide) (Zz _ (by decide)) (w':=w') (by simp [execOp,resolve,invoke,builtin,Act.eval,e4,l0,l1,l2,l3,go_sem,Xc]) (⟨by decide,by kernel_rfl,True.intro⟩)
          · have e52:a1.tmps.getD 52 undef = .pointer (some ⟨b4,1,none⟩):=(Ze hJ hi 5 (by kernel_rfl))
            have h0:=Yq y1 hg
            exact Zc hJ hW hi hun rfl (by rfl) rfl (by decide) (by decide) (Zz _ (by decide)) (w':=w') (by simp [execOp,resolve,invoke,builtin,Act.eval,e52,h0,l0,l1,l2,l3,go_sem,Xc]) (⟨by decide,by kernel_rfl,True.intro⟩)
          · have e51:a1.tmps.getD 51 undef = .slice (some ⟨gF,0,none⟩) c.funcs.length cF:=(Ze hJ hi 4 (by kernel_rfl))
            have e53:a1.tmps.getD 53 undef = .int .i64 (kf:Int):=(Ze hJ hi 6 (by kernel_rfl))
            exact Zc hJ hW hi hun rfl (by rfl) rfl (by decide) (by decide) (Zz _ (by decide)) (w':=w') (by first|(simp [execOp,resolve,invoke,builtin,Act.eval,e51,e53,l0,l1,l2,l3,go_sem,Xc];done)|(simp [execOp,resolve,invoke,builtin,Act.eval,e51,e53,l0,l1,l2,l3,go_sem,Xc];omega)|(simp [execOp,resolve,invoke,builtin,Act.eval,e51,e53,l0,l1,l2,l3,go_sem,Xc];intro h;omega)|(simp [execOp,resolve,invoke,builtin,Act.eval,e51,e53,l0,l1,l2,l3,go_sem,Xc];intros;omega)) (⟨by decide,by kernel_rfl,True.intro⟩)
          · have e54:a1.tmps.getD 54 undef = .pointer (some ⟨gF,kf*4,none⟩):=(Ze hJ hi 7 (by kernel_rfl))
            exact Zc hJ hW hi hun rfl (by rfl) rfl (by decide) (by decide) (Zz _ (by decide)) (w':=w') (by simp [execOp,resolve,invoke,builtin,Act.eval,e54,l0,l1,l2,l3,go_sem,Xc]) (⟨by decide,by kernel_rfl,True.intro⟩)
          · have e55:a1.tmps.getD 55 undef = .pointer (some ⟨gF,kf*4+3,none⟩):=(Ze hJ hi 8 (by kernel_rfl))
            have h0:=Yq f3 hg
            exact Zc hJ hW hi hun rfl (by rfl) rfl (by decide) (by decide) (Zz _ (by decide)) (w':=w') (by simp [execOp,resolve,invoke,builtin,Act.eval,e55,h0,l0,l1,l2,l3,go_sem,Xc]) (⟨by decide,by kernel_rfl,True.intro⟩)
          · have e4:a1.tmps.getD 4 undef = .pointer (some ⟨b4,0,none⟩):=hJ.un 4 (fun i hi _=>Zaz 4 (by decide) i hi)
            exact Zc hJ hW hi hun rfl (by rfl) rfl (by decide) (by decide) (Zz _ (by decide)) (w':=w') (by simp [execOp,resolve,invoke,builtin,Act.eval,e4,l0,l1,l2,l3,go_sem,Xc]) (⟨by decide,by kernel_rfl,True.intro⟩)
          · have e57:a1.tmps.getD 57 undef = .pointer (some ⟨b4,2,none⟩):=(Ze hJ hi 10 (by kernel_rfl))
            have h0:=Yq y2 hg
            exact Zc hJ hW hi hun rfl (by rfl) rfl (by decide) (by decide) (Zz _ (by decide)) (w':=w') (by simp [execOp,resolve,invoke,builtin,Act.eval,e57,h0,l0,l1,l2,l3,go_sem,Xc]) (⟨by decide,by kernel_rfl,True.intro⟩)
          · have e6:a1.tmps.getD 6 undef = .int .i64 nv:=hJ.un 6 (fun i hi _=>Zaz 6 (by decide) i hi)
            exact Zc hJ hW hi hun rfl (by rfl) rfl (by decide) (by decide) (Zz _ (by decide)) (w':=w') (by simp [execOp,resolve,invoke,builtin,Act.eval,e6,l0,l1,l2,l3,go_sem,Xc]) (⟨by decide,by kernel_rfl,True.intro⟩)
          · have e56:a1.tmps.getD 56 undef = .slice (some ⟨gC,0,none⟩) code.length cC:=(Ze hJ hi 9 (by kernel_rfl))
            have e58:a1.tmps.getD 58 undef = .int .i64 (kp:Int):=(Ze hJ hi 11 (by kernel_rfl))
            exact Zc hJ hW hi hun rfl (by rfl) rfl (by decide) (by decide) (Zz _ (by decide)) (w':=w') (by first|(simp [execOp,resolve,invoke,builtin,Act.eval,e56,e58,l0,l1,l2,l3,go_sem,Xc];done)|(simp [execOp,resolve,invoke,builtin,Act.eval,e56,e58,l0,l1,l2,l3,go_sem,Xc];omega)|(simp [execOp,resolve,invoke,builtin,Act.eval,e56,e58,l0,l1,l2,l3,go_sem,Xc];intro h;omega)|(simp [execOp,resolve,invoke,builtin,Act.eval,e56,e58,l0,l1,l2,l3,go_sem,Xc];intros;omega)) (⟨by decide,by kernel_rfl,True.intro⟩)
          · have e60:a1.tmps.getD 60 undef = .pointer (some ⟨gC,kp*2,none⟩):=(Ze hJ hi 13 (by kernel_rfl))
            exact Zc hJ hW hi hun rfl (by rfl) rfl (by decide) (by decide) (Zz _ (by decide)) (w':=w') (by simp [execOp,resolve,invoke,builtin,Act.eval,e60,l0,l1,l2,l3,go_sem,Xc]) (⟨by decide,by kernel_rfl,True.intro⟩)
          · have e61:a1.tmps.getD 61 undef = .pointer (some ⟨gC,kp*2+1,none⟩):=(Ze hJ hi 14 (by kernel_rfl))
            have e59:a1.tmps.getD 59 undef = .int .i64 nv:=(Ze hJ hi 12 (by kernel_rfl))
            have k1:=Yq f4 hg
            have j1:w'.frozen? ⟨gC,kp*2+1,none⟩=false:=by rw [hg];exact z4
            have lb2:gC<w'.heap.size:=by rw [hg];exact hgC
            have hall:∀ j,j<16->j≠15->l.getD j false=true:=by
             intro j hj hne
             rcases Zlq j hj with rfl|rfl|rfl|rfl|rfl|rfl|rfl|rfl|rfl|rfl|rfl|rfl|rfl|rfl|rfl|rfl
             · exact hW.cl (1,0) (by decide) (hW.cl (2,1) (by decide) (hW.cl (3,2) (by decide) (hW.cl (4,3) (by decide) (hW.cl (7,4) (by decide) (hW.cl (8,7) (by decide) (hW.cl (9,8) (by decide) (hW.cl (13,9) (by decide) (hW.cl (14,13) (by decide) (Zb hi 14 (by kernel_rfl))))))))))
             · exact hW.cl (2,1) (by decide) (hW.cl (3,2) (by decide) (hW.cl (4,3) (by decide) (hW.cl (7,4) (by decide) (hW.cl (8,7) (by decide) (hW.cl (9,8) (by decide) (hW.cl (13,9) (by decide) (hW.cl (14,13) (by decide) (Zb hi 14 (by kernel_rfl)))))))))
             · exact hW.cl (3,2) (by decide) (hW.cl (4,3) (by decide) (hW.cl (7,4) (by decide) (hW.cl (8,7) (by decide) (hW.cl (9,8) (by decide) (hW.cl (13,9) (by decide) (hW.cl (14,13) (by decide) (Zb hi 14 (by kernel_rfl))))))))
             · exact hW.cl (4,3) (by decide) (hW.cl (7,4) (by decide) (hW.cl (8,7) (by decide) (hW.cl (9,8) (by decide) (hW.cl (13,9) (by decide) (hW.cl (14,13) (by decide) (Zb hi 14 (by kernel_rfl)))))))
             · exact hW.cl (7,4) (by decide) (hW.cl (8,7) (by decide) (hW.cl (9,8) (by decide) (hW.cl (13,9) (by decide) (hW.cl (14,13) (by decide) (Zb hi 14 (by kernel_rfl))))))
             · exact hW.cl (6,5) (by decide) (hW.cl (7,6) (by decide) (hW.cl (8,7) (by decide) (hW.cl (9,8) (by decide) (hW.cl (13,9) (by decide) (hW.cl (14,13) (by decide) (Zb hi 14 (by kernel_rfl)))))))
             · exact hW.cl (7,6) (by decide) (hW.cl (8,7) (by decide) (hW.cl (9,8) (by decide) (hW.cl (13,9) (by decide) (hW.cl (14,13) (by decide) (Zb hi 14 (by kernel_rfl))))))
             · exact hW.cl (8,7) (by decide) (hW.cl (9,8) (by decide) (hW.cl (13,9) (by decide) (hW.cl (14,13) (by decide) (Zb hi 14 (by kernel_rfl)))))
             · exact hW.cl (9,8) (by decide) (hW.cl (13,9) (by decide) (hW.cl (14,13) (by decide) (Zb hi 14 (by kernel_rfl))))
             · exact hW.cl (13,9) (by decide) (hW.cl (14,13) (by decide) (Zb hi 14 (by kernel_rfl)))
             · exact hW.cl (11,10) (by decide) (hW.cl (13,11) (by decide) (hW.cl (14,13) (by decide) (Zb hi 14 (by kernel_rfl))))
             · exact hW.cl (13,11) (by decide) (hW.cl (14,13) (by decide) (Zb hi 14 (by kernel_rfl)))
             · exact Zb hi 12 (by kernel_rfl)
             · exact hW.cl (14,13) (by decide) (Zb hi 14 (by kernel_rfl))
             · exact Zb hi 14 (by kernel_rfl)
             · exact absurd rfl hne
            exact Zam (WS:=fun l9 w9=>Zbj 15 16 0 [(1,0),(2,1),(3,2),(4,3),(6,5),(7,4),(7,6),(8,7),(9,8),(11,10),(13,9),(13,11),(14,13),(15,14),(15,12)] [] (fun w9=>w9=w4.drew) (fun _=>True) (Zzx p b4 kf kp gF c.funcs.length cF gC code.length cC nv ) (fun w9=>w9=w4.drew.setCell ⟨gC,kp*2+1,none⟩ (.int .i64 nv)) l9 w9) hJ rfl rfl rfl (by decide) (by decide) (w':=w'.setCell ⟨gC,kp*2+1,none⟩ (.int .i64 nv)) (by simp [execOp,Act.eval,e61,e59,k1,j1,lb2,go_sem]) (Xv hW (by decide) (by decide) hall (Zi _ hi (by kernel_rfl)) (by rw [hg]))
         case fin =>
          intro l9 a1 w9 hJJ hl9
          obtain ⟨hJ,hW⟩:=hJJ
          have hq9:=hW.q (hl9 15 (by decide))
          have hput:=Xk hJ rfl hl9 (fun i j h1 h2 h3=>Zz j h2 i h1 h3)
          subst hput
          subst hq9
          clear hJ hW hl9 c2 f3 f4 y0 y1 y2 y3
          (try refine hK10 _ _ ?_)
          simp only [Je,Ydi,Xc,Act.put,List.setIfInBounds_toArray,List.set_cons_zero,List.set_cons_succ]
          go_wp2
          go_roundw
          case rel=>exact ⟨k+1,Zub fs kf kp nv,by go_num,by omega,HE.out,Zhh SS.out kf kp nv,HP.out.1⟩
          case measure=>simp [intOf];omega
  · have hkn:k=c.blk.length:=by omega
    subst hkn
    have HE:=Hq (show R = .ok fs by have:=FR.out;rw [List.drop_length] at this;exact this.symm)
    clear hkl
    go_wp2
    go_ret
    rw [HE.out]
    exact ⟨⟨rfl,_,Yge AR.out⟩,AR.out.gr⟩
def C0:CS:=⟨0,false,[],[],fun _=>none,[],[]⟩
def Zqv:CS->Int->List Txt->Except (Int × Int) CS
 | c,_,[] => .ok c
 | c,n,l::r=>match lnC n c l with
   | none => .error (141,n)
   | some (c',none)=>Zqv c' (n+1) r
   | some (_,some y) => .error (y,n)
def Jo (t:Txt):Except (Int × Int) PrP :=
 if 65536<t.length then .error (2,0)
 else match Zqv C0 1 (Zat t) with
  | .error e => .error e
  | .ok c=>match Zcv c c.funcs c.blk with
    | .error n => .error (142,n)
    | .ok fs=>if Jv c.mem c.data.length fs=0 then .ok (c.mem,c.data,fs) else .error (Jv c.mem c.data.length fs,0)
theorem Zfz {c c':CS} (h:Zbi c) (h1:c'.funcs=c.funcs) (h2:c'.blk=c.blk):Zbi c':=by
 intro b hb
 rw [h2] at hb
 rw [h1]
 exact h b hb
theorem Zxg {c:CS} {x:Option Int} {t:Txt} (h:Zbi c):Zbi (Zfo c x t).1:=by
 unfold Zfo
 simp only []
 split
 · exact h
 · exact Zfz h rfl rfl
theorem Znc {c:CS} {k:Nat} (hk:c.funcs.length=k+1):c.funcs[k]? = some (c.funcs.getD k (0,0,0,[])):=by
 rw [List.getD_eq_getElem?_getD,List.getElem?_eq_getElem (by omega:k<c.funcs.length)];rfl
theorem Zev {c:CS} {i:Int × Int} (hk:c.funcs.length≠0) (h:Zbi c):Zbi (Zeg c i):=by
 obtain ⟨k,hk⟩:∃ k,c.funcs.length=k+1:=⟨c.funcs.length - 1,by omega⟩
 intro b hb
 obtain ⟨kf,kp,f,e1,e2,h1,h2,h3⟩:=h b hb
 have hg:=Znc hk
 have hkl:k<c.funcs.length:=by omega
 unfold Zeg
 simp only [hk,Nat.add_sub_cancel]
 by_cases e:kf=k
 · subst e
   rw [hg] at h1
   injection h1 with h1
   refine ⟨kf,kp,_,e1,e2,List.getElem?_set_self hkl,?_,h3⟩
   simp only [List.length_append,List.length_singleton]
   rw [h1];omega
 · exact ⟨kf,kp,f,e1,e2,by rw [List.getElem?_set_ne (Ne.symm e)];exact h1,h2,h3⟩
theorem Znu {c:CS} {i:Int × Int} {line:Int} {s:Txt} {bb:Bool} (hk:c.funcs.length≠0) (h:Zbi c) (hs:s.length<=1000000):Zbi (Zeg (Zrq c line s bb) i):=by
 obtain ⟨k,hk⟩:∃ k,c.funcs.length=k+1:=⟨c.funcs.length - 1,by omega⟩
 have hg:=Znc hk
 have hkl:k<c.funcs.length:=by omega
 intro b hb
 have hb2:b∈c.blk\/b=⟨line,k,((c.funcs.getD k (0,0,0,[])).2.2.2.length:Int),s,bb⟩:=by
  unfold Zeg Zrq at hb
  simp only [hk,Nat.add_sub_cancel] at hb
  rcases List.mem_append.1 hb with hb|hb
  · exact Or.inl hb
  · exact Or.inr (by simpa using hb)
 rcases hb2 with hb2|hb2
 · obtain ⟨kf,kp,f,e1,e2,h1,h2,h3⟩:=Zev (i:=i) (by omega) h b hb2
   refine ⟨kf,kp,f,e1,e2,?_,h2,h3⟩
   exact h1
 · subst hb2
   unfold Zeg Zrq
   simp only [hk,Nat.add_sub_cancel]
   exact ⟨k,_,_,rfl,rfl,List.getElem?_set_self hkl,by simp only [List.length_append,List.length_singleton];omega,hs⟩
theorem Yai {c:CS} (h:Zbi c) (f:FnR) (g:Txt->Option Int) (lm:List (Txt->Option Int)):Zbi { c with funcs:=c.funcs++[f],fm:=g,lm:=lm }:=by
 intro b hb
 obtain ⟨kf,kp,f0,e1,e2,h1,h2,h3⟩:=h b hb
 exact ⟨kf,kp,f0,e1,e2,by show (c.funcs++[f])[kf]? = _;rw [List.getElem?_append_left (List.getElem?_eq_some_iff.1 h1).1];exact h1,h2,h3⟩
theorem Zxh {line:Int} {c c':CS} {x x':Option Int} {ps:List Pc} (h:Zbi c) (hw:∀ t,Pc.word t∈ps->t.length<=1000000) (e:Zfp line c x ps=some (c',x')):Zbi c':=by
 unfold Zfp at e
 split at e
 · rename_i t rest
   split at e
   · cases e
   · split at e
     · cases e
     · rename_i hk
       unfold Zdz at e
       split at e
       · split at e
         · injection e with e;injection e with e _;subst e
           exact Zev hk h
         · cases e
       · split at e
         · injection e with e;injection e with e _;subst e
           exact Zev hk h
         · rename_i s
           split at e
           · injection e with e;injection e with e _;subst e
             exact Znu hk h (hw s (by simp))
           · split at e
             · split at e
               · cases e
               · injection e with e;injection e with e _;subst e
                 exact Zev hk h
             · cases e
         · cases e
 · cases e
theorem Zkk {line:Int} {c c':CS} {x x':Option Int} {lab:Bool} {ps:List Pc} (h:Zbi c) (hw:∀ t,Pc.word t∈ps->t.length<=1000000) (e:Zbe line c x lab ps=some (c',x')):Zbi c':=by
 unfold Zbe at e
 split at e
 · injection e with e;injection e with e _;subst e;exact h
 · rename_i t r
   split at e
   · unfold Zxs at e
     split at e
     · cases e
     · split at e
       · cases e
       · injection e with e;injection e with e _;subst e;exact Zfz h rfl rfl
   · split at e
     · unfold Zdh at e
       split at e
       · split at e
         · cases e
         · injection e with e;injection e with e _;subst e;exact Zfz h rfl rfl
       · cases e
     · split at e
       · unfold Zcu at e
         split at e
         · split at e
           · injection e with e;injection e with e _;subst e;exact Yai h _ _ _
           · cases e
         · cases e
       · exact Zxh h hw e
 · cases e
theorem Ztu {line:Int}:∀ (n:Nat) (ps:List Pc) (c c':CS) (x x':Option Int) (lab:Bool),ps.length<=n->Zbi c->(∀ t,Pc.word t∈ps->t.length<=1000000)->Zdg line c x lab ps=some (c',x')->Zbi c':=by
 intro n
 induction n with
 | zero =>
   intro ps c c' x x' lab hn h hw e
   have:ps=[]:=List.eq_nil_of_length_eq_zero (by omega)
   subst this
   rw [Xq _ _ _ _ _ (by intro t r e;cases e)] at e
   exact Zkk h hw e
 | succ n ih =>
   intro ps c c' x x' lab hn h hw e
   by_cases hp:∃ t r,ps = .word t :: .colon::r
   · obtain ⟨t,r,rfl⟩:=hp
     rw [Zbx] at e
     split at e
     · cases e
     · exact ih r _ c' _ x' true (by simp only [List.length_cons] at hn;omega) (Zxg h) (fun u hu=>hw u (by simp [hu])) e
   · rw [Xq _ _ _ _ _ (fun t r e=>hp ⟨t,r,e⟩)] at e
     exact Zkk h hw e
theorem Yah {line:Int} {c c':CS} {x':Option Int} {t:Txt} (h:Zbi c) (ht:t.length<=1000000) (e:lnC line c t=some (c',x')):Zbi c':=by
 unfold lnC at e
 cases hp:Zqm t with
 | none=>rw [hp] at e;cases e
 | some ps =>
   rw [hp] at e
   have:=(Zql hp).2
   exact Ztu ps.length ps c c' none x' false (Nat.le_refl _) h (fun u hu=>Nat.le_trans (this u (Or.inl hu)) ht) e
def Zgs:List Txt->Nat
 | []=>0
 | l::r=>2*l.length+2+Zgs r
theorem Zno:∀ (t:Txt),Zgs (Zat t)=2*t.length+2
 | []=>rfl
 | c::r=>by
   have ih:=Zno r
   have hne:=Zpn r
   rw [Zat]
   split
   · simp only [Zgs,List.length_cons,List.length_nil];omega
   · split
     · rename_i h;exact absurd h hne
     · rename_i l m h
       rw [h] at ih
       simp only [Zgs,List.length_cons] at ih ⊢
       omega
theorem Zkh:∀ (ls:List Txt) (k:Nat) (l:Txt),ls[k]? = some l->Zgs (ls.drop k)=2*l.length+2+Zgs (ls.drop (k+1))
 | [],k,l,h=>by simp at h
 | a::r,0,l,h=>by simp at h;subst h;rfl
 | a::r,k+1,l,h=>by simpa using Zkh r k l (by simpa using h)
theorem Zrl:∀ (ls:List Txt) (k:Nat),Zgs (ls.drop k)<=Zgs ls
 | [],k=>by simp
 | a::r,0=>Nat.le_refl _
 | a::r,k+1=>by have:=Zrl r k;simp only [List.drop_succ_cons,Zgs];omega
theorem Znn:∀ (ls:List Txt),2*ls.length<=Zgs ls
 | []=>Nat.zero_le _
 | a::r=>by have:=Znn r;simp only [List.length_cons,Zgs];omega
def Zoa (w:World) (b:Nat) (ls:List Txt):Prop:=∃ cs:Array Value,w.heap[b]? = some (.cells cs 9 (0,0))/\∀ (i:Nat) (l:Txt),ls[i]? = some l->cs[i]? = some (Value.string (bs l))
theorem Zpc {w w':World} {b:Nat} {ls:List Txt} (h:Zoa w b ls) (g:Fr w w'):Zoa w' b ls:=by
 obtain ⟨cs,h1,h2⟩:=h
 exact ⟨cs,(g.keep b cs _ _ h1 (Or.inr rfl)).trans h1,h2⟩
theorem Zpd {w:World} {b i:Nat} {ls:List Txt} {l:Txt} (h:Zoa w b ls) (hi:ls[i]? = some l):w.cell? ⟨b,i,none⟩=some (.string (bs l))/\b<w.heap.size:=by
 obtain ⟨cs,h1,h2⟩:=h
 refine ⟨?_,(Gs h1)⟩
 have:=h2 i l hi
 unfold World.cell?
 simp [h1,this]
theorem Zun (s:ByteArray) (hs:s.size<4294967281) (w:World) (h:LibW w) :
 Calls Tryz.prog 27 #[.string s,.string ⟨#[10]⟩] w fun e w'=>∃ b,e = .returned (.slice (some ⟨b,0,none⟩) (Zat s.data.toList).length (Zat s.data.toList).length)/\w.grownBy w' none/\Zoa w' b (Zat s.data.toList):=by
 obtain ⟨m,hm⟩:=h.max
 refine (Tryz.strings_Split s ⟨#[10]⟩ m w hs hm (Nat.le_refl 1)).mono ?_
 rintro e w' ⟨rfl,rfl⟩
 have hc:=Zsd s
 have hl:=Ydk s
 rw [hl]
 refine ⟨w.heap.size,rfl,Ga _ _ _,_,heap_alloc_new w _,fun i l hi => ?_⟩
 rw [<- hc,List.getElem?_map] at hi
 obtain ⟨x,hx,rfl⟩:=Option.map_eq_some_iff.1 hi
 rw [List.getElem?_toArray,List.getElem?_map,hx]
 (try rfl)
theorem Zyl (w:World):PS w ((w.alloc (.map #[] 0)).alloc (.cells #[.int .i64 0,.slice none 0 0,.slice none 0 0,.bool false,.map (some w.heap.size),.slice none 0 0,.slice none 0 0,.nilIface] 70)) (w.heap.size+1) 0 C0 .nilIface:=by
 have g1:=Ga w (.map #[] 0) none
 have g2:=Ga (w.alloc (.map #[] 0)) (.cells #[.int .i64 0,.slice none 0 0,.slice none 0 0,.bool false,.map (some w.heap.size),.slice none 0 0,.slice none 0 0,.nilIface] 70) none
 have hb:=heap_alloc_new (w.alloc (.map #[] 0)) (.cells #[.int .i64 0,.slice none 0 0,.slice none 0 0,.bool false,.map (some w.heap.size),.slice none 0 0,.slice none 0 0,.nilIface] 70)
 rw [World.size_alloc] at hb
 have nilr:∀ (t:TypeId) (sz:Nat) (w:World) (E:Nat),w.ownsRow E t sz (.slice none 0 0) 0 []:=fun t sz w E=>World.ownsRow_nil _ _ _ _
 refine ⟨.slice none 0 0,.slice none 0 0,.slice none 0 0,.slice none 0 0,w.heap.size,[],[],Za g1 g2,Nat.le_succ _,hb,?_,rfl⟩
 refine ⟨⟨nilr _ _ _ _,nilr _ _ _ _,rfl,?_,?_⟩,Zv (Zms w) g2 (by simp),Nat.le_refl _,nilr _ _ _ _,rfl,?_,?_,by simp,nilr _ _ _ _,Nat.le_refl _,Nat.le_refl _,?_,Nat.le_refl _⟩
 · intro k f v hf hv;simp at hv
 · intro k l v v' b hkl hv;simp at hv
 · intro i b f hi;simp at hi
 · intro i j b hi;simp at hi
 · intro f hf;simp [C0] at hf
theorem Zpq:Zbi C0:=fun b hb=>by cases hb
def Zdw (w:World) (b:Nat) (v0 v1 v2:Value):Prop:=w.heap[b]? = some (.cells #[v0,v1,v2] 26 (0,0))
theorem Zco {w:World} {b:Nat} {v0 v1 v2 x0 x1 x2:Value} (h:Zdw w b v0 v1 v2):Zdw (((w.setCell ⟨b,0,none⟩ x0).setCell ⟨b,1,none⟩ x1).setCell ⟨b,2,none⟩ x2) b x0 x1 x2:=by
 unfold Zdw
 rw [Zl (Zl (Zl h))];rfl
theorem Ybu {w0 w:World} {b:Nat} {x0 x1 x2:Value} (h:w0.grownBy w none) (hb:w0.heap.size<=b):w0.grownBy (((w.setCell ⟨b,0,none⟩ x0).setCell ⟨b,1,none⟩ x1).setCell ⟨b,2,none⟩ x2) none :=
 Ya (Ya (Ya h hb) hb) hb
theorem Zjd {w:World} {b:Nat} {x0 x1 x2:Value}:w.grownBy (((w.setCell ⟨b,0,none⟩ x0).setCell ⟨b,1,none⟩ x1).setCell ⟨b,2,none⟩ x2) (some b):=Za (Za (Zo _ _ _ _) (Zo _ _ _ _)) (Zo _ _ _ _)
theorem Zvf {w:World} {b:Nat} {v0 v1 v2:Value} (h:Zdw w b v0 v1 v2):(loadVar 26 ⟨b,0,none⟩).run Tryz.prog w = .ok (.agg #[v0,v1,v2]) w:=by
 have c0:=Cq w _ 0 _ _ _ h
 have c1:=Cq w _ 1 _ _ _ h
 have c2:=Cq w _ 2 _ _ _ h
 have z0:=frozen_of_row w _ 0 _ _ h
 have z1:=frozen_of_row w _ 1 _ _ h
 have z2:=frozen_of_row w _ 2 _ _ h
 go_simp
theorem Zjm {fn:Func} {p u:Tmp} (hf:fn.results = #[.cell p 26,.tmp u]) {tmps:Array Value} {w:World} {b:Nat} {v0 v1 v2 f:Value}
 (hp:tmps.getD p undef = .pointer (some ⟨b,0,none⟩)) (hu:tmps.getD u undef=f) (h:Zdw w b v0 v1 v2) :
 (results fn tmps).run Tryz.prog w = .ok (.tuple #[.agg #[v0,v1,v2],f]) w:=by
 rw [results_cell_tmp hf,hp,hu]
 have:(asAddr (.pointer (some ⟨b,0,none⟩))).run Tryz.prog w = .ok (⟨b,0,none⟩:Addr) w:=rfl
 rw [this]
 simp only [Result.andThen]
 rw [Zvf h]
def Zrv (w:World) (r:Except (Int × Int) PrP) (e:Ending) (w':World):Prop :=
 (match r with
   | .ok (mem,d,fs)=>∃ D F cv,e = .returned (.tuple #[.agg #[.int .i64 mem,D,F],.nilIface])/\Zrw w' w.heap.size D F (Zdy d) fs cv
   | .error (y,n)=>∃ a,e = .returned (.tuple #[.agg #[.int .i64 0,.slice none 0 0,.slice none 0 0],.iface 62 (.pointer (some ⟨a,0,none⟩))])/\w.heap.size<=a/\w'.heap[a]? = some (.cells #[.int .i64 n,Zod y] 64 (0,0)))/\w.grownBy w' none
theorem Zvg {w w9:World} {r:Nat} {n y:Int} {v0 v1 v2:Value} {R:Except (Int × Int) PrP} (hg:w.grownBy w9 none) (hr:w.heap.size<=r) (hb:Zdw w9 r v0 v1 v2) (hR:R = .error (y,n)) :
 Zrv w R (.returned (.tuple #[.agg #[.int .i64 0,.slice none 0 0,.slice none 0 0],.iface 62 (.pointer (some ⟨w9.heap.size,0,none⟩))]))
  ((((w9.setCell ⟨r,0,none⟩ (.int .i64 0)).setCell ⟨r,1,none⟩ (.slice none 0 0)).setCell ⟨r,2,none⟩ (.slice none 0 0)).alloc (.cells #[.int .i64 n,Zod y] 64)):=by
 subst hR
 have hg3:=Ybu (x0 := .int .i64 0) (x1 := .slice none 0 0) (x2 := .slice none 0 0) hg hr
 have h2:=heap_alloc_new (((w9.setCell ⟨r,0,none⟩ (.int .i64 0)).setCell ⟨r,1,none⟩ (.slice none 0 0)).setCell ⟨r,2,none⟩ (.slice none 0 0)) (.cells #[.int .i64 n,Zod y] 64)
 have hsz:(((w9.setCell ⟨r,0,none⟩ (.int .i64 0)).setCell ⟨r,1,none⟩ (.slice none 0 0)).setCell ⟨r,2,none⟩ (.slice none 0 0)).heap.size=w9.heap.size:=by simp
 rw [hsz] at h2
 exact ⟨⟨_,rfl,hg.size,h2⟩,Za hg3 (Ga _ _ none)⟩
theorem Ycj {t:Txt} {e:Int × Int} (hl:¬ 65536<t.length) (h:Zqv C0 1 (Zat t) = .error e):Jo t = .error e:=by
 unfold Jo;rw [if_neg hl,h]
theorem Zyw {t:Txt} {c:CS} {n:Int} (hl:¬ 65536<t.length) (h:Zqv C0 1 (Zat t) = .ok c) (hf:Zcv c c.funcs c.blk = .error n):Jo t = .error (142,n):=by
 unfold Jo;rw [if_neg hl,h];simp only [hf]
theorem Yck {t:Txt} {c:CS} {fs:List FnR} (hl:¬ 65536<t.length) (h:Zqv C0 1 (Zat t) = .ok c) (hf:Zcv c c.funcs c.blk = .ok fs) (he:Jv c.mem c.data.length fs≠0):Jo t = .error (Jv c.mem c.data.length fs,0):=by
 unfold Jo;rw [if_neg hl,h];simp only [hf,if_neg he]
theorem Yey {t:Txt} {c:CS} {fs:List FnR} (hl:¬ 65536<t.length) (h:Zqv C0 1 (Zat t) = .ok c) (hf:Zcv c c.funcs c.blk = .ok fs) (he:Jv c.mem c.data.length fs=0):Jo t = .ok (c.mem,c.data,fs):=by
 unfold Jo;rw [if_neg hl,h];simp only [hf,if_pos he]
theorem Zzg {c:CS} {n:Int} {l:Txt} {r:List Txt}:Zqv c n (l::r)=(match lnC n c l with|none => .error (141,n)|some (c',none)=>Zqv c' (n+1) r|some (_,some y) => .error (y,n)):=rfl
structure Ydw (w:World) (b:Nat) (v0 v1 v2:Value):Prop where
 c0:w.cell? ⟨b,0,none⟩=some v0
 c1:w.cell? ⟨b,1,none⟩=some v1
 c2:w.cell? ⟨b,2,none⟩=some v2
 z0:w.frozen? ⟨b,0,none⟩=false
 z1:w.frozen? ⟨b,1,none⟩=false
 z2:w.frozen? ⟨b,2,none⟩=false
 lt:b<w.heap.size
theorem Zbm {w:World} {b:Nat} {v0 v1 v2:Value} (h:Zdw w b v0 v1 v2):Ydw w b v0 v1 v2 :=
 ⟨Cq w _ 0 _ _ _ h,Cq w _ 1 _ _ _ h,Cq w _ 2 _ _ _ h,frozen_of_row w _ 0 _ _ h,frozen_of_row w _ 1 _ _ h,frozen_of_row w _ 2 _ _ h,(Gs h)⟩
theorem Zhq (t:Txt) (w:World) (hW:LibW w):Calls Tryz.prog 12 #[.string (bs t)] w (Zrv w (Jo t)):=by
 have hz:=Zj t
 by_cases hl:65536<t.length
 · have HR:=Hq (show Jo t = .error (2,0) by unfold Jo;rw [if_pos hl])
   have hi:(t.length:Int)>65536:=by omega
   clear hl
   go_enter Tryz.func12,Tryz.ntmps12
   go_wp2
   have hb:=heap_alloc_new w (.cells #[.int .i64 0,.slice none 0 0,.slice none 0 0] 26)
   have h2:=heap_alloc_new (w.alloc (.cells #[.int .i64 0,.slice none 0 0,.slice none 0 0] 26)) (.cells #[.int .i64 0,Zod 2] 64)
   rw [World.size_alloc] at h2
   refine bodyPost_ret (Zjm rfl rfl rfl (Zh hb (Ga _ _ none) (by simp))) rfl ?_
   rw [HR.out]
   exact ⟨⟨_,rfl,Nat.le_succ _,h2⟩,Za (Ga _ _ _) (Ga _ _ _)⟩
 · have hi:¬ (t.length:Int)>65536:=by omega
   have hmm := @run_makeMap Tryz.prog
   obtain ⟨L,hL⟩:∃ L,Zqv C0 1 (Zat t)=L:=⟨_,rfl⟩
   have PE:=Hq (fun e (h:L = .error e)=>Ycj hl (hL.trans h))
   have PF:=Hq (fun c n (h:L = .ok c)=>Zyw (n:=n) hl (hL.trans h))
   have PC:=Hq (fun c fs (h:L = .ok c)=>Yck (fs:=fs) hl (hL.trans h))
   have PO:=Hq (fun c fs (h:L = .ok c)=>Yey (fs:=fs) hl (hL.trans h))
   have HL:=Hq hL
   have hct:=Zno t
   have hcl:=Znn (Zat t)
   clear hL
   go_enter Tryz.func12,Tryz.ntmps12
   go_upto_region 4 with fail
   have PS2:=Zyl (w.alloc (.cells #[.int .i64 0,.slice none 0 0,.slice none 0 0] 26))
   have B1:=heap_alloc_new w (.cells #[.int .i64 0,.slice none 0 0,.slice none 0 0] 26)
   have g1:=Ga w (.cells #[.int .i64 0,.slice none 0 0,.slice none 0 0] 26) none
   have hs1:=World.size_alloc w (.cells #[.int .i64 0,.slice none 0 0,.slice none 0 0] 26)
   rw [hs1] at PS2
   generalize w.alloc (.cells #[.int .i64 0,.slice none 0 0,.slice none 0 0] 26)=w1 at *
   generalize (w1.alloc (.map #[] 0)).alloc (.cells #[.int .i64 0,.slice none 0 0,.slice none 0 0,.bool false,.map (some (w.heap.size+1)),.slice none 0 0,.slice none 0 0,.nilIface] 70)=w2 at *
   generalize w.heap.size+1+1=p at *
   obtain ⟨r0,hr0⟩:∃ r0,w.heap.size=r0:=⟨_,rfl⟩
   rw [hr0] at B1 hs1
   rw [hr0]
   have hr1:r0<w1.heap.size:=by omega
   have BX:=Hq (show Zdw w1 r0 _ _ _ from B1)
   have P2:=Hq PS2
   have LW:=Hq (Zq hW g1)
   have G1:=Hq g1
   have SP0:=Zun (bs t) (by rw [hz];omega) w2 (Zq LW.out (Zag PS2))
   rw [Xe] at SP0
   have SP:=Hq SP0
   clear PS2 SP0 B1 g1 hW
   obtain ⟨ls,hls⟩:∃ ls,Zat t=ls:=⟨_,rfl⟩
   rw [hls] at SP HL hct hcl
   clear hls
   have hn70:(ls.length:Int)<=70000:=by omega
   go_wp2_with (go_at_call 27;refine SP.out.mono ?_;rintro e w3 ⟨b,rfl,hg,hlt⟩;have P3:=Hq (Jn P2.out hg);have L3:=Hq hlt;clear hg hlt)
   go_loopw [24] (fun i wr=>∃ (k:Nat) (c:CS) (m:Nat) (pend:Value),i = .int .i64 k/\k<=ls.length/\Zqv c ((k:Int)+1) (ls.drop k)=L/\Zbi c/\m+Zgs (ls.drop k)<=262146/\PS w1 wr p m c pend/\Zoa wr b ls) (fun i _=>ls.length - (intOf i).toNat)
   case atStart=>exact ⟨0,C0,0,_,rfl,Nat.zero_le _,HL.out,Zpq,by simp only [List.drop_zero];omega,P3.out,L3.out⟩
   case round =>
    obtain ⟨k,c,m,pend,rfl,hk,hln,hbo,hcost,hps,hlt⟩:=hrel
    have LN:=Hq hln
    have BO:=Hq hbo
    have PR:=Hq hps
    have LT:=Hq hlt
    clear hln hbo hps hlt
    by_cases hkl:k<ls.length
    · obtain ⟨l,hkk⟩:∃ l,ls[k]? = some l:=⟨_,List.getElem?_eq_getElem hkl⟩
      obtain ⟨x0,hbl⟩:=Zpd LT.out hkk
      have hcd:=Zkh ls k l hkk
      have hcle:=Zrl ls k
      have hdr:ls.drop k=l::ls.drop (k+1):=by rw [List.drop_eq_getElem_cons hkl];congr 1;exact (List.getElem?_eq_some_iff.1 hkk).2
      have HST:=Hq (show (match lnC ((k:Int)+1) c l with|none => .error (141,(k:Int)+1)|some (c',none)=>Zqv c' ((k:Int)+1+1) (ls.drop (k+1))|some (_,some y) => .error (y,(k:Int)+1))=L by rw [<- Zzg,<- hdr];exact LN.out)
      have LI:=Hq (Zzh w1 wr p m ((k:Int)+1) c pend l PR.out LW.out (by omega) (by omega))
      clear hkk hdr
      cases hlc:lnC ((k:Int)+1) c l with
      | none =>
        rw [hlc] at HST LI
        have HE:=Hq (PE.out _ HST.out.symm)
        clear hlc
        go_wp2_with (go_at_call 28;refine LI.out.mono ?_;rintro e w4 ⟨rfl,hf4,hg4⟩;have G4:=Hq hg4;have B4:=Hq (show Zdw w4 r0 _ _ _ from Zh BX.out hg4 (by simp));obtain ⟨k0,k1,k2,z0,z1,z2,hlt4⟩:=Zbm B4.out;clear hf4 hg4)
        refine bodyPost_ret (Zjm rfl rfl rfl (Zh (Zco B4.out) (Ga _ _ none) (by simp))) rfl ?_
        exact Zvg (Za G1.out G4.out) (by omega) B4.out HE.out
      | some r9 =>
        obtain ⟨c',x'⟩:=r9
        have BO2:=Hq (Yah BO.out (by omega) hlc)
        rw [hlc] at HST LI
        clear hlc
        cases x' with
        | some y =>
          have HE:=Hq (PE.out _ HST.out.symm)
          go_wp2_with (go_at_call 28;refine LI.out.mono ?_;rintro e w4 ⟨rfl,hf4,hg4⟩;have G4:=Hq hg4;have B4:=Hq (show Zdw w4 r0 _ _ _ from Zh BX.out hg4 (by simp));obtain ⟨k0,k1,k2,z0,z1,z2,hlt4⟩:=Zbm B4.out;clear hf4 hg4)
          refine bodyPost_ret (Zjm rfl rfl rfl (Zh (Zco B4.out) (Ga _ _ none) (by simp))) rfl ?_
          exact Zvg (Za G1.out G4.out) (by omega) B4.out HE.out
        | none =>
          go_wp2_with (go_at_call 28;refine LI.out.mono ?_;rintro e w4 ⟨⟨rfl,hps4⟩,hf4,hg4⟩;have P4:=Hq hps4;have L4:=Hq (Zpc LT.out hf4);clear hf4 hg4 hps4)
          exact ⟨⟨k+1,c',_,_,by go_num,by omega,HST.out,BO2.out,by omega,P4.out,L4.out⟩,by simp [intOf];omega⟩
    · have hkn:k=ls.length:=by omega
      subst hkn
      have HOK:=Hq (show L = .ok c by have:=LN.out;rw [List.drop_length] at this;exact this.symm)
      have FI:=Hq (Zzw w1 wr p m c pend PR.out BO.out (by omega))
      clear hkl
      cases hfc:Zcv c c.funcs c.blk with
      | error n =>
        have HE:=Hq (PF.out c n HOK.out hfc)
        rw [hfc] at FI
        clear hfc
        go_wp2_with (go_at_call 29;refine FI.out.mono ?_;rintro e w4 ⟨⟨a,rfl,ha1,ha2⟩,hg4⟩;have G4:=Hq hg4;have A4:=Hq (And.intro ha1 ha2);have B4:=Hq (show Zdw w4 r0 _ _ _ from Zh BX.out hg4 (by simp));obtain ⟨k0,k1,k2,z0,z1,z2,hlt4⟩:=Zbm B4.out;clear hg4 ha1 ha2)
        refine bodyPost_ret (Zjm rfl rfl rfl (Zco B4.out)) rfl ?_
        rw [HE.out]
        refine ⟨⟨a,rfl,by have:=A4.out.1;omega,Zh A4.out.2 Zjd (fun e=>by injection e with e;have:=A4.out.1;omega)⟩,Ybu (Za G1.out G4.out) (by omega)⟩
      | ok fs =>
        have HF:=Hq hfc
        rw [hfc] at FI
        clear hfc
        by_cases he:Jv c.mem c.data.length fs=0
        · have HE:=Hq (PO.out c fs HOK.out HF.out he)
          have HZ:=Hq he
          clear he
          go_wp2_with (first
           | (go_at_call 29;refine FI.out.mono ?_;rintro e w4 ⟨⟨rfl,pend',vd,vF,vL,vB,bm,cv,lb,hA⟩,hg4⟩;obtain ⟨pD,cD,hvD⟩:=Zk hA.ins.own.dt;obtain ⟨pF,cF,hvF⟩:=Zk hA.ins.own.fr;rw [Jf] at hvD;simp only [] at hvD hvF;subst hvD;subst hvF;have A4:=Hq hA;have CK0:=Zfh c.mem c.data.length fs pD pF cD cF w4.heap.size w4 (Nat.le_refl _) (Zfk hA.ins.own) (by have:=hA.ins.z1;simp only [] at this;omega);rw [HZ.out] at CK0;have CK:=Hq CK0;have y0:=Cq w4 p 0 _ _ _ hA.box;have y1:=Cq w4 p 1 _ _ _ hA.box;have y2:=Cq w4 p 2 _ _ _ hA.box;have hltp:p<w4.heap.size:=(Gs hA.box);clear hg4 hA CK0)
           | (go_at_call 30;refine CK.out.mono ?_;rintro e w5 ⟨rfl,hg5⟩;have G5:=Hq hg5;have B5:=Hq (show Zdw w5 r0 _ _ _ from Zh (Zh BX.out A4.out.gr (by simp)) hg5 (by simp));have u0:=hg5.cell y0 (by simp);have u1:=hg5.cell y1 (by simp);have u2:=hg5.cell y2 (by simp);have hltp5:=Nat.lt_of_lt_of_le hltp hg5.size;obtain ⟨k0,k1,k2,z0,z1,z2,hlt5⟩:=Zbm B5.out;clear hg5))
          have hq:Zdw _ r0 (.int .i64 c.mem) (.slice pD c.data.length cD) (.slice pF fs.length cF):=Zco B5.out
          refine bodyPost_ret (Zjm rfl rfl rfl hq) rfl ?_
          rw [HE.out]
          refine ⟨⟨_,_,cv,rfl,?_⟩,Ybu (Za G1.out (Za A4.out.gr G5.out)) (by omega)⟩
          have O5:=Zvl A4.out.ins.own G5.out
          have O6:=Zak O5 (Zjd (b:=r0) (x0 := .int .i64 c.mem) (x1 := .slice pD c.data.length cD) (x2 := .slice pF fs.length cF)) (fun t sz v n xs ho ht=>Zjo ho hr1)
          exact Zsr O6 G1.out.size
        · have HE:=Hq (PC.out c fs HOK.out HF.out he)
          have HZ:=Hq (rfl:Jv c.mem c.data.length fs=Jv c.mem c.data.length fs)
          obtain ⟨ev,hev⟩:∃ ev,Jv c.mem c.data.length fs=ev:=⟨_,rfl⟩
          have hne:(ev != 0)=true:=by rw [<- hev,bne_iff_ne];exact he
          rw [hev] at HE
          have HZ:=Hq hev
          clear he hev
          go_wp2_with (first
           | (go_at_call 29;refine FI.out.mono ?_;rintro e w4 ⟨⟨rfl,pend',vd,vF,vL,vB,bm,cv,lb,hA⟩,hg4⟩;obtain ⟨pD,cD,hvD⟩:=Zk hA.ins.own.dt;obtain ⟨pF,cF,hvF⟩:=Zk hA.ins.own.fr;rw [Jf] at hvD;simp only [] at hvD hvF;subst hvD;subst hvF;have A4:=Hq hA;have CK0:=Zfh c.mem c.data.length fs pD pF cD cF w4.heap.size w4 (Nat.le_refl _) (Zfk hA.ins.own) (by have:=hA.ins.z1;simp only [] at this;omega);rw [HZ.out] at CK0;have CK:=Hq CK0;have y0:=Cq w4 p 0 _ _ _ hA.box;have y1:=Cq w4 p 1 _ _ _ hA.box;have y2:=Cq w4 p 2 _ _ _ hA.box;have hltp:p<w4.heap.size:=(Gs hA.box);clear hg4 hA CK0)
           | (go_at_call 30;refine CK.out.mono ?_;rintro e w5 ⟨rfl,hg5⟩;have G5:=Hq hg5;have B5:=Hq (show Zdw w5 r0 _ _ _ from Zh (Zh BX.out A4.out.gr (by simp)) hg5 (by simp));have u0:=hg5.cell y0 (by simp);have u1:=hg5.cell y1 (by simp);have u2:=hg5.cell y2 (by simp);have hltp5:=Nat.lt_of_lt_of_le hltp hg5.size;obtain ⟨k0,k1,k2,z0,z1,z2,hlt5⟩:=Zbm B5.out;clear hg5))
          refine bodyPost_ret (Zjm rfl rfl rfl (Zh (Zco B5.out) (Ga _ _ none) (by simp))) rfl ?_
          exact Zvg (Za G1.out (Za A4.out.gr G5.out)) (by omega) B5.out HE.out
end Go.Proofs.YteciblfmgdlipaaGreatDoor.AS
