/-
  Part of a proof: contracts of functions and lemmas, each stated by its own theorem. Conditions: as each theorem states.
-/
import Derived.Test.YthlkflagancdfaaMK15
import Derived.Deep.LoopGhost
import Derived.Test.YthlkflagancdfaaMK13
import Derived.Deep.Cut
import Derived.Deep.QuietTactic
import Derived.BigQuiet
set_option linter.unusedSimpArgs false
set_option linter.unusedVariables false
set_option maxRecDepth 100000
set_option maxHeartbeats 16000000
namespace Go.Proofs.Ythlkflagancdfaa.OT
open Go.RowKit Go.Great
open Go.Proofs.Ythlkflagancdfaa.CK
def Ztt (sl:List Nat) (x:Nat):Int:=if x∈sl then 1 else 0
theorem Ybc (c:List Ins) (p:Option Addr) (cap a0:Nat) (w:World) (hC:Xbr w p c) (hl:c.length<=4096) (ha:a0<c.length) (hS:Zew c) (hJ:∀ x∈c,x.1=14->0<=x.2) :
 Calls Try.prog 53 #[.slice p c.length cap,.int .i64 a0] w fun e w'=>e = .returned (.int .i64 (Zhk c a0))/\w.grownBy w' none:=by
 have hmm := @run_makeMap Try.prog
 have CQ:=Hq hC
 have HS:=Hq hS
 have HJ:=Hq hJ
 have G0:=Hq (Ga w (.map #[] 0) none)
 have M0:=Hq (Zuv w)
 have hli:(c.length:Int)<=4096:=by omega
 clear hC hS hJ
 go_enter Try.func53,Try.ntmps53
 go_wp2
 clear hmm
 generalize hbk:w.heap.size=bk at *
 have HBK:=Hq hbk
 clear hbk
 generalize w.alloc (.map #[] 0)=w2 at *
 go_loopg [1] (c.length+1) (fun g s wr=>∃ (a:Nat) (sl:List Nat),g=c.length+1 - sl.length/\s = .int .i64 a/\a<c.length/\w.grownBy wr none/\Ybn wr bk sl.length (Ztt sl)/\sl.Nodup/\(∀ x∈sl,x<c.length)/\Zhk c a0=Zjf c (c.length+1 - sl.length) sl a)
 case atStart=>exact ⟨a0,[],rfl,rfl,ha,G0.out,Zeq M0.out (fun x=>by simp [Ztt]),List.nodup_nil,fun x h=>by simp at h,rfl⟩
 case round =>
  obtain ⟨a,sl,hgk,rfl,hal,hg,hM,hnd,hlt,he⟩:=hrel
  have hsl:=Zdq c.length sl hnd hlt
  have hlook:=Zrq (x:=a) hM (by omega)
  obtain ⟨w5,hput,hM5,hg5⟩:=Yac (x:=a) (v:=if a∈sl then 2 else 1) hM (by omega) (by omega) (by split <;> omega)
  have hlook5:=Zrq (x:=a) hM5 (by omega)
  simp only [if_true] at hlook5
  obtain ⟨f,hf⟩:∃ f,c.length+1 - sl.length=f+1:=⟨c.length - sl.length,by omega⟩
  rw [hf,Zjf] at he
  obtain ⟨⟨op,b⟩,hx⟩:∃ x,c[a]? = some x:=⟨_,List.getElem?_eq_getElem hal⟩
  have hia:Zn c a=(op,b):=by unfold Zn;rw [List.getD_eq_getElem?_getD,hx];rfl
  have g5:=Yw hg hg5 (fun k hk=>by injection hk with hk;rw [<- hk];exact Nat.le_of_eq HBK.out)
  obtain ⟨b1,o1,rfl,hb1,c0,c1⟩:=CQ.out a _ hx
  have d0:=g5.cell c0 (by simp)
  have d1:=g5.cell c1 (by simp)
  have lb:=Nat.lt_of_lt_of_le hb1 g5.size
  have hai:(a:Int)<(c.length:Int):=by omega
  simp only [] at d0 d1
  have HM5:=Hq hM5
  have G5:=Hq g5
  have HND:=Hq hnd
  have HLT:=Hq hlt
  have HX:=Hq hx
  have HF:=Hq hf
  have HGK:=Hq hgk
  have HSL:=Hq hsl
  by_cases hin:a∈sl
  · rw [if_pos hin] at he
    have HE:=Hq he
    have h1:Ztt sl a=1:=by unfold Ztt;rw [if_pos hin]
    rw [h1] at hlook
    rw [if_pos hin] at hput hlook5
    clear hg hM hnd hlt hsl hM5 hg5 he hx hf hgk g5 c0 c1 h1 hia
    go_wp2
    go_ret
    exact ⟨Zfa (by rw [HE.out]),G5.out⟩
  · rw [if_neg hin] at he
    have h1:Ztt sl a=0:=by unfold Ztt;rw [if_neg hin]
    have HN:=Hq hin
    rw [h1] at hlook
    rw [if_neg hin] at hput hlook5
    have M6:=Hq (Zeq HM5.out (g:=Ztt (a::sl)) (fun x=>by
     unfold Ztt
     by_cases e:x=a
     · subst e;simp [hin]
     · simp [e]))
    unfold Zap at he
    rw [hia] at he
    simp only [] at he
    have hst:=HS.out a hal
    unfold Zap at hst
    rw [hia] at hst
    simp only [] at hst
    by_cases h0:op=0
    · subst h0
      rw [if_pos rfl] at he hst
      have hb:=hst _ rfl
      have HE:=Hq he
      clear hg hM hnd hlt hsl hM5 hg5 he hx hf hgk g5 c0 c1 h1 hia hst
      go_wp2
      go_roundg (f)
      case rel=>exact ⟨a+1,a::sl,by simp;have:=HF.out;omega,by go_num,hb,G5.out,M6.out,List.nodup_cons.2 ⟨HN.out,HND.out⟩,fun x hx=>(List.mem_cons.1 hx).elim (fun e=>e ▸ hal) (HLT.out x),by rw [HE.out];congr 1;simp;have:=HF.out;omega⟩
      case measure=>have:=HGK.out;have:=HF.out;omega
    · rw [if_neg h0] at he hst
      have z0:(op == 0)=false:=by simpa using h0
      by_cases h14:op=14
      · subst h14
        rw [if_pos rfl] at he hst
        have hb:=hst _ rfl
        have hb0:=HJ.out _ (List.mem_of_getElem? hx) rfl
        simp only [] at hb0
        obtain ⟨m,rfl⟩:=Int.eq_ofNat_of_zero_le hb0
        simp only [Int.toNat_natCast] at he hb
        have HE:=Hq he
        clear hg hM hnd hlt hsl hM5 hg5 he hx hf hgk g5 c0 c1 h1 hia hst hb0 h0
        go_wp2
        go_roundg (f)
        case rel=>exact ⟨m,a::sl,by simp;have:=HF.out;omega,rfl,hb,G5.out,M6.out,List.nodup_cons.2 ⟨HN.out,HND.out⟩,fun x hx=>(List.mem_cons.1 hx).elim (fun e=>e ▸ hal) (HLT.out x),by rw [HE.out];congr 1;simp;have:=HF.out;omega⟩
        case measure=>have:=HGK.out;have:=HF.out;omega
      · rw [if_neg h14] at he
        have z14:(op == 14)=false:=by simpa using h14
        have HE:=Hq he
        clear hg hM hnd hlt hsl hM5 hg5 he hx hf hgk g5 c0 c1 h1 hia hst h0 h14
        go_wp2
        go_ret
        exact ⟨Zfa (by rw [HE.out]),G5.out⟩
structure Zhm (c:List Ins):Prop where
 l:c.length<=4096
 n:1<=c.length
 st:Zew c
 j:∀ x∈c,jmp x.1=true->0<=x.2/\x.2<c.length
theorem Zvu {c:List Ins} (h:Zhm c):∀ x∈c,x.1=14->0<=x.2:=fun x hx e=>(h.j x hx (by rw [e];rfl)).1
def Zhq:Option (Nat × Nat)->Value
 | some (f,n) => .tuple #[.agg #[.int .i64 f,.int .i64 n],.bool true]
 | none => .tuple #[.agg #[.int .i64 0,.int .i64 0],.bool false]
def Ybl (w:World) (o:Option (Nat × Nat)) (e:Ending) (w':World):Prop:=e = .returned (Zhq o)/\w.grownBy w' none
theorem Ybt {c r:List Ins} {x:Ins} {n:Nat} (h:jmp x.1=true/\((Zhk c x.2.toNat:Nat):Int)≠x.2):Zcy c (x::r) n=some n:=by rw [Zcy,if_pos h]
theorem Ztf {c r:List Ins} {x:Ins} {n:Nat} (h:¬ (jmp x.1=true/\((Zhk c x.2.toNat:Nat):Int)≠x.2)):Zcy c (x::r) n=Zcy c r (n+1):=by rw [Zcy,if_neg h]
def ut7:Nat->Nat
 | 0=>24
 | 1=>25
 | 2=>26
 | 3=>27
 | 4=>28
 | 5=>29
 | 6=>30
 | 7=>31
 | 8=>32
 | 9=>33
 | 10=>34
 | 11=>35
 | 12=>36
 | _=>5000
theorem Zdl:∀ i,i<13->∀ j,j<13->j≠i->ut7 j≠ut7 i:=by decide
theorem Yxf (i:Nat) (h:i<13):i=0\/i=1\/i=2\/i=3\/i=4\/i=5\/i=6\/i=7\/i=8\/i=9\/i=10\/i=11\/i=12:=by omega
theorem Zqe (j:Nat) (hj:j∈[5,7]):∀ i,i<13->ut7 i≠j:=by revert j;decide
def Ybs (bx bf b1 o1 nc cc:Nat) (op mi ei:Int) (bd:Bool):Nat->Value
 | 0 => .pointer (some ⟨bx,0,none⟩)
 | 1 => .int .i64 op
 | 2 => .bool true
 | 3 => .bool true
 | 4 => .pointer (some ⟨bf,3,none⟩)
 | 5 => .slice (some ⟨b1,o1,none⟩) nc cc
 | 6 => .pointer (some ⟨bx,1,none⟩)
 | 7 => .int .i64 mi
 | 8 => .int .i64 ei
 | 9 => .pointer (some ⟨bx,1,none⟩)
 | 10 => .int .i64 mi
 | 11 => .bool bd
 | 12 => .bool bd
 | _=>undef
theorem Zoe (mem:Int) (fs:List FnP) (pd pF:Option Addr) (nd cd cF B:Nat) (w:World) (hB:B<=w.heap.size) (hF:Yl w B pF fs) (hn:fs.length<=64) (hok:∀ f∈fs,Zhm f.2.2.2) :
 Calls Try.prog 33 #[.agg #[.int .i64 mem,.slice pd nd cd,.slice pF fs.length cF]] w (Ybl w (Zed fs 0)):=by
 have FF:=Hq hF
 have OK:=Hq hok
 have hni:(fs.length:Int)<=64:=by omega
 have G0:=Hq (Za (Ga w (.cells #[.int .i64 mem,.slice pd nd cd,.slice pF fs.length cF] 25) none) (Ga _ (.cells #[.int .i64 0,.int .i64 0] 37) none))
 have T1:=Hq (Yr w (.cells #[.int .i64 mem,.slice pd nd cd,.slice pF fs.length cF] 25) (.cells #[.int .i64 0,.int .i64 0] 37))
 clear hF hok
 go_enter Try.func33,Try.ntmps33
 go_wp2
 generalize (w.alloc (.cells #[.int .i64 mem,.slice pd nd cd,.slice pF fs.length cF] 25)).alloc (.cells #[.int .i64 0,.int .i64 0] 37)=w2 at *
 go_loopw [11] (fun i wr=>∃ k:Nat,i = .int .i64 k/\k<=fs.length/\Zed fs 0=Zed (fs.drop k) k/\w2.grownBy wr none) (fun i _=>fs.length - (intOf i).toNat)
 case atStart=>exact ⟨0,rfl,Nat.zero_le _,rfl,Zc _ _⟩
 case round =>
  obtain ⟨k,rfl,hk,he,hg⟩:=hrel
  have HE:=Hq he
  have HG:=Hq hg
  have x2:=Zb T1.out hg (by simp)
  have X2:=Hq x2
  have lx:=(Gs x2)
  by_cases hlt:(k:Int)<(fs.length:Int)
  · obtain ⟨⟨a,lo,r,c⟩,hf⟩:∃ f,fs[k]? = some f:=⟨_,List.getElem?_eq_getElem (by omega)⟩
    have gw:=Za G0.out hg
    obtain ⟨b,o,rfl,hb,hc⟩:=FF.out (by omega)
    obtain ⟨f0,f1,f2,pc,cc,f3,hcode⟩:=hc k a lo r c hf
    have c0:=gw.cell f0 (by simp)
    have c1:=gw.cell f1 (by simp)
    have c2:=gw.cell f2 (by simp)
    have c3:=gw.cell f3 (by simp)
    have lb:b<wr.heap.size:=by have:=gw.size;omega
    have hcok:=OK.out _ (List.mem_of_getElem? hf)
    simp only [] at hcok
    have hst:Zed (fs.drop k) k=match Zcy c c 0 with
     | some n=>some (k,n)
     | none=>Zed (fs.drop (k+1)) (k+1):=by
     obtain ⟨hkl,e⟩:=List.getElem?_eq_some_iff.1 hf
     rw [List.drop_eq_getElem_cons hkl,e]
     rfl
    have CO:=Hq hcok
    have HST:=Hq hst
    have IQ:=Hq (Zes (Znf hcode hB) gw)
    have hcl:(c.length:Int)<=4096:=by have:=hcok.l;omega
    have GB:=Hq (Ga wr (.cells #[.int .i64 a,.int .i64 lo,.int .i64 r,.slice pc c.length cc] 52) none)
    have XB:=Hq (heap_alloc_new wr (.cells #[.int .i64 a,.int .i64 lo,.int .i64 r,.slice pc c.length cc] 52))
    clear hc hf he hg hcode hcok hst gw f0 f1 f2 f3 x2
    obtain ⟨wo,hwo⟩:∃ wo,wo=wr:=⟨_,rfl⟩
    subst hwo
    go_wp2
    clear c0 c1 c2 c3 lb
    generalize hwf:wo.heap.size=bf at *
    have HBF:=Hq hwf
    clear hwf
    generalize wo.alloc (.cells #[.int .i64 a,.int .i64 lo,.int .i64 r,.slice pc c.length cc] 52)=w3 at *
    go_loopw [19] (fun i wr=>∃ j:Nat,i = .int .i64 j/\j<=c.length/\Zcy c c 0=Zcy c (c.drop j) j/\w3.grownBy wr none) (fun i _=>c.length - (intOf i).toNat)
    case atStart=>exact ⟨0,rfl,Nat.zero_le _,rfl,Zc _ _⟩
    case round =>
     obtain ⟨j,rfl,hj,hej,hgj⟩:=hrel
     have HEJ:=Hq hej
     have HGJ:=Hq hgj
     have xb:=Zb XB.out hgj (by simp)
     have b3:=Cq _ _ 3 _ _ _ xb
     have lbf:=(Gs xb)
     by_cases hlj:(j:Int)<(c.length:Int)
     · obtain ⟨⟨op,v⟩,hx⟩:∃ x,c[j]? = some x:=⟨_,List.getElem?_eq_getElem (by omega)⟩
       obtain ⟨b1,o1,rfl,hb1,d0,d1⟩:=Zes IQ.out (Za GB.out hgj) j _ hx
       simp only [] at d0 d1
       have hdr:c.drop j=(op,v)::c.drop (j+1):=by
        obtain ⟨hjl,e⟩:=List.getElem?_eq_some_iff.1 hx
        rw [List.drop_eq_getElem_cons hjl,e]
       rw [hdr] at hej
       have GX:=Hq (Ga wr (.cells #[.int .i64 op,.int .i64 v] 49) none)
       have XX:=Hq (heap_alloc_new wr (.cells #[.int .i64 op,.int .i64 v] 49))
       cases hjm:jmp op with
       | false =>
         have JF:=Hq (show ∀ w,Calls Try.prog 52 #[.int .i64 op] w fun e w'=>e = .returned (.bool false)/\w'=w from fun w=>(Yu op w).mono fun e w' h=>⟨by rw [h.1,hjm],h.2.symm⟩)
         rw [Ztf (by simp [hjm])] at hej
         have HEN:=Hq hej
         clear hej hgj hx hdr hjm xb
         go_wp2
         go_quiet ((go_at_call 52;exact Calls.quiet_of_same (JF.out _)))
         go_wp2
         go_roundw
         case rel=>exact ⟨j+1,by go_num,by omega,HEN.out,Za HGJ.out (Zf GX.out _)⟩
         case measure=>simp [intOf];omega
       | true =>
         obtain ⟨hv0,hv1⟩:=CO.out.j _ (List.mem_of_getElem? hx) hjm
         simp only [] at hv0 hv1
         obtain ⟨m,rfl⟩:=Int.eq_ofNat_of_zero_le hv0
         have JT:=Hq (show ∀ w,Calls Try.prog 52 #[.int .i64 op] w fun e w'=>e = .returned (.bool true)/\w'=w from fun w=>(Yu op w).mono fun e w' h=>⟨by rw [h.1,hjm],h.2.symm⟩)
         have EN:=Hq (fun W (g:wr.grownBy W none)=>Ybc c (some ⟨b1,o1,none⟩) cc m W (Zes IQ.out (Za GB.out (Za HGJ.out g))) CO.out.l (by omega) CO.out.st (Zvu CO.out))
         have q3:=Hq (GX.out.cell b3 (by simp))
         have HJ2:=Hq hjm
         have LB:=Hq lbf
         clear hgj hx hdr hjm xb
         go_wp2
         generalize hwx:wr.heap.size=bx at *
         have HBX:=Hq hwx
         clear hwx
         generalize wr.alloc (.cells #[.int .i64 op,.int .i64 (m:Int)] 49)=w4 at *
         have x0:=Cq _ _ 0 _ _ _ XX.out
         have x1:=Cq _ _ 1 _ _ _ XX.out
         have lx4:=(Gs XX.out)
         have lf4:bf<w4.heap.size:=by have h1:=LB.out;have h2:=GX.out.size;have h3:=HBX.out;omega
         have y3:=q3.out
         generalize hei:((Zhk c m:Nat):Int)=ei at *
         generalize hmi:(m:Int)=mi at *
         have HEI:=Hq hei
         have HMI:=Hq hmi
         clear hei hmi
         obtain ⟨bd,hbd⟩:∃ bd,(ei != mi)=bd:=⟨_,rfl⟩
         have hbd2:(!(ei == mi))=bd:=hbd
         go_upto_region 7 with fail
         rename_i K hK
         refine Je (n:=13) (J:=fun a0 l a1 w1=>RJ a0 43 13 ut7 (Ybs bx bf b1 o1 c.length cc op mi ei bd) l a1/\WC 8 13 (w4.drew) l w1) (by kernel_rfl) rfl (Zai (by kernel_rfl)) (fun l a1 w1 h=>h.2.sz) ⟨Jd rfl,Zzh _ _ _⟩ ?step ?fin
         case step =>
          intro l a1 w' i hJJ hi hin
          obtain ⟨hJ,hW⟩:=hJJ
          have hun:l.getD i false=false:=getD_both (mem_ready.1 hi).1
          have gW:=hW.g
          have l0:=Nat.lt_of_lt_of_le (show bx<w4.drew.heap.size from lx4) gW.size
          have l1:=Nat.lt_of_lt_of_le (show bf<w4.drew.heap.size from lf4) gW.size
          rcases Yxf i hin with rfl|rfl|rfl|rfl|rfl|rfl|rfl|rfl|rfl|rfl|rfl|rfl|rfl
          · have e7:a1.tmps.getD 7 undef = .pointer (some ⟨bx,0,none⟩):=hJ.un 7 (fun i hi _=>Zqe 7 (by decide) i hi)
            exact Zo hW hJ rfl (by rfl) rfl (by decide) (by decide) (Zdl _ (by decide)) (w':=w') (by simp [execOp,resolve,invoke,builtin,Act.eval,e7,l0,l1,hbd,hbd2,go_sem,Ybs]) (Xd hW (by decide))
          · have e24:a1.tmps.getD 24 undef = .pointer (some ⟨bx,0,none⟩):=(Zu hJ hi 0 (by kernel_rfl))
            have h0:=gW.cell (w:=w4.drew) x0 (by simp)
            exact Zo hW hJ rfl (by rfl) rfl (by decide) (by decide) (Zdl _ (by decide)) (w':=w') (by simp [execOp,resolve,invoke,builtin,Act.eval,e24,h0,l0,l1,hbd,hbd2,go_sem,Ybs]) (Xd hW (by decide))
          · have e25:a1.tmps.getD 25 undef = .int .i64 op:=(Zu hJ hi 1 (by kernel_rfl))
            exact Zxi (WS:=fun l9 w9=>WC 8 13 (w4.drew) l9 w9) hJ rfl (by rfl) rfl (by decide) (by decide) (Zdl _ (by decide)) (by simp [execOp,resolve,invoke,Act.eval,e25,go_sem]) (Calls.mono (JT.out w') (fun e w2 he=>⟨he.1,by rw [he.2];exact Xd hW (by decide)⟩))
          · have e26:a1.tmps.getD 26 undef = .bool true:=(Zu hJ hi 2 (by kernel_rfl))
            exact Zo hW hJ rfl (by rfl) rfl (by decide) (by decide) (Zdl _ (by decide)) (w':=w') (by simp [execOp,resolve,invoke,builtin,Act.eval,e26,l0,l1,hbd,hbd2,go_sem,Ybs]) (Xd hW (by decide))
          · have e5:a1.tmps.getD 5 undef = .pointer (some ⟨bf,0,none⟩):=hJ.un 5 (fun i hi _=>Zqe 5 (by decide) i hi)
            have eg:a1.tmps.getD 27 undef = .bool true:=(Zu hJ hi 3 (by kernel_rfl))
            exact Zo hW hJ rfl (Zge (k:=3) (d:=27) (b:=true) rfl rfl (by rw [hJ.ts];decide) eg) rfl (by decide) (by decide) (Zdl _ (by decide)) (w':=w') (by simp [execOp,resolve,invoke,builtin,Act.eval,e5,l0,l1,hbd,hbd2,go_sem,Ybs]) (Xd hW (by decide))
          · have e28:a1.tmps.getD 28 undef = .pointer (some ⟨bf,3,none⟩):=(Zu hJ hi 4 (by kernel_rfl))
            have eg:a1.tmps.getD 27 undef = .bool true:=(Zu hJ hi 3 (by kernel_rfl))
            have h0:=gW.cell (w:=w4.drew) y3 (by simp)
            exact Zo hW hJ rfl (Zge (k:=3) (d:=27) (b:=true) rfl rfl (by rw [hJ.ts];decide) eg) rfl (by decide) (by decide) (Zdl _ (by decide)) (w':=w') (by simp [execOp,resolve,invoke,builtin,Act.eval,e28,h0,l0,l1,hbd,hbd2,go_sem,Ybs]) (Xd hW (by decide))
          · have e7:a1.tmps.getD 7 undef = .pointer (some ⟨bx,0,none⟩):=hJ.un 7 (fun i hi _=>Zqe 7 (by decide) i hi)
            have eg:a1.tmps.getD 27 undef = .bool true:=(Zu hJ hi 3 (by kernel_rfl))
            exact Zo hW hJ rfl (Zge (k:=3) (d:=27) (b:=true) rfl rfl (by rw [hJ.ts];decide) eg) rfl (by decide) (by decide) (Zdl _ (by decide)) (w':=w') (by simp [execOp,resolve,invoke,builtin,Act.eval,e7,l0,l1,hbd,hbd2,go_sem,Ybs]) (Xd hW (by decide))
          · have e30:a1.tmps.getD 30 undef = .pointer (some ⟨bx,1,none⟩):=(Zu hJ hi 6 (by kernel_rfl))
            have eg:a1.tmps.getD 27 undef = .bool true:=(Zu hJ hi 3 (by kernel_rfl))
            have h0:=gW.cell (w:=w4.drew) x1 (by simp)
            exact Zo hW hJ rfl (Zge (k:=3) (d:=27) (b:=true) rfl rfl (by rw [hJ.ts];decide) eg) rfl (by decide) (by decide) (Zdl _ (by decide)) (w':=w') (by simp [execOp,resolve,invoke,builtin,Act.eval,e30,h0,l0,l1,hbd,hbd2,go_sem,Ybs]) (Xd hW (by decide))
          · have e29:a1.tmps.getD 29 undef = .slice (some ⟨b1,o1,none⟩) c.length cc:=(Zu hJ hi 5 (by kernel_rfl))
            have e31:a1.tmps.getD 31 undef = .int .i64 mi:=(Zu hJ hi 7 (by kernel_rfl))
            have hw0:=hW.h0 hun
            subst hw0
            have eg:a1.tmps.getD 27 undef = .bool true:=(Zu hJ hi 3 (by kernel_rfl))
            exact Zxi (WS:=fun l9 w9=>WC 8 13 (w4.drew) l9 w9) hJ rfl (Zge (k:=3) (d:=27) (b:=true) rfl rfl (by rw [hJ.ts];decide) eg) rfl (by decide) (by decide) (Zdl _ (by decide)) (by simp [execOp,resolve,invoke,Act.eval,e29,e31,go_sem]) (Calls.mono (EN.out w4.drew (Ze GX.out)) (fun e w2 he=>⟨he.1,Yes hW.sz (by decide) he.2⟩))
          · have e7:a1.tmps.getD 7 undef = .pointer (some ⟨bx,0,none⟩):=hJ.un 7 (fun i hi _=>Zqe 7 (by decide) i hi)
            have eg:a1.tmps.getD 27 undef = .bool true:=(Zu hJ hi 3 (by kernel_rfl))
            exact Zo hW hJ rfl (Zge (k:=3) (d:=27) (b:=true) rfl rfl (by rw [hJ.ts];decide) eg) rfl (by decide) (by decide) (Zdl _ (by decide)) (w':=w') (by simp [execOp,resolve,invoke,builtin,Act.eval,e7,l0,l1,hbd,hbd2,go_sem,Ybs]) (Xd hW (by decide))
          · have e33:a1.tmps.getD 33 undef = .pointer (some ⟨bx,1,none⟩):=(Zu hJ hi 9 (by kernel_rfl))
            have eg:a1.tmps.getD 27 undef = .bool true:=(Zu hJ hi 3 (by kernel_rfl))
            have h0:=gW.cell (w:=w4.drew) x1 (by simp)
            exact Zo hW hJ rfl (Zge (k:=3) (d:=27) (b:=true) rfl rfl (by rw [hJ.ts];decide) eg) rfl (by decide) (by decide) (Zdl _ (by decide)) (w':=w') (by simp [execOp,resolve,invoke,builtin,Act.eval,e33,h0,l0,l1,hbd,hbd2,go_sem,Ybs]) (Xd hW (by decide))
          · have e32:a1.tmps.getD 32 undef = .int .i64 ei:=(Zu hJ hi 8 (by kernel_rfl))
            have e34:a1.tmps.getD 34 undef = .int .i64 mi:=(Zu hJ hi 10 (by kernel_rfl))
            have eg:a1.tmps.getD 27 undef = .bool true:=(Zu hJ hi 3 (by kernel_rfl))
            exact Zo hW hJ rfl (Zge (k:=3) (d:=27) (b:=true) rfl rfl (by rw [hJ.ts];decide) eg) rfl (by decide) (by decide) (Zdl _ (by decide)) (w':=w') (by simp [execOp,resolve,invoke,builtin,Act.eval,e32,e34,l0,l1,hbd,hbd2,go_sem,Ybs]) (Xd hW (by decide))
          · have e27:a1.tmps.getD 27 undef = .bool true:=(Zu hJ hi 3 (by kernel_rfl))
            have e35:a1.tmps.getD 35 undef = .bool bd:=(Zu hJ hi 11 (by kernel_rfl))
            exact Zo hW hJ rfl (by rfl) rfl (by decide) (by decide) (Zdl _ (by decide)) (w':=w') (by simp [execOp,resolve,invoke,builtin,Act.eval,e27,e35,l0,l1,hbd,hbd2,go_sem,Ybs]) (Xd hW (by decide))
         intro l a1 w9 hJJ hl
         obtain ⟨hJ,hW⟩:=hJJ
         have hput:=Zag hJ rfl hl (fun i j h1 h2 h3=>Zdl j h2 i h1 h3)
         subst hput
         have G9:=Hq (Za HGJ.out (Za GX.out (Za (Ze (Zc w4 none)) hW.g)))
         clear hJ hW hl
         refine hK _ _ ?_
         simp only [Zay,ut7,Ybs,Act.put,List.setIfInBounds_toArray,List.set_cons_zero,List.set_cons_succ]
         clear hK K x0 x1 lx4 lf4 y3
         have X9:=Hq (Zb (Zb X2.out GB.out (by simp)) G9.out (by simp))
         cases bd with
         | true =>
           have hne:ei≠mi:=by simpa using hbd
           have v0:=Cq _ _ 0 _ _ _ X9.out
           have v1:=Cq _ _ 1 _ _ _ X9.out
           have z0:=frozen_of_row _ _ 0 _ _ X9.out
           have z1:=frozen_of_row _ _ 1 _ _ X9.out
           have lx9:=(Gs X9.out)
           have HU:=Hq (show Zed fs 0=some (k,j) by
            rw [HE.out,HST.out,hej,Ybt ⟨HJ2.out,by simp only [];rw [show mi.toNat=m by rw [<- HMI.out];simp,HEI.out];exact hne⟩])
           clear hbd hbd2 hne hej
           go_wp2
           refine bodyPost_ret (v:=Zhq (some (k,j))) ?_ rfl ⟨by rw [HU.out],Zd (Zd (Za G0.out (Za HG.out (Za GB.out G9.out))) (by omega)) (by omega)⟩
           rw [results_cell_tmp rfl]
           unfold Zhq
           go_simp
         | false =>
           have heq:ei=mi:=by simpa using hbd
           rw [Ztf (by simp only [];rw [show mi.toNat=m by rw [<- HMI.out];simp,HEI.out];exact fun h=>h.2 heq)] at hej
           have HEN:=Hq hej
           clear hbd hbd2 heq hej
           go_wp2
           go_roundw
           case rel=>exact ⟨j+1,by go_num,by omega,HEN.out,G9.out⟩
           case measure=>simp [intOf];omega
     · have hjn:j=c.length:=by omega
       have hun:Zcy c c 0=none:=by rw [hej,hjn,List.drop_length];rfl
       have HU:=Hq (show Zed fs 0=Zed (fs.drop (k+1)) (k+1) by rw [HE.out,HST.out,hun])
       clear hej hgj xb b3 lbf hun
       go_wp2
       go_roundw
       case rel=>exact ⟨k+1,by go_num,by omega,HU.out,Za HG.out (Za GB.out HGJ.out)⟩
       case measure=>simp [intOf];omega
  · have hkn:k=fs.length:=by omega
    have HU:=Hq (show Zed fs 0=none by rw [he,hkn,List.drop_length];rfl)
    have v0:=Cq _ _ 0 _ _ _ X2.out
    have v1:=Cq _ _ 1 _ _ _ X2.out
    have z0:=frozen_of_row _ _ 0 _ _ X2.out
    have z1:=frozen_of_row _ _ 1 _ _ X2.out
    clear he hg x2
    go_wp2
    refine bodyPost_ret (v:=Zhq none) ?_ rfl ⟨by rw [HU.out],Zd (Zd (Za G0.out HG.out) (by omega)) (by omega)⟩
    rw [results_cell_tmp rfl]
    unfold Zhq
    go_simp
theorem Zuh {w:World} {base:Nat} {D F:Value} {g cap:Nat} {dl:List Int} {fs:List FnP} {cv:List Value} {k i:Nat} {f:FnP} {c':List Ins} {u:Value} (h:Zas w base D F dl fs cv) (hf:fs[k]? = some f) (hv:cv[k]? = some (.slice (some ⟨g,0,none⟩) f.2.2.2.length cap))
 (hl:c'.length=f.2.2.2.length) (hs:(Yc f.2.2.2).set i u=Yc c'):Zas (w.setCell ⟨g,i,none⟩ u) base D F dl (fs.set k (Zv f c')) cv:=by
 have hkl:=(List.getElem?_eq_some_iff.1 hf).1
 have gs:=Zh w g i u
 have hk:=h.each k f _ hf hv
 have hrow:=(hk.stored i u).1
 rw [hs] at hrow
 have ne:∀ (v2:Value) (n:Nat) (xs:List Value) (E:TypeId) (sz:Nat),w.ownsRow base E sz v2 n xs->E≠49->v2.ownBlock=none\/v2.ownBlock≠some g:=fun v2 n xs E sz ho hE=>Xq ho hk hE
 have hfl:Xn fs cv=Xn (fs.set k (Zv f c')) cv:=by
  refine Zhh _ _ _ (by simp) fun j a b ha hb => ?_
  by_cases e:j=k
  · subst e
    rw [hf] at ha
    rw [List.getElem?_set_self hkl] at hb
    injection ha with ha;injection hb with hb
    subst ha;subst hb
    exact ⟨rfl,rfl,rfl⟩
  · rw [List.getElem?_set_ne (Ne.symm e)] at hb
    rw [ha] at hb
    injection hb with hb
    subst hb
    exact ⟨rfl,rfl,rfl⟩
 refine ⟨h.dt.kept gs (ne _ _ _ _ _ h.dt (by decide)),?_,by rw [List.length_set];exact h.cl,fun j a b ha hb => ?_,h.dis⟩
 · rw [List.length_set,<- hfl]
   exact h.fr.kept gs (ne _ _ _ _ _ h.fr (by decide))
 · by_cases e:j=k
   · subst e
     rw [List.getElem?_set_self hkl] at ha
     rw [hv] at hb
     injection ha with ha;injection hb with hb
     subst ha;subst hb
     show World.ownsRow _ _ _ _ _ c'.length (Yc c')
     rw [hl]
     exact hrow
   · rw [List.getElem?_set_ne (Ne.symm e)] at ha
     refine (h.each j a b ha hb).kept gs ?_
     cases hb2:b.ownBlock with
     | none=>exact Or.inl rfl
     | some q =>
       right
       intro e2
       injection e2 with e2
       subst e2
       exact h.dis j k b _ q e hb hv hb2 rfl
def Zof (fs:List FnP) (k:Nat):List FnP:=(fs.take k).map (fun f=>Zv f (Yh f.2.2.2))++fs.drop k
theorem Zey (fs:List FnP) (k:Nat):(Zof fs k).length=fs.length:=by simp [Zof];omega
theorem Zzi {fs:List FnP} {k:Nat} {f:FnP} (h:fs[k]? = some f):(Zof fs k)[k]? = some f:=by
 have hk:=(List.getElem?_eq_some_iff.1 h).1
 unfold Zof
 rw [List.getElem?_append_right (by simp;omega)]
 simp [Nat.min_eq_left (by omega:k<=fs.length),h]
theorem Yfj {fs:List FnP} {k:Nat} {f:FnP} (h:fs[k]? = some f):Zof fs (k+1)=(Zof fs k).set k (Zv f (Yh f.2.2.2)):=by
 have hk:=(List.getElem?_eq_some_iff.1 h).1
 have hx:f=fs[k]:=by rw [List.getElem?_eq_getElem hk] at h;injection h with h;exact h.symm
 unfold Zof
 rw [List.take_succ_eq_append_getElem hk,List.map_append,List.set_append_right _ _ (by simp;omega)]
 have e:k - (List.map (fun f=>Zv f (Yh f.2.2.2)) (List.take k fs)).length=0:=by simp;omega
 rw [e,List.drop_eq_getElem_cons hk,List.set_cons_zero,<- hx]
 simp
theorem Yfi (fs:List FnP):Zof fs 0=fs:=by simp [Zof]
theorem Ymk (fs:List FnP):Zof fs fs.length=Xp fs:=by simp [Zof,Xp]
def Zkw (c:List Ins) (a:Int):Int:=(Zhk c a.toNat:Nat)
theorem Yml (c:List Ins):reK (Zkw c) c c.length=Yh c:=Ygn _ _
def Zfo (w:World) (mem:Int) (dl:List Int) (fs:List FnP) (e:Ending) (w':World):Prop :=
 ∃ D F cv,e = .returned (.agg #[.int .i64 mem,D,F])/\w.grownBy w' none/\Zas w' w.heap.size D F dl fs cv
theorem Yta {w:World} {base:Nat} {D F:Value} {g cap:Nat} {dl:List Int} {fs:List FnP} {cv:List Value} {k j:Nat} {a lo r ei x op:Int} {c:List Ins} (h:Zas w base D F dl ((Zof fs k).set k (Zv (a,lo,r,c) (reK (Zkw c) c j))) cv) (hf:fs[k]? = some (a,lo,r,c)) (hv:cv[k]? = some (.slice (some ⟨g,0,none⟩) c.length cap))
 (hn:reK (Zkw c) c (j+1)=(reK (Zkw c) c j).set j (op,ei)) (hs:∀ u:Int,(Yc (reK (Zkw c) c j)).set (j*2+1) (.int .i64 u)=Yc ((reK (Zkw c) c j).set j ((op,x).1,u))) :
 Zas (w.setCell ⟨g,j*2+1,none⟩ (.int .i64 ei)) base D F dl ((Zof fs k).set k (Zv (a,lo,r,c) (reK (Zkw c) c (j+1)))) cv:=by
 have hkl:=(List.getElem?_eq_some_iff.1 hf).1
 have hfk:((Zof fs k).set k (Zv (a,lo,r,c) (reK (Zkw c) c j)))[k]? = some (Zv (a,lo,r,c) (reK (Zkw c) c j)):=List.getElem?_set_self (by rw [Zey];exact hkl)
 have h1:=Zuh (i:=j*2+1) (u := .int .i64 ei) (c':=reK (Zkw c) c (j+1)) h hfk (by show cv[k]? = some (.slice _ (reK (Zkw c) c j).length cap);rw [Zqz];exact hv) (by show (reK (Zkw c) c (j+1)).length=(reK (Zkw c) c j).length;rw [Zqz,Zqz]) (by show (Yc (reK (Zkw c) c j)).set _ _=_;rw [hs,hn])
 rw [List.set_set] at h1
 exact h1
def th9:Nat->Nat
 | 0=>29
 | 1=>30
 | 2=>31
 | 3=>32
 | 4=>33
 | 5=>34
 | 6=>35
 | 7=>36
 | 8=>37
 | 9=>38
 | 10=>39
 | 11=>40
 | 12=>41
 | 13=>42
 | 14=>1014
 | _=>5000
theorem Zda:∀ i,i<15->∀ j,j<15->j≠i->th9 j≠th9 i:=by decide
theorem Yfk (i:Nat) (h:i<15):i=0\/i=1\/i=2\/i=3\/i=4\/i=5\/i=6\/i=7\/i=8\/i=9\/i=10\/i=11\/i=12\/i=13\/i=14:=by omega
theorem Zmc (j:Nat) (hj:j∈[3,4,5,6,7]):∀ i,i<15->th9 i≠j:=by revert j;decide
def Zli (b3 k j bf bx gF nF cF3 gk nc kk b1 o1 cc:Nat) (mi:Int) (ei9:Int):Nat->Value
 | 0 => .pointer (some ⟨b3,2,none⟩)
 | 1 => .slice (some ⟨gF,0,none⟩) nF cF3
 | 2 => .int .i64 k
 | 3 => .pointer (some ⟨gF,k*4,none⟩)
 | 4 => .pointer (some ⟨gF,k*4+3,none⟩)
 | 5 => .slice (some ⟨gk,0,none⟩) nc kk
 | 6 => .int .i64 j
 | 7 => .pointer (some ⟨bf,3,none⟩)
 | 8 => .slice (some ⟨b1,o1,none⟩) nc cc
 | 9 => .pointer (some ⟨bx,1,none⟩)
 | 10 => .int .i64 mi
 | 11 => .int .i64 ei9
 | 12 => .pointer (some ⟨gk,j*2,none⟩)
 | 13 => .pointer (some ⟨gk,j*2+1,none⟩)
 | 14=>undef
 | _=>undef
theorem Yxy {b3 k j bf bx gF nF cF3 gk nc kk b1 o1 cc:Nat} {mi:Int} {ei9:Int} {ei92:Int} (l:Array Bool) (hun:l.getD 11 false=false):∀ i,i<15->l.getD i false=true->th9 i<46->Zli b3 k j bf bx gF nF cF3 gk nc kk b1 o1 cc mi ei92 i=Zli b3 k j bf bx gF nF cF3 gk nc kk b1 o1 cc mi ei9 i:=by
 intro i hi hl _
 rcases Yfk i hi with rfl|rfl|rfl|rfl|rfl|rfl|rfl|rfl|rfl|rfl|rfl|rfl|rfl|rfl|rfl <;> first|rfl|(rw [hun] at hl;cases hl)
theorem Zti (mem:Int) (dl:List Int) (fs:List FnP) (pd pF:Option Addr) (cd cF B:Nat) (w:World) (hB:B<=w.heap.size) (hF:Yl w B pF fs) (hD:Rd w pd (dl.map (Value.int .u8))) (hd:dl.length<=4194304) (hn:fs.length<=64) (hok:∀ f∈fs,Zhm f.2.2.2) :
 Calls Try.prog 35 #[.agg #[.int .i64 mem,.slice pd dl.length cd,.slice pF fs.length cF]] w (Zfo w mem dl (Xp fs)):=by
 have FF:=Hq hF
 have OK:=Hq hok
 have hni:(fs.length:Int)<=64:=by omega
 have G0:=Hq (Za (Ga w (.cells #[.int .i64 mem,.slice pd dl.length cd,.slice pF fs.length cF] 25) none) (Ga _ (.cells #[.int .i64 0,.slice none 0 0,.slice none 0 0] 25) none))
 have T0:=Hq (Xc w (.cells #[.int .i64 mem,.slice pd dl.length cd,.slice pF fs.length cF] 25) (.cells #[.int .i64 0,.slice none 0 0,.slice none 0 0] 25))
 have T1:=Hq (Yr w (.cells #[.int .i64 mem,.slice pd dl.length cd,.slice pF fs.length cF] 25) (.cells #[.int .i64 0,.slice none 0 0,.slice none 0 0] 25))
 have TW:=Hq (fun W (g:w.grownBy W none)=>Zib mem dl fs pd pF cd cF B W (Nat.le_trans hB g.size) (Zq hF g (by simp)) (Ys hD g) hd (by omega) (fun f hf=>by have:=(hok f hf).l;omega))
 clear hF hok hD
 go_enter Try.func35,Try.ntmps35
 go_wp2_with fail
 have sz2:w.heap.size+1<((w.alloc (.cells #[.int .i64 mem,.slice pd dl.length cd,.slice pF fs.length cF] 25)).alloc (.cells #[.int .i64 0,.slice none 0 0,.slice none 0 0] 25)).heap.size:=by simp
 generalize (w.alloc (.cells #[.int .i64 mem,.slice pd dl.length cd,.slice pF fs.length cF] 25)).alloc (.cells #[.int .i64 0,.slice none 0 0,.slice none 0 0] 25)=w2 at *
 refine (TW.out w2 G0.out).mono ?_
 rintro e w3 ⟨D,F,cv,rfl,g3,o3⟩
 obtain ⟨pD,pF3,cD,cF3,rfl,rfl⟩:=Xa o3
 have G3:=Hq (Za G0.out g3)
 have X0:=Hq (Zb T0.out g3 (by simp))
 have X1:=Hq (Zb T1.out g3 (by simp))
 have O3:=Hq (Jm o3 (by omega:w.heap.size<=w2.heap.size))
 have a2:=Cq _ _ 2 _ _ _ X0.out
 have la:=(Gs X0.out)
 clear g3 o3 sz2
 go_wp2
 have G4:=Hq (Za G3.out (Ga w3 (.cells #[.int .i64 mem,.slice pD dl.length cD,.slice pF3 fs.length cF3] 25) none))
 have Y1:=Hq (Zb X1.out (Ga w3 (.cells #[.int .i64 mem,.slice pD dl.length cD,.slice pF3 fs.length cF3] 25) none) (by simp))
 have Y3:=Hq (heap_alloc_new w3 (.cells #[.int .i64 mem,.slice pD dl.length cD,.slice pF3 fs.length cF3] 25))
 have O4:=Hq (Yv O3.out (Ga w3 (.cells #[.int .i64 mem,.slice pD dl.length cD,.slice pF3 fs.length cF3] 25) none))
 have ls3:w.heap.size<=w3.heap.size:=G3.out.size
 clear a2 la
 generalize hb3:w3.heap.size=b3 at *
 have HB3:=Hq hb3
 clear hb3
 generalize w3.alloc (.cells #[.int .i64 mem,.slice pD dl.length cD,.slice pF3 fs.length cF3] 25)=w4 at *
 go_loopw [13] (fun i wr=>∃ k:Nat,i = .int .i64 k/\k<=fs.length/\w.grownBy wr none/\wr.heap[w.heap.size+1]? = some (.cells #[.int .i64 0,.slice none 0 0,.slice none 0 0] 25 (0,0))/\wr.heap[b3]? = some (.cells #[.int .i64 mem,.slice pD dl.length cD,.slice pF3 fs.length cF3] 25 (0,0))/\Zas wr w.heap.size (.slice pD dl.length cD) (.slice pF3 fs.length cF3) dl (Zof fs k) cv) (fun i _=>fs.length - (intOf i).toNat)
 case atStart=>exact ⟨0,rfl,Nat.zero_le _,G4.out,Y1.out,Y3.out,by rw [Yfi];exact O4.out⟩
 case round =>
  obtain ⟨k,rfl,hk,hg,hx1,hx3,ho⟩:=hrel
  have HG:=Hq hg
  have HX1:=Hq hx1
  have HX3:=Hq hx3
  have HO:=Hq ho
  by_cases hlt:(k:Int)<(fs.length:Int)
  · obtain ⟨⟨a,lo,r,c⟩,hf⟩:∃ f,fs[k]? = some f:=⟨_,List.getElem?_eq_getElem (by omega)⟩
    obtain ⟨b,o,rfl,hb,hc⟩:=FF.out (by omega)
    obtain ⟨f0,f1,f2,pc,cc,f3,hcode⟩:=hc k a lo r c hf
    have c0:=hg.cell f0 (by simp)
    have c1:=hg.cell f1 (by simp)
    have c2:=hg.cell f2 (by simp)
    have c3:=hg.cell f3 (by simp)
    have lb:b<wr.heap.size:=by have:=hg.size;omega
    have hcok:=OK.out _ (List.mem_of_getElem? hf)
    simp only [] at hcok
    have CO:=Hq hcok
    have HF:=Hq hf
    have IQ:=Hq (Zes (Znf hcode hB) hg)
    have IW:=Hq (Znf hcode hB)
    have hcl:(c.length:Int)<=4096:=by have:=hcok.l;omega
    have GB:=Hq (Ga wr (.cells #[.int .i64 a,.int .i64 lo,.int .i64 r,.slice pc c.length cc] 52) none)
    have XB:=Hq (heap_alloc_new wr (.cells #[.int .i64 a,.int .i64 lo,.int .i64 r,.slice pc c.length cc] 52))
    have hkf:=Zzi hf
    obtain ⟨v,hv⟩:∃ v,cv[k]? = some v:=⟨_,List.getElem?_eq_getElem (by rw [ho.cl,Zey];omega)⟩
    have hrow:=ho.each k _ v hkf hv
    obtain ⟨gk,kk,hvv,hgk,-⟩:=Zx hrow (show 0<c.length from hcok.n)
    subst hvv
    obtain ⟨gF,kF,hFv,hgF,-⟩:=Zx ho.fr (by rw [Zey];omega)
    rw [Zey] at hFv
    injection hFv with q1 q2 q3
    subst q1;subst q3
    have hbs:=(hrow.lt gk rfl).1
    have hbF:=(ho.fr.lt gF rfl).1
    have HV:=Hq hv
    have nk1:gk≠w.heap.size+1:=by intro e;have:=Yp hrow hx1 (by decide);exact this (by rw [e];rfl)
    have nk3:gk≠b3:=by intro e;have:=Yp hrow hx3 (by decide);exact this (by rw [e];rfl)
    clear hc hf hg hcode hcok f0 f1 f2 f3 hx1 hx3 ho hkf hv hrow q2
    obtain ⟨wo,hwo⟩:∃ wo,wo=wr:=⟨_,rfl⟩
    subst hwo
    go_wp2
    clear c0 c1 c2 c3 lb
    have ko:wo.heap.size≠gk:=by omega
    generalize hwf:wo.heap.size=bf at *
    have HBF:=Hq hwf
    clear hwf
    have G5:=Hq (Za HG.out GB.out)
    have V1:=Hq (Zb HX1.out GB.out (by simp))
    have V3:=Hq (Zb HX3.out GB.out (by simp))
    have O5:=Hq (Yv HO.out GB.out)
    generalize wo.alloc (.cells #[.int .i64 a,.int .i64 lo,.int .i64 r,.slice pc c.length cc] 52)=w5 at *
    have OZ:=Hq (show Zas w5 w.heap.size (.slice pD dl.length cD) (.slice (some ⟨gF,0,none⟩) fs.length cF3) dl ((Zof fs k).set k (Zv (a,lo,r,c) (reK (Zkw c) c 0))) cv by
     rw [Zzr,show Zv (a,lo,r,c) c=(a,lo,r,c) from rfl]
     have h1:(Zof fs k).set k (a,lo,r,c)=Zof fs k:=by
      have h2:=Zzi HF.out
      obtain ⟨h3,h4⟩:=List.getElem?_eq_some_iff.1 h2
      rw [<- h4]
      exact List.set_getElem_self h3
     rw [h1]
     exact O5.out)
    go_loopw [21] (fun i wr=>∃ j:Nat,i = .int .i64 j/\j<=c.length/\w.grownBy wr none/\wr.heap[w.heap.size+1]? = some (.cells #[.int .i64 0,.slice none 0 0,.slice none 0 0] 25 (0,0))/\wr.heap[b3]? = some (.cells #[.int .i64 mem,.slice pD dl.length cD,.slice (some ⟨gF,0,none⟩) fs.length cF3] 25 (0,0)) /\
     wr.heap[bf]? = some (.cells #[.int .i64 a,.int .i64 lo,.int .i64 r,.slice pc c.length cc] 52 (0,0))/\Zas wr w.heap.size (.slice pD dl.length cD) (.slice (some ⟨gF,0,none⟩) fs.length cF3) dl ((Zof fs k).set k (Zv (a,lo,r,c) (reK (Zkw c) c j))) cv) (fun i _=>c.length - (intOf i).toNat)
    case atStart=>exact ⟨0,rfl,Nat.zero_le _,G5.out,V1.out,V3.out,XB.out,OZ.out⟩
    case round =>
     obtain ⟨j,rfl,hj,hg,h1,h3,hbf,ho⟩:=hrel
     have IG:=Hq hg
     have I1:=Hq h1
     have I3:=Hq h3
     have IB:=Hq hbf
     have IO:=Hq ho
     clear OZ V1 V3 G5 O5
     by_cases hlj:(j:Int)<(c.length:Int)
     · obtain ⟨⟨op,x⟩,hx⟩:∃ x,c[j]? = some x:=⟨_,List.getElem?_eq_getElem (by omega)⟩
       obtain ⟨b1,o1,rfl,hb1,d0',d1'⟩:=IW.out j _ hx
       have d0:=hg.cell d0' (by simp)
       have d1:=hg.cell d1' (by simp)
       have lb1:=Nat.lt_of_lt_of_le hb1 hg.size
       simp only [] at d0 d1
       have GX:=Hq (Ga wr (.cells #[.int .i64 op,.int .i64 x] 49) none)
       have XX:=Hq (heap_alloc_new wr (.cells #[.int .i64 op,.int .i64 x] 49))
       have HX:=Hq hx
       cases hjm:jmp op with
       | false =>
         have JF:=Hq (show ∀ w,Calls Try.prog 52 #[.int .i64 op] w fun e w'=>e = .returned (.bool false)/\w=w' from fun w=>hjm ▸ Yu op w)
         have KS:=Hq (Zzs (g:=Zkw c) hx hjm)
         clear hg h1 h3 hbf ho hx hjm d0' d1' hb1
         go_wp2_with (go_at_call 52;refine (JF.out _).mono ?_;rintro e w' ⟨rfl,rfl⟩)
         go_roundw
         case rel=>exact ⟨j+1,by go_num,by omega,Za IG.out GX.out,Zb I1.out GX.out (by simp),Zb I3.out GX.out (by simp),Zb IB.out GX.out (by simp),by rw [KS.out];exact Yv IO.out GX.out⟩
         case measure=>simp [intOf];omega
       | true =>
         obtain ⟨hv0,hv1⟩:=CO.out.j _ (List.mem_of_getElem? hx) hjm
         simp only [] at hv0 hv1
         obtain ⟨m,rfl⟩:=Int.eq_ofNat_of_zero_le hv0
         have JT:=Hq (show ∀ w,Calls Try.prog 52 #[.int .i64 op] w fun e w'=>e = .returned (.bool true)/\w=w' from fun w=>hjm ▸ Yu op w)
         have EN:=Hq (fun W (g:wr.grownBy W none)=>Ybc c (some ⟨b1,o1,none⟩) cc m W (Zes IW.out (Za IG.out g)) CO.out.l (by omega) CO.out.st (Zvu CO.out))
         have HJ2:=Hq hjm
         have hfk:((Zof fs k).set k (Zv (a,lo,r,c) (reK (Zkw c) c j)))[k]? = some (Zv (a,lo,r,c) (reK (Zkw c) c j)):=List.getElem?_set_self (by rw [Zey];omega)
         obtain ⟨gF',cap',eF',-,hcF⟩:=Zx ho.fr (by rw [List.length_set,Zey];omega)
         injection eF' with e1 e2 e3
         injection e1 with e1;injection e1 with e1 _ _;subst e1
         obtain ⟨-,-,-,q3⟩:=Jj _ cv k _ _ hfk HV.out
         have F3:=Hq (GX.out.cell (hcF _ _ q3 (by rw [List.length_set,Zey];omega)) (by simp))
         have hrow:=ho.each k _ _ hfk HV.out
         have rl:(Zv (a,lo,r,c) (reK (Zkw c) c j)).2.2.2.length=c.length:=Zqz _ _ _
         rw [rl] at hrow
         obtain ⟨gk',kk',ek,hgk2,hck⟩:=Zx hrow (by omega)
         injection ek with e4 e5 e6
         injection e4 with e4;injection e4 with e4 _ _;subst e4
         obtain ⟨-,qk⟩:=Xy (reK (Zkw c) c j) j op (m:Int) (Zmo hx)
         have K1:=Hq (GX.out.cell (hck _ _ qk (by omega)) (by simp))
         have KR:=Hq (hrow.kept GX.out (Classical.em _))
         have LK:=Hq (Nat.lt_of_lt_of_le hgk2 GX.out.size)
         have LF:=Hq (Nat.lt_of_lt_of_le (ho.fr.lt gF rfl).2 GX.out.size)
         have B2:=Hq (Zb h3 GX.out (by simp))
         have BF:=Hq (Zb hbf GX.out (by simp))
         have KN:=Hq (Zqy (g:=Zkw c) hx)
         have FS:=Hq (fun u=>Zhi (reK (Zkw c) c j) j (op,(m:Int)) u (Zmo hx))
         clear hg h1 h3 hbf ho hx hjm d0' d1' hb1 hfk hcF q3 hrow rl hck qk e2 e3 e5 e6 hgk2
         go_wp2_with (go_at_call 52;refine (JT.out _).mono ?_;rintro e w' ⟨rfl,rfl⟩)
         generalize hwx:wr.heap.size=bx at *
         have HBX:=Hq hwx
         clear hwx
         have G6:=Hq (Za IG.out GX.out)
         have H1:=Hq (Zb I1.out GX.out (by simp))
         have O6:=Hq (Yv IO.out GX.out)
         generalize wr.alloc (.cells #[.int .i64 op,.int .i64 (m:Int)] 49)=w6 at *
         have y2:=Cq _ _ 2 _ _ _ B2.out
         have yf:=Cq _ _ 3 _ _ _ BF.out
         have yx:=Cq _ _ 1 _ _ _ XX.out
         have y3:=F3.out
         have yk:=K1.out
         have z2:=(Gs B2.out)
         have zf:=(Gs BF.out)
         have zx:=(Gs XX.out)
         have zk:=LK.out
         have zF:=LF.out
         generalize hmi:(m:Int)=mi at *
         have HMI:=Hq hmi
         clear hmi
         go_upto_region 9 with fail
         rename (∀ (a:Act) (w:World),Code.wp _ _ _ a w->_)=>hK
         refine Je (n:=15) (J:=fun a0 l a1 w1=>∃ ei9,RJ a0 46 15 th9 (Zli b3 k j bf bx gF fs.length cF3 gk c.length kk b1 o1 cc mi ei9) l a1/\WY 11 14 15 [(1,0),(3,1),(3,2),(4,3),(5,4),(8,7),(10,9),(11,8),(11,10),(12,5),(12,6),(13,12),(14,13),(14,11)] (w6.drew) (fun W'=>w6.grownBy W' none) (fun W'=>w6.grownBy W' none/\ei9=((Zhk c m:Nat):Int)) (fun W'=>∃ w7:World,W'=w7.setCell ⟨gk,j*2+1,none⟩ (.int .i64 ei9)/\w6.grownBy w7 none/\ei9=((Zhk c m:Nat):Int)) l w1) (by kernel_rfl) rfl (Zai (by kernel_rfl)) (fun l a1 w1 h=>by obtain ⟨_,_,h⟩:=h;exact h.sz) ⟨0,Jd rfl,Zld (Ze (Zc w6 none))⟩ ?step ?fin
         case step =>
          intro l a1 w' i hJJ hi hin
          obtain ⟨ei9,hJ,hW⟩:=hJJ
          have hun:l.getD i false=false:=getD_both (mem_ready.1 hi).1
          have hns:=Ybp hW hin hun
          have hb:=hW.b hns
          have l0:=Nat.lt_of_lt_of_le z2 hb.size
          have l1:=Nat.lt_of_lt_of_le zf hb.size
          have l2:=Nat.lt_of_lt_of_le zx hb.size
          have l3:=Nat.lt_of_lt_of_le zF hb.size
          rcases Yfk i hin with rfl|rfl|rfl|rfl|rfl|rfl|rfl|rfl|rfl|rfl|rfl|rfl|rfl|rfl|rfl
          · have e3:a1.tmps.getD 3 undef = .pointer (some ⟨b3,0,none⟩):=hJ.un 3 (fun i hi _=>Zmc 3 (by decide) i hi)
            exact Zj (Zo hW hJ rfl (by rfl) rfl (by decide) (by decide) (Zda _ (by decide)) (w':=w') (by simp [execOp,resolve,invoke,builtin,Act.eval,e3,hlt,hlj,l0,l1,l2,l3,go_sem,Zli]) (Yi hW (by decide) hun (by decide) (by decide) (Zr _ hi (by kernel_rfl)))) (fun a9 w9 h9=>⟨ei9,h9⟩)
          · have e29:a1.tmps.getD 29 undef = .pointer (some ⟨b3,2,none⟩):=(Zu hJ hi 0 (by kernel_rfl))
            have h0:=hb.cell y2 (by simp)
            exact Zj (Zo hW hJ rfl (by rfl) rfl (by decide) (by decide) (Zda _ (by decide)) (w':=w') (by simp [execOp,resolve,invoke,builtin,Act.eval,e29,h0,hlt,hlj,l0,l1,l2,l3,go_sem,Zli]) (Yi hW (by decide) hun (by decide) (by decide) (Zr _ hi (by kernel_rfl)))) (fun a9 w9 h9=>⟨ei9,h9⟩)
          · have e4:a1.tmps.getD 4 undef = .int .i64 k:=hJ.un 4 (fun i hi _=>Zmc 4 (by decide) i hi)
            exact Zj (Zo hW hJ rfl (by rfl) rfl (by decide) (by decide) (Zda _ (by decide)) (w':=w') (by simp [execOp,resolve,invoke,builtin,Act.eval,e4,hlt,hlj,l0,l1,l2,l3,go_sem,Zli]) (Yi hW (by decide) hun (by decide) (by decide) (Zr _ hi (by kernel_rfl)))) (fun a9 w9 h9=>⟨ei9,h9⟩)
          · have e30:a1.tmps.getD 30 undef = .slice (some ⟨gF,0,none⟩) fs.length cF3:=(Zu hJ hi 1 (by kernel_rfl))
            have e31:a1.tmps.getD 31 undef = .int .i64 k:=(Zu hJ hi 2 (by kernel_rfl))
            exact Zj (Zo hW hJ rfl (by rfl) rfl (by decide) (by decide) (Zda _ (by decide)) (w':=w') (by first|(simp [execOp,resolve,invoke,builtin,Act.eval,e30,e31,hlt,hlj,l0,l1,l2,l3,go_sem,Zli];done)|(simp [execOp,resolve,invoke,builtin,Act.eval,e30,e31,hlt,hlj,l0,l1,l2,l3,go_sem,Zli];omega)|(simp [execOp,resolve,invoke,builtin,Act.eval,e30,e31,hlt,hlj,l0,l1,l2,l3,go_sem,Zli];intro h;omega)|(simp [execOp,resolve,invoke,builtin,Act.eval,e30,e31,hlt,hlj,l0,l1,l2,l3,go_sem,Zli];intros;omega)) (Yi hW (by decide) hun (by decide) (by decide) (Zr _ hi (by kernel_rfl)))) (fun a9 w9 h9=>⟨ei9,h9⟩)
          · have e32:a1.tmps.getD 32 undef = .pointer (some ⟨gF,k*4,none⟩):=(Zu hJ hi 3 (by kernel_rfl))
            exact Zj (Zo hW hJ rfl (by rfl) rfl (by decide) (by decide) (Zda _ (by decide)) (w':=w') (by simp [execOp,resolve,invoke,builtin,Act.eval,e32,hlt,hlj,l0,l1,l2,l3,go_sem,Zli]) (Yi hW (by decide) hun (by decide) (by decide) (Zr _ hi (by kernel_rfl)))) (fun a9 w9 h9=>⟨ei9,h9⟩)
          · have e33:a1.tmps.getD 33 undef = .pointer (some ⟨gF,k*4+3,none⟩):=(Zu hJ hi 4 (by kernel_rfl))
            have h0:=hb.cell y3 (by simp)
            exact Zj (Zo hW hJ rfl (by rfl) rfl (by decide) (by decide) (Zda _ (by decide)) (w':=w') (by simp [execOp,resolve,invoke,builtin,Act.eval,e33,h0,hlt,hlj,l0,l1,l2,l3,go_sem,Zli]) (Yi hW (by decide) hun (by decide) (by decide) (Zr _ hi (by kernel_rfl)))) (fun a9 w9 h9=>⟨ei9,h9⟩)
          · have e6:a1.tmps.getD 6 undef = .int .i64 j:=hJ.un 6 (fun i hi _=>Zmc 6 (by decide) i hi)
            exact Zj (Zo hW hJ rfl (by rfl) rfl (by decide) (by decide) (Zda _ (by decide)) (w':=w') (by simp [execOp,resolve,invoke,builtin,Act.eval,e6,hlt,hlj,l0,l1,l2,l3,go_sem,Zli]) (Yi hW (by decide) hun (by decide) (by decide) (Zr _ hi (by kernel_rfl)))) (fun a9 w9 h9=>⟨ei9,h9⟩)
          · have e5:a1.tmps.getD 5 undef = .pointer (some ⟨bf,0,none⟩):=hJ.un 5 (fun i hi _=>Zmc 5 (by decide) i hi)
            exact Zj (Zo hW hJ rfl (by rfl) rfl (by decide) (by decide) (Zda _ (by decide)) (w':=w') (by simp [execOp,resolve,invoke,builtin,Act.eval,e5,hlt,hlj,l0,l1,l2,l3,go_sem,Zli]) (Yi hW (by decide) hun (by decide) (by decide) (Zr _ hi (by kernel_rfl)))) (fun a9 w9 h9=>⟨ei9,h9⟩)
          · have e36:a1.tmps.getD 36 undef = .pointer (some ⟨bf,3,none⟩):=(Zu hJ hi 7 (by kernel_rfl))
            have h0:=hb.cell yf (by simp)
            exact Zj (Zo hW hJ rfl (by rfl) rfl (by decide) (by decide) (Zda _ (by decide)) (w':=w') (by simp [execOp,resolve,invoke,builtin,Act.eval,e36,h0,hlt,hlj,l0,l1,l2,l3,go_sem,Zli]) (Yi hW (by decide) hun (by decide) (by decide) (Zr _ hi (by kernel_rfl)))) (fun a9 w9 h9=>⟨ei9,h9⟩)
          · have e7:a1.tmps.getD 7 undef = .pointer (some ⟨bx,0,none⟩):=hJ.un 7 (fun i hi _=>Zmc 7 (by decide) i hi)
            exact Zj (Zo hW hJ rfl (by rfl) rfl (by decide) (by decide) (Zda _ (by decide)) (w':=w') (by simp [execOp,resolve,invoke,builtin,Act.eval,e7,hlt,hlj,l0,l1,l2,l3,go_sem,Zli]) (Yi hW (by decide) hun (by decide) (by decide) (Zr _ hi (by kernel_rfl)))) (fun a9 w9 h9=>⟨ei9,h9⟩)
          · have e38:a1.tmps.getD 38 undef = .pointer (some ⟨bx,1,none⟩):=(Zu hJ hi 9 (by kernel_rfl))
            have h0:=hb.cell yx (by simp)
            exact Zj (Zo hW hJ rfl (by rfl) rfl (by decide) (by decide) (Zda _ (by decide)) (w':=w') (by simp [execOp,resolve,invoke,builtin,Act.eval,e38,h0,hlt,hlj,l0,l1,l2,l3,go_sem,Zli]) (Yi hW (by decide) hun (by decide) (by decide) (Zr _ hi (by kernel_rfl)))) (fun a9 w9 h9=>⟨ei9,h9⟩)
          · have e37:a1.tmps.getD 37 undef = .slice (some ⟨b1,o1,none⟩) c.length cc:=(Zu hJ hi 8 (by kernel_rfl))
            have e39:a1.tmps.getD 39 undef = .int .i64 mi:=(Zu hJ hi 10 (by kernel_rfl))
            have hw0:=hW.h0 hun
            subst hw0
            refine Jb rfl (by rfl) (by simp [execOp,resolve,invoke,Act.eval,e37,e39,go_sem]) (Calls.mono (EN.out w6.drew (Ze GX.out)) (fun e w2 he => ?_))
            obtain ⟨he1,g6⟩:=he
            obtain ⟨ei92,hei92⟩:∃ x:Int,x=((Zhk c m:Nat):Int):=⟨_,rfl⟩
            rw [<- hei92] at he1
            subst he1
            have g7:w6.grownBy w2 none:=Za (Ze (Zc w6 none)) g6
            refine ⟨_,rfl,ei92,?_,Zqb hW (by decide) hun (by decide) (Zr _ hi (by kernel_rfl)) (g7) (⟨g7,hei92⟩)⟩
            exact Zch (val:=Zli b3 k j bf bx gF fs.length cF3 gk c.length kk b1 o1 cc mi ei92) (Zbe hJ (Yxy l hun)) (by decide) (by decide) (Zda _ (by decide))
          · have e34:a1.tmps.getD 34 undef = .slice (some ⟨gk,0,none⟩) c.length kk:=(Zu hJ hi 5 (by kernel_rfl))
            have e35:a1.tmps.getD 35 undef = .int .i64 j:=(Zu hJ hi 6 (by kernel_rfl))
            exact Zj (Zo hW hJ rfl (by rfl) rfl (by decide) (by decide) (Zda _ (by decide)) (w':=w') (by first|(simp [execOp,resolve,invoke,builtin,Act.eval,e34,e35,hlt,hlj,l0,l1,l2,l3,go_sem,Zli];done)|(simp [execOp,resolve,invoke,builtin,Act.eval,e34,e35,hlt,hlj,l0,l1,l2,l3,go_sem,Zli];omega)|(simp [execOp,resolve,invoke,builtin,Act.eval,e34,e35,hlt,hlj,l0,l1,l2,l3,go_sem,Zli];intro h;omega)|(simp [execOp,resolve,invoke,builtin,Act.eval,e34,e35,hlt,hlj,l0,l1,l2,l3,go_sem,Zli];intros;omega)) (Yi hW (by decide) hun (by decide) (by decide) (Zr _ hi (by kernel_rfl)))) (fun a9 w9 h9=>⟨ei9,h9⟩)
          · have e41:a1.tmps.getD 41 undef = .pointer (some ⟨gk,j*2,none⟩):=(Zu hJ hi 12 (by kernel_rfl))
            exact Zj (Zo hW hJ rfl (by rfl) rfl (by decide) (by decide) (Zda _ (by decide)) (w':=w') (by simp [execOp,resolve,invoke,builtin,Act.eval,e41,hlt,hlj,l0,l1,l2,l3,go_sem,Zli]) (Yi hW (by decide) hun (by decide) (by decide) (Zr _ hi (by kernel_rfl)))) (fun a9 w9 h9=>⟨ei9,h9⟩)
          · have e42:a1.tmps.getD 42 undef = .pointer (some ⟨gk,j*2+1,none⟩):=(Zu hJ hi 13 (by kernel_rfl))
            have e40:a1.tmps.getD 40 undef = .int .i64 ei9:=(Zu hJ hi 11 (by kernel_rfl))
            have hpw:=hW.h1 (Zl hi 11 (by kernel_rfl)) hun
            have hc9:=hb.cell yk (by simp)
            have hfz9:w'.frozen? ⟨gk,j*2+1,none⟩=false:=Ye ((KR.out).kept hb (Classical.em _)) (j*2+1)
            exact Zj (Zdn hW hJ rfl rfl rfl (by decide) (by decide) (w':=w'.setCell ⟨gk,j*2+1,none⟩ (.int .i64 ei9)) (by simp [execOp,Act.eval,e42,e40,hfz9,hc9,go_sem]) (Zlc hW (by decide) (by decide) (by decide) (fun j hj hne=>by
             rcases Yfk j hj with rfl|rfl|rfl|rfl|rfl|rfl|rfl|rfl|rfl|rfl|rfl|rfl|rfl|rfl|rfl
             · exact hW.cl (1,0) (by decide) (hW.cl (3,1) (by decide) (hW.cl (4,3) (by decide) (hW.cl (5,4) (by decide) (hW.cl (12,5) (by decide) (hW.cl (13,12) (by decide) (Zl hi 13 (by kernel_rfl)))))))
             · exact hW.cl (3,1) (by decide) (hW.cl (4,3) (by decide) (hW.cl (5,4) (by decide) (hW.cl (12,5) (by decide) (hW.cl (13,12) (by decide) (Zl hi 13 (by kernel_rfl))))))
             · exact hW.cl (3,2) (by decide) (hW.cl (4,3) (by decide) (hW.cl (5,4) (by decide) (hW.cl (12,5) (by decide) (hW.cl (13,12) (by decide) (Zl hi 13 (by kernel_rfl))))))
             · exact hW.cl (4,3) (by decide) (hW.cl (5,4) (by decide) (hW.cl (12,5) (by decide) (hW.cl (13,12) (by decide) (Zl hi 13 (by kernel_rfl)))))
             · exact hW.cl (5,4) (by decide) (hW.cl (12,5) (by decide) (hW.cl (13,12) (by decide) (Zl hi 13 (by kernel_rfl))))
             · exact hW.cl (12,5) (by decide) (hW.cl (13,12) (by decide) (Zl hi 13 (by kernel_rfl)))
             · exact hW.cl (12,6) (by decide) (hW.cl (13,12) (by decide) (Zl hi 13 (by kernel_rfl)))
             · exact hW.cl (8,7) (by decide) (hW.cl (11,8) (by decide) (Zl hi 11 (by kernel_rfl)))
             · exact hW.cl (11,8) (by decide) (Zl hi 11 (by kernel_rfl))
             · exact hW.cl (10,9) (by decide) (hW.cl (11,10) (by decide) (Zl hi 11 (by kernel_rfl)))
             · exact hW.cl (11,10) (by decide) (Zl hi 11 (by kernel_rfl))
             · exact Zl hi 11 (by kernel_rfl)
             · exact hW.cl (13,12) (by decide) (Zl hi 13 (by kernel_rfl))
             · exact Zl hi 13 (by kernel_rfl)
             · exact absurd rfl hne) (Zr _ hi (by kernel_rfl)) (⟨w',rfl,hpw.1,hpw.2⟩))) (fun a9 w9 h9=>⟨ei9,h9⟩)
         intro l a1 w9 hJJ hl
         obtain ⟨ei9,hJ,hW⟩:=hJJ
         obtain ⟨w7,rfl,g7,hei⟩:=hW.h2 (hl 14 (by decide))
         have hput:=Zag hJ rfl hl (fun i j h1 h2 h3=>Zda j h2 i h1 h3)
         subst hput
         have GN:=Hq (Zd (b:=gk) (o:=j*2+1) (v := .int .i64 ei9) (Za G6.out g7) hbs)
         have N1:=Hq (Zb (Zb H1.out g7 (by simp)) (Zh w7 gk (j*2+1) (.int .i64 ei9)) (by intro e;injection e with e;exact nk1 e))
         have N3:=Hq (Zb (Zb B2.out g7 (by simp)) (Zh w7 gk (j*2+1) (.int .i64 ei9)) (by intro e;injection e with e;exact nk3 e))
         have NF:=Hq (Zb (Zb BF.out g7 (by simp)) (Zh w7 gk (j*2+1) (.int .i64 ei9)) (by intro e;injection e with e;exact ko e.symm))
         have NO:=Hq (Yta (ei:=ei9) (x:=mi) (Yv O6.out g7) HF.out HV.out (by have:=KN.out;rw [this];simp only [HJ2.out,if_true];congr 2;unfold Zkw;rw [show mi.toNat=m by rw [<- HMI.out];simp];exact hei.symm) FS.out)
         clear hJ hW hl g7 hei
         refine hK _ _ ?_
         simp only [Zay,th9,Zli,Act.put,List.setIfInBounds_toArray,List.set_cons_zero,List.set_cons_succ]
         clear hK y2 yf yx y3 yk z2 zf zx zk zF
         go_wp2
         go_roundw
         case rel=>exact ⟨j+1,by go_num,by omega,GN.out,N1.out,N3.out,NF.out,NO.out⟩
         case measure=>simp [intOf];omega
     · have hjn:j=c.length:=by omega
       subst hjn
       have OE:=Hq (show Zas wr w.heap.size (.slice pD dl.length cD) (.slice (some ⟨gF,0,none⟩) fs.length cF3) dl (Zof fs (k+1)) cv by
        rw [Yfj HF.out,show Yh (a,lo,r,c).2.2.2=reK (Zkw c) c c.length from (Yml c).symm]
        exact ho)
       clear hg h1 h3 hbf ho
       go_wp2
       go_roundw
       case rel=>exact ⟨k+1,by go_num,by omega,IG.out,I1.out,I3.out,OE.out⟩
       case measure=>simp [intOf];omega
  · have hkn:k=fs.length:=by omega
    subst hkn
    have OE:=Hq (show Zas wr w.heap.size (.slice pD dl.length cD) (.slice pF3 fs.length cF3) dl (Xp fs) cv by rw [<- Ymk];exact ho)
    have v0:=Cq _ _ 0 _ _ _ HX1.out
    have v1:=Cq _ _ 1 _ _ _ HX1.out
    have v2:=Cq _ _ 2 _ _ _ HX1.out
    have z0:=frozen_of_row _ _ 0 _ _ HX1.out
    have z1:=frozen_of_row _ _ 1 _ _ HX1.out
    have z2:=frozen_of_row _ _ 2 _ _ HX1.out
    have lv:=(Gs HX1.out)
    have u0:=Cq _ _ 0 _ _ _ HX3.out
    have u1:=Cq _ _ 1 _ _ _ HX3.out
    have u2:=Cq _ _ 2 _ _ _ HX3.out
    have lu:=(Gs HX3.out)
    clear hg hx1 hx3 ho
    go_wp2
    refine bodyPost_ret (v := .agg #[.int .i64 mem,.slice pD dl.length cD,.slice pF3 fs.length cF3]) ?_ rfl ⟨_,_,cv,rfl,Zd (Zd (Zd HG.out (by omega)) (by omega)) (by omega),Jh OE.out HX1.out⟩
    rw [Yq rfl]
    go_simp
structure Zhx (w:World) (fs:List FnP) (F:Value) (gH cH gV:Nat) (gh:Nat->Nat) (hs:Nat->List Int) (V:List Bool):Prop where
 f:∃ (q1 q2:Option Addr) (n1 n2 k1 k2:Nat) (ce co:Int),F = .agg #[.slice (some ⟨gH,0,none⟩) fs.length cH,.slice q1 n1 k1,.slice q2 n2 k2,.slice (some ⟨gV,0,none⟩) fs.length fs.length,.int .i64 ce,.int .i64 co]
 h:∀ (f:Nat) (fn:FnP),fs[f]? = some fn->w.cell? ⟨gH,f,none⟩=some (.slice (some ⟨gh f,0,none⟩) fn.2.2.2.length fn.2.2.2.length)/\∀ i:Nat,i<fn.2.2.2.length->w.cell? ⟨gh f,i,none⟩=some (.int .i64 ((hs f).getD i 0))
 v:∀ f:Nat,f<fs.length->w.cell? ⟨gV,f,none⟩=some (.bool (V.getD f false))
 l:∀ (f:Nat) (fn:FnP),fs[f]? = some fn->(hs f).length=fn.2.2.2.length
theorem Zcj {w w':World} {fs:List FnP} {F:Value} {gH cH gV:Nat} {gh:Nat->Nat} {hs:Nat->List Int} {V:List Bool} (h:Zhx w fs F gH cH gV gh hs V) (g:w.grownBy w' none):Zhx w' fs F gH cH gV gh hs V :=
 ⟨h.f,fun f fn hf=>⟨g.cell (h.h f fn hf).1 (by simp),fun i hi=>g.cell ((h.h f fn hf).2 i hi) (by simp)⟩,fun f hf=>g.cell (h.v f hf) (by simp),h.l⟩
theorem Yyb (bx bf gH gh f i nf nh cH ch:Nat) (hv:Int) (w:World) (c0:w.cell? ⟨bx,0,none⟩=some (.slice (some ⟨gH,0,none⟩) nf cH)) (c1:w.cell? ⟨bf,0,none⟩=some (.int .i64 f)) (c2:w.cell? ⟨gH,f,none⟩=some (.slice (some ⟨gh,0,none⟩) nh ch)) (c3:w.cell? ⟨gh,i,none⟩=some (.int .i64 hv)) (hf:f<nf) (hi:i<nh) :
 Calls Try.prog 48 #[.int .i64 i,.pointer (some ⟨bx,0,none⟩),.pointer (some ⟨bf,0,none⟩)] w fun e w'=>e = .returned (.bool (decide (0<=hv)))/\w=w':=by
 have l0:=World.block_lt_of_cell? _ _ c0
 have l1:=World.block_lt_of_cell? _ _ c1
 have l2:=World.block_lt_of_cell? _ _ c2
 have l3:=World.block_lt_of_cell? _ _ c3
 have hf2:(f:Int)<(nf:Int):=by omega
 have hi2:(i:Int)<(nh:Int):=by omega
 simp only [] at l0 l1 l2 l3
 go_enter Try.func48,Try.ntmps48
 go_wp2
 go_ret
 exact ⟨rfl,rfl⟩
theorem Yya (bx gV i nf cV:Nat) (b:Bool) (w:World) (c0:w.cell? ⟨bx,3,none⟩=some (.slice (some ⟨gV,0,none⟩) nf cV)) (c1:w.cell? ⟨gV,i,none⟩=some (.bool b)) (hi:i<nf) :
 Calls Try.prog 51 #[.int .i64 i,.pointer (some ⟨bx,0,none⟩)] w fun e w'=>e = .returned (.bool b)/\w=w':=by
 have l0:=World.block_lt_of_cell? _ _ c0
 have l1:=World.block_lt_of_cell? _ _ c1
 have hi2:(i:Int)<(nf:Int):=by omega
 simp only [] at l0 l1
 go_enter Try.func51,Try.ntmps51
 go_wp2
 go_ret
 exact ⟨rfl,rfl⟩
theorem Ykc {l:List Int} {j:Nat} (hj:j<l.length) (h:l.getD j 0<0) (hb:∀ i,i<j->0<=l.getD i 0):l.findIdx? (fun h=>decide (h<0))=some j:=by
 rw [List.findIdx?_eq_some_iff_getElem]
 refine ⟨hj,?_,fun i hi => ?_⟩
 · rw [List.getD_eq_getElem?_getD,List.getElem?_eq_getElem hj] at h
   simpa using h
 · have:=hb i hi
   rw [List.getD_eq_getElem?_getD,List.getElem?_eq_getElem (by omega)] at this
   simpa using this
theorem Ykd {l:List Int} (hb:∀ i,i<l.length->0<=l.getD i 0):l.findIdx? (fun h=>decide (h<0))=none:=by
 rw [List.findIdx?_eq_none_iff]
 intro x hx
 obtain ⟨i,hi,e⟩:=List.getElem_of_mem hx
 have:=hb i hi
 rw [List.getD_eq_getElem?_getD,List.getElem?_eq_getElem hi,e] at this
 simpa using this
theorem Yqa (P:Value) (m0:Int) (p1 p2:Option Addr) (n1 n2 k1 k2:Nat) (fs:List FnP) (F:Value) (gH cH gV:Nat) (gh:Nat->Nat) (hs:Nat->List Int) (V:List Bool) (w:World) (hP:P = .agg #[.int .i64 m0,.slice p1 n1 k1,.slice p2 n2 k2]) (hF:Zhx w fs F gH cH gV gh hs V) (hn:fs.length<=64) (hc:∀ f∈fs,f.2.2.2.length<=4096) :
 Calls Try.prog 30 #[P,F] w (Ybl w (Zbk hs V fs.length 0)):=by
 subst hP
 obtain ⟨q1,q2,m1,m2,j1,j2,ce,co,rfl⟩:=hF.f
 have FA:=Hq hF
 have hni:(fs.length:Int)<=64:=by omega
 have HC:=Hq hc
 have GZ:=Xl w (.cells #[.int .i64 m0,.slice p1 n1 k1,.slice p2 n2 k2] 25) (.cells #[.slice (some ⟨gH,0,none⟩) fs.length cH,.slice q1 m1 j1,.slice q2 m2 j2,.slice (some ⟨gV,0,none⟩) fs.length fs.length,.int .i64 ce,.int .i64 co] 35) (.cells #[.int .i64 0,.int .i64 0] 37)
 have T1:=Hq GZ.2.1
 have T2:=Hq GZ.2.2
 have G0:=Hq (Xm w (.cells #[.int .i64 m0,.slice p1 n1 k1,.slice p2 n2 k2] 25) (.cells #[.slice (some ⟨gH,0,none⟩) fs.length cH,.slice q1 m1 j1,.slice q2 m2 j2,.slice (some ⟨gV,0,none⟩) fs.length fs.length,.int .i64 ce,.int .i64 co] 35) (.cells #[.int .i64 0,.int .i64 0] 37))
 clear GZ hF hc
 go_enter Try.func30,Try.ntmps30
 go_wp2
 generalize ((w.alloc (.cells #[.int .i64 m0,.slice p1 n1 k1,.slice p2 n2 k2] 25)).alloc (.cells #[.slice (some ⟨gH,0,none⟩) fs.length cH,.slice q1 m1 j1,.slice q2 m2 j2,.slice (some ⟨gV,0,none⟩) fs.length fs.length,.int .i64 ce,.int .i64 co] 35)).alloc (.cells #[.int .i64 0,.int .i64 0] 37)=w2 at *
 have x3:=Cq _ _ 3 _ _ _ T1.out
 have lx:=(Gs T1.out)
 have v0:=Cq _ _ 0 _ _ _ T2.out
 have v1:=Cq _ _ 1 _ _ _ T2.out
 have z0:=frozen_of_row _ _ 0 _ _ T2.out
 have z1:=frozen_of_row _ _ 1 _ _ T2.out
 have lv:=(Gs T2.out)
 go_loop [13] (fun i=>∃ k:Nat,i = .int .i64 k/\k<=fs.length/\Zbk hs V fs.length 0=Zbk hs V (fs.length - k) k) (fun i=>fs.length - (intOf i).toNat)
 case atStart=>exact ⟨0,rfl,Nat.zero_le _,rfl⟩
 case round =>
  obtain ⟨k,rfl,hk,he⟩:=hrel
  by_cases hlt:(k:Int)<(fs.length:Int)
  · obtain ⟨fn,hf⟩:∃ f,fs[k]? = some f:=⟨_,List.getElem?_eq_getElem (by omega)⟩
    obtain ⟨h0,h1⟩:=FA.out.h k fn hf
    have c0:=G0.out.cell h0 (by simp)
    have c1:=G0.out.cell (FA.out.v k (by omega)) (by simp)
    have l0:=World.block_lt_of_cell? _ _ c0
    have l1:=World.block_lt_of_cell? _ _ c1
    simp only [] at l0 l1
    obtain ⟨r,hr⟩:∃ r,fs.length - k=r+1:=⟨fs.length - k - 1,by omega⟩
    rw [hr,Zbk] at he
    have HR:=Hq hr
    have hl:=FA.out.l k fn hf
    have hcl:=HC.out fn (List.mem_of_getElem? hf)
    have H1:=Hq (fun i hi=>G0.out.cell (h1 i hi) (by simp))
    cases hb:V.getD k false with
    | false =>
      rw [hb] at c1
      rw [if_pos hb] at he
      have HE:=Hq he
      clear he hf h0 h1 hl hr hb
      go_wp2
      refine bodyPost_ret (v:=Zhq (some (k,0))) ?_ rfl ⟨by rw [HE.out],Zd (Zd G0.out (by omega)) (by omega)⟩
      rw [results_cell_tmp rfl]
      unfold Zhq
      go_simp
    | true =>
      rw [hb] at c1
      rw [if_neg (by rw [hb];decide)] at he
      have HE:=Hq he
      have HL:=Hq hl
      clear he hf h0 h1 hl hr hb
      generalize hnn:fn.2.2.2.length=nn at *
      have hnni:(nn:Int)<=4096:=by omega
      clear hnn
      go_wp2
      go_loop [28] (fun i=>∃ j:Nat,i = .int .i64 j/\j<=nn/\∀ i,i<j->0<=(hs k).getD i 0) (fun i=>nn - (intOf i).toNat)
      case atStart=>exact ⟨0,rfl,Nat.zero_le _,fun i h=>absurd h (Nat.not_lt_zero _)⟩
      case round =>
       obtain ⟨j,rfl,hj,hno⟩:=hrel
       have HN:=Hq hno
       clear hno
       by_cases hlj:(j:Int)<(nn:Int)
       · have d0:=H1.out j (by omega)
         have ld:=World.block_lt_of_cell? _ _ d0
         simp only [] at ld
         by_cases hneg:(hs k).getD j 0<0
         · have HU:=Hq (show Zbk hs V fs.length 0=some (k,j) by rw [HE.out,Ykc (by rw [HL.out];omega) hneg HN.out])
           generalize (hs k).getD j 0=hv at *
           go_wp2
           refine bodyPost_ret (v:=Zhq (some (k,j))) ?_ rfl ⟨by rw [HU.out],Zd (Zd G0.out (by omega)) (by omega)⟩
           rw [results_cell_tmp rfl]
           unfold Zhq
           go_simp
         · have HN2:=Hq (show ∀ i,i<j+1->0<=(hs k).getD i 0 from fun i hi=>by
            by_cases e:i=j
            · subst e;omega
            · exact HN.out i (by omega))
           generalize (hs k).getD j 0=hv at *
           go_wp2
           go_round
           case rel=>exact ⟨j+1,by go_num,by omega,HN2.out⟩
           case measure=>simp [intOf];omega
       · have hjn:j=nn:=by omega
         have HU:=Hq (show Zbk hs V fs.length 0=Zbk hs V (fs.length - (k+1)) (k+1) by
          rw [HE.out,Ykd (fun i hi=>HN.out i (by rw [HL.out] at hi;omega))]
          have:=HR.out
          rw [show fs.length - (k+1)=r by omega])
         go_wp2
         go_round
         case rel=>exact ⟨k+1,by go_num,by omega,HU.out⟩
         case measure=>simp [intOf];omega
  · have hkn:k=fs.length:=by omega
    have HU:=Hq (show Zbk hs V fs.length 0=none by rw [he,hkn,Nat.sub_self];rfl)
    clear he
    go_wp2
    refine bodyPost_ret (v:=Zhq none) ?_ rfl ⟨by rw [HU.out],Zd (Zd G0.out (by omega)) (by omega)⟩
    rw [results_cell_tmp rfl]
    unfold Zhq
    go_simp
def hB (h:List Int) (n:Nat):Bool:=decide (0<=h.getD n 0)
def vB (V:List Bool) (f:Nat):Bool:=V.getD f false
theorem Zua {g g':Int->Int} {c:List Ins} (h:∀ x∈c,jmp x.1=true->g x.2=g' x.2):reJ g c=reJ g' c:=by
 unfold reJ
 refine List.map_congr_left fun x hx => ?_
 by_cases e:jmp x.1=true
 · rw [if_pos e,if_pos e,h x hx e]
 · rw [if_neg e,if_neg e]
theorem Yom (b:Nat->Bool) (n i:Nat) (h:i<=n):(Zbg b (n+1) (n+1)).getD i 0=Yn b i:=by
 unfold Zbg
 rw [List.getD_eq_getElem?_getD,List.getElem?_map,List.getElem?_range (by omega)]
 simp
 omega
theorem Zer {α:Type} {l:List α} {b:Nat->Bool} {k:Nat} {x:α} (h:x∈Xk l b k):x∈l:=by
 unfold Xk at h
 obtain ⟨i,_,hi⟩:=List.mem_filterMap.1 h
 by_cases e:b i=true
 · rw [if_pos e] at hi;exact List.mem_of_getElem? hi
 · rw [if_neg e] at hi;cases hi
theorem Zfh {α:Type} (l:List α) (b:Nat->Bool):∀ (k:Nat),k<=l.length->∀ (i:Nat) (x:α),(Xk l b k)[i]? = some x->∃ j,j<k/\b j=true/\l[j]? = some x/\Yn b j=i
 | 0,_,i,x,h=>by simp [Xk] at h
 | k+1,hk,i,x,h=>by
   obtain ⟨y,hy⟩:∃ y,l[k]? = some y:=⟨_,List.getElem?_eq_getElem (by omega)⟩
   rw [Jy l b k y hy] at h
   have hl:=Yk l b k (by omega)
   by_cases hi:i<(Xk l b k).length
   · rw [List.getElem?_append_left hi] at h
     obtain ⟨j,h1,h2,h3,h4⟩:=Zfh l b k (by omega) i x h
     exact ⟨j,by omega,h2,h3,h4⟩
   · rw [List.getElem?_append_right (by omega)] at h
     cases hb:b k with
     | false=>rw [hb] at h;simp at h
     | true =>
       rw [hb] at h
       simp only [if_true] at h
       have h0:=(List.getElem?_eq_some_iff.1 h).1
       simp at h0
       have:i=(Xk l b k).length:=by omega
       subst this
       rw [Nat.sub_self] at h
       simp at h
       subst h
       exact ⟨k,by omega,hb,hy,hl.symm⟩
theorem Ziz {α:Type} (l:List α) (b:Nat->Bool):∀ (k:Nat),k<=l.length->∀ (j:Nat) (x:α),j<k->b j=true->l[j]? = some x->(Xk l b k)[Yn b j]? = some x
 | 0,_,j,x,h,_,_=>absurd h (Nat.not_lt_zero _)
 | k+1,hk,j,x,h,hb,hx=>by
   obtain ⟨y,hy⟩:∃ y,l[k]? = some y:=⟨_,List.getElem?_eq_getElem (by omega)⟩
   have hl:=Yk l b k (by omega)
   rw [Jy l b k y hy]
   by_cases e:j=k
   · subst e
     rw [List.getElem?_append_right (by omega),hl,Nat.sub_self,hb]
     rw [hy] at hx
     simpa using hx
   · have h1:=Ziz l b k (by omega) j x (by omega) hb hx
     rw [List.getElem?_append_left (List.getElem?_eq_some_iff.1 h1).1]
     exact h1
theorem Zow (b:Nat->Bool):∀ {i j:Nat},i<=j->Yn b i<=Yn b j
 | i,0,h=>by rw [Nat.le_zero.1 h];exact Nat.le_refl _
 | i,j+1,h=>by
   by_cases e:i=j+1
   · rw [e];exact Nat.le_refl _
   · have:=Zow b (show i<=j by omega)
     simp only [Yn]
     omega
theorem Zhb {b:Nat->Bool} {i j:Nat} (h:i<j) (hb:b i=true):Yn b i<Yn b j:=by
 have:=Zow b (show i+1<=j from h)
 simp only [Yn,hb,if_true] at this
 omega
def Jf (c:List Ins) (h:List Int):List Ins:=reJ (fun a=>(Yn (hB h) a.toNat:Nat)) (Xk c (hB h) c.length)
def Zgc (fs:List FnP) (hs:Nat->List Int) (k:Nat):List FnP:=fs.mapIdx fun i f=>if i<k then Zv f (Jf f.2.2.2 (hs i)) else f
theorem Xh (fs:List FnP) (hs:Nat->List Int) (k:Nat):(Zgc fs hs k).length=fs.length:=by simp [Zgc]
theorem Zwd (fs:List FnP) (hs:Nat->List Int):Zgc fs hs 0=fs:=by
 apply List.ext_getElem?
 intro i
 simp [Zgc,List.getElem?_mapIdx]
theorem Zfm {fs:List FnP} {hs:Nat->List Int} {k i:Nat} {f:FnP} (h:fs[i]? = some f):(Zgc fs hs k)[i]? = some (if i<k then Zv f (Jf f.2.2.2 (hs i)) else f):=by
 simp [Zgc,List.getElem?_mapIdx,h]
theorem Zwf {fs:List FnP} {hs:Nat->List Int} {k:Nat} {f:FnP} (h:fs[k]? = some f):Zgc fs hs (k+1)=(Zgc fs hs k).set k (Zv f (Jf f.2.2.2 (hs k))):=by
 have hk:=(List.getElem?_eq_some_iff.1 h).1
 apply List.ext_getElem?
 intro i
 by_cases e:i=k
 · subst e
   rw [List.getElem?_set_self (by rw [Xh];exact hk),Zfm h,if_pos (by omega)]
 · rw [List.getElem?_set_ne (Ne.symm e)]
   cases hf:fs[i]? with
   | none =>
     have:fs.length<=i:=by rw [List.getElem?_eq_none_iff] at hf;exact hf
     rw [List.getElem?_eq_none (by rw [Xh];exact this),List.getElem?_eq_none (by rw [Xh];exact this)]
   | some g =>
     rw [Zfm hf,Zfm hf]
     by_cases h1:i<k
     · rw [if_pos h1,if_pos (by omega)]
     · rw [if_neg h1,if_neg (by omega)]
def Zal (V:List Bool) (c:List Ins):List Ins:=c.map fun x=>if x.1=17 then (x.1,(Yn (vB V) x.2.toNat:Nat)) else x
def Zaa (V:List Bool) (c:List Ins) (k:Nat):List Ins:=Zal V (c.take k)++c.drop k
theorem Zji (V:List Bool) (c:List Ins) (k:Nat):(Zaa V c k).length=c.length:=by simp [Zaa,Zal];omega
theorem Znv {V:List Bool} {c:List Ins} {k:Nat} {x:Ins} (h:c[k]? = some x):(Zaa V c k)[k]? = some x:=by
 have hk:=(List.getElem?_eq_some_iff.1 h).1
 unfold Zaa Zal
 rw [List.getElem?_append_right (by simp;omega)]
 simp [Nat.min_eq_left (by omega:k<=c.length),h]
theorem Zpv {V:List Bool} {c:List Ins} {k:Nat} {x:Ins} (h:c[k]? = some x):Zaa V c (k+1)=(Zaa V c k).set k (if x.1=17 then (x.1,((Yn (vB V) x.2.toNat:Nat):Int)) else x):=by
 have hk:=(List.getElem?_eq_some_iff.1 h).1
 have hx:x=c[k]:=by rw [List.getElem?_eq_getElem hk] at h;injection h with h;exact h.symm
 unfold Zaa Zal
 rw [List.take_succ_eq_append_getElem hk,List.map_append,List.set_append_right _ _ (by simp;omega)]
 have e:k - (List.map (fun x:Ins=>if x.fst=17 then (x.fst,((Yn (vB V) x.snd.toNat:Nat):Int)) else x) (List.take k c)).length=0:=by simp;omega
 rw [e,List.drop_eq_getElem_cons hk,List.set_cons_zero,<- hx]
 simp
theorem Ydw {V:List Bool} {c:List Ins} {k:Nat} {x:Ins} (h:c[k]? = some x) (hj:x.1≠17):Zaa V c (k+1)=Zaa V c k:=by
 rw [Zpv h,if_neg hj]
 obtain ⟨h1,h2⟩:=List.getElem?_eq_some_iff.1 (Znv (V:=V) h)
 rw [<- h2]
 exact List.set_getElem_self h1
theorem Yky (V:List Bool) (c:List Ins):Zaa V c c.length=Zal V c:=by simp [Zaa]
theorem Ydv (V:List Bool) (c:List Ins):Zaa V c 0=c:=by simp [Zaa,Zal]
def Zpw (V:List Bool) (fs:List FnP) (k:Nat):List FnP:=fs.mapIdx fun i f=>if i<k then Zv f (Zal V f.2.2.2) else f
theorem Zbn (V:List Bool) (fs:List FnP) (k:Nat):(Zpw V fs k).length=fs.length:=by simp [Zpw]
theorem Ykz (V:List Bool) (fs:List FnP):Zpw V fs 0=fs:=by
 apply List.ext_getElem?
 intro i
 simp [Zpw,List.getElem?_mapIdx]
theorem Zjj {V:List Bool} {fs:List FnP} {k i:Nat} {f:FnP} (h:fs[i]? = some f):(Zpw V fs k)[i]? = some (if i<k then Zv f (Zal V f.2.2.2) else f):=by
 simp [Zpw,List.getElem?_mapIdx,h]
theorem Yla {V:List Bool} {fs:List FnP} {k:Nat} {f:FnP} (h:fs[k]? = some f):Zpw V fs (k+1)=(Zpw V fs k).set k (Zv f (Zal V f.2.2.2)):=by
 have hk:=(List.getElem?_eq_some_iff.1 h).1
 apply List.ext_getElem?
 intro i
 by_cases e:i=k
 · subst e
   rw [List.getElem?_set_self (by rw [Zbn];exact hk),Zjj h,if_pos (by omega)]
 · rw [List.getElem?_set_ne (Ne.symm e)]
   cases hf:fs[i]? with
   | none =>
     have:fs.length<=i:=by rw [List.getElem?_eq_none_iff] at hf;exact hf
     rw [List.getElem?_eq_none (by rw [Zbn];exact this),List.getElem?_eq_none (by rw [Zbn];exact this)]
   | some g =>
     rw [Zjj hf,Zjj hf]
     by_cases h1:i<k
     · rw [if_pos h1,if_pos (by omega)]
     · rw [if_neg h1,if_neg (by omega)]
def Zam (fs:List FnP) (hs:Nat->List Int) (V:List Bool):List FnP:=(Xk (Zgc fs hs fs.length) (vB V) fs.length).map fun f=>Zv f (Zal V f.2.2.2)
theorem Yqj (V:List Bool) (fs:List FnP):Zpw V fs fs.length=fs.map fun f=>Zv f (Zal V f.2.2.2):=by
 apply List.ext_getElem?
 intro i
 cases hf:fs[i]? with
 | none=>simp [Zpw,List.getElem?_mapIdx,hf]
 | some g =>
   have:=(List.getElem?_eq_some_iff.1 hf).1
   rw [Zjj hf,if_pos this]
   simp [hf]
def Zop (fs:List FnP) (cv:List Value):List FnQ:=List.zipWith (fun f v=>(f.1,f.2.1,f.2.2.1,v)) fs cv
theorem Zvg:∀ (fs:List FnP) (cv:List Value),Zkd (Zop fs cv)=Xn fs cv
 | [],_=>by simp [Zop,Zkd,Xn]
 | _::_,[]=>by simp [Zop,Zkd,Xn]
 | f::r,v::s=>by
   have:=Zvg r s
   unfold Zop at this ⊢
   simp [Zkd,Xn,this]
theorem Zze {fs:List FnP} {cv:List Value} {i:Nat} {f:FnP} {v:Value} (hf:fs[i]? = some f) (hv:cv[i]? = some v):(Zop fs cv)[i]? = some (f.1,f.2.1,f.2.2.1,v):=by
 unfold Zop;rw [List.getElem?_zipWith,hf,hv]
theorem Zlb {fs:List FnP} {cv:List Value} (h:cv.length=fs.length):(Zop fs cv).length=fs.length:=by simp [Zop,h]
theorem Yam (fs:List FnP) (cv:List Value) (b:Nat->Bool) (h:cv.length=fs.length):∀ k,k<=fs.length->Xk (Zop fs cv) b k=Zop (Xk fs b k) (Xk cv b k)
 | 0,_=>by simp [Xk,Zop]
 | k+1,hk=>by
   obtain ⟨f,hf⟩:∃ f,fs[k]? = some f:=⟨_,List.getElem?_eq_getElem (by omega)⟩
   obtain ⟨v,hv⟩:∃ v,cv[k]? = some v:=⟨_,List.getElem?_eq_getElem (by omega)⟩
   rw [Jy _ b k _ (Zze hf hv),Jy _ b k _ hf,Jy _ b k _ hv,Yam fs cv b h k (by omega)]
   have hl:(Xk fs b k).length=(Xk cv b k).length:=by rw [Yk _ _ _ (by omega),Yk _ _ _ (by omega)]
   unfold Zop
   cases b k with
   | false=>simp
   | true=>simp [List.zipWith_append hl]
theorem Ygv {w w':World} {base base':Nat} {D F vo:Value} {dl:List Int} {fs:List FnP} {cv:List Value} {b:Nat->Bool} (h:Zas w base D F dl fs cv) (g:w.grownBy w' none) (hb:base<=base')
 (ho:w'.ownsRow base' 52 4 vo (Xk (Zop fs cv) b (Zop fs cv).length).length (Zkd (Xk (Zop fs cv) b (Zop fs cv).length))):Zas w' base D vo dl (Xk fs b fs.length) (Xk cv b fs.length):=by
 have h':=Yv h g
 have hz:=Zlb h.cl
 rw [hz,Yam fs cv b h.cl _ (Nat.le_refl _),Zvg,Zlb (by rw [Yk _ _ _ (by rw [h.cl];exact Nat.le_refl _),Yk _ _ _ (Nat.le_refl _)])] at ho
 refine ⟨h'.dt,Zz ho hb,by rw [Yk _ _ _ (by rw [h.cl];exact Nat.le_refl _),Yk _ _ _ (Nat.le_refl _)],fun k f v hf hv => ?_,fun k l v v' q hkl hv hv' hq => ?_⟩
 · obtain ⟨j,h1,h2,h3,h4⟩:=Zfh fs b _ (Nat.le_refl _) k f hf
   obtain ⟨j',h1',h2',h3',h4'⟩:=Zfh cv b _ (by rw [h.cl];exact Nat.le_refl _) k v hv
   have e:j=j':=by
    rcases Nat.lt_trichotomy j j' with e|e|e
    · have:=Zhb e h2;omega
    · exact e
    · have:=Zhb e h2';omega
   subst e
   exact h'.each j f v h3 h3'
 · obtain ⟨j,h1,h2,h3,h4⟩:=Zfh cv b _ (by rw [h.cl];exact Nat.le_refl _) k v hv
   obtain ⟨j',h1',h2',h3',h4'⟩:=Zfh cv b _ (by rw [h.cl];exact Nat.le_refl _) l v' hv'
   exact h'.dis j j' v v' q (by intro e;subst e;omega) h3 h3' hq
theorem Yjn {w:World} {base:Nat} {D:Value} {p:Option Addr} {cap:Nat} {dl:List Int} {fs:List FnP} {cv:List Value} (h:Zas w base D (.slice p fs.length cap) dl fs cv):Yqs w p (Zop fs cv):=by
 intro i x hx
 have hi:=(List.getElem?_eq_some_iff.1 hx).1
 rw [Zlb h.cl] at hi
 obtain ⟨f,hf⟩:∃ f,fs[i]? = some f:=⟨_,List.getElem?_eq_getElem hi⟩
 obtain ⟨v,hv⟩:∃ v,cv[i]? = some v:=⟨_,List.getElem?_eq_getElem (by rw [h.cl];exact hi)⟩
 rw [Zze hf hv] at hx
 injection hx with hx
 subst hx
 obtain ⟨g,cap',e,hg,hc⟩:=Zx h.fr (by omega)
 injection e with e1 e2 e3
 obtain ⟨q0,q1,q2,q3⟩:=Jj fs cv i f v hf hv
 obtain ⟨pc,kc,e4⟩:=Zp (h.each i f v hf hv)
 refine ⟨g,0,e1,hg,?_,?_,?_,?_,_,_,_,e4⟩ <;> rw [Nat.zero_add]
 · exact hc _ _ q0 (by omega)
 · exact hc _ _ q1 (by omega)
 · exact hc _ _ q2 (by omega)
 · exact hc _ _ q3 (by omega)
end Go.Proofs.Ythlkflagancdfaa.OT
