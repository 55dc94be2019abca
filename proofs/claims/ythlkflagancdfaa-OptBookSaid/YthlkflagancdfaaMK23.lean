/-
  Part of a proof: contracts of functions and lemmas, each stated by its own theorem. Conditions: as each theorem states.
-/
import Derived.Test.YthlkflagancdfaaMK21
import Derived.Test.YthlkflagancdfaaMK22
import Derived.Deep.OwnRows
import Derived.Test.YthlkflagancdfaaMK15
import Derived.Maps.AppendAt
import Derived.Deep.Cut
import Derived.Outline
import Derived.Test.YthlkflagancdfaaMK19
import Derived.Deep.LoopGhost
set_option linter.unusedSimpArgs false
set_option linter.unusedVariables false
set_option maxRecDepth 100000
set_option maxHeartbeats 16000000
namespace Go.Proofs.Ythlkflagancdfaa.CK
open Go.RowKit Go.Great Go.Maps
def Zon (fs:List FnP) (cl:Nat->List Nat) (V:List Bool):Prop:=V.length=fs.length/\∀ x,x<fs.length->(V.getD x false=true ↔ CRe (Xv fs cl) 0 x)
theorem Ylf:Try.prog.underlying 33=some (.slice 4):=by kernel_rfl
theorem Ydz:(Try.prog.info? 4).map (fun i=>(i.zero,i.size,i.bytes))=some (some (.bool false),1,1):=by kernel_rfl
theorem Ydn {w:World} {g B n:Nat} (h:w.heap[g]? = some (.cells (madeCells #[.bool false] n) 4 (0,0))) (hb:B<=g) (hn:n<=maxLen):w.ownsRow B 4 1 (.slice (some ⟨g,0,none⟩) n n) n ((List.replicate n false).map Value.bool):=by
 refine ⟨by simp,.inr ⟨g,n,_,rfl,hb,h,Nat.le_refl _,hn,by simp [madeCells],?_⟩⟩
 have e:(madeCells #[.bool false] n).toList=List.replicate n (.bool false):=by
  refine List.ext_getElem (by simp [madeCells]) fun i h1 h2 => ?_
  simp [madeCells,Nat.mod_one]
 rw [e]
 simp
theorem Yio {n:Nat} (x:Nat):(List.replicate n false).getD x false=false:=by
 rw [List.getD_eq_getElem?_getD,List.getElem?_replicate];split <;> rfl
theorem Yii {w:World} {bx nf gH gT gL cH cT cL:Nat} (hx:w.heap[bx]? = some (.cells #[.slice (some ⟨gH,0,none⟩) nf cH,.slice (some ⟨gT,0,none⟩) nf cT,.slice (some ⟨gL,0,none⟩) nf cL,.slice none 0 0,.int .i64 0,.int .i64 0] 35 (0,0))) (hl:bx<w.heap.size) (hn:nf<=64) :
 LvW w ((w.setCell ⟨bx,3,none⟩ (.slice (some ⟨w.heap.size,0,none⟩) nf nf)).alloc (.cells (madeCells #[.bool false] nf) 4)).drew bx w.heap.size nf (.slice (some ⟨gH,0,none⟩) nf cH) (.slice (some ⟨gT,0,none⟩) nf cT) (.slice (some ⟨gL,0,none⟩) nf cL) (.int .i64 0) (.int .i64 0) (List.replicate nf false):=by
 have h1:=Zg (o:=3) (v := .slice (some ⟨w.heap.size,0,none⟩) nf nf) hx
 have h2:=heap_alloc_new (w.setCell ⟨bx,3,none⟩ (.slice (some ⟨w.heap.size,0,none⟩) nf nf)) (.cells (madeCells #[.bool false] nf) 4)
 rw [World.size_setCell] at h2
 refine ⟨Ze (Za (Zh w bx 3 _) (Ga _ _ _)),Zb h1 (Ze (Ga _ _ none)) (by simp),?_⟩
 exact Ydn (w:=((w.setCell ⟨bx,3,none⟩ (.slice (some ⟨w.heap.size,0,none⟩) nf nf)).alloc (.cells (madeCells #[.bool false] nf) 4)).drew) h2 (Nat.le_refl _) (by unfold maxLen;omega)
theorem Ycx {w0 w:World} {bx gV n:Nat} {x0 x1 x2 x4 x5:Value} {V:List Bool} (H:LvW w0 w bx gV n x0 x1 x2 x4 x5 V) (hx:bx<w0.heap.size) (y4 y5:Value) :
 LvW w0 ((w.setCell ⟨bx,4,none⟩ y4).setCell ⟨bx,5,none⟩ y5).drew bx gV n x0 x1 x2 y4 y5 V/\LvW w0 ((w.setCell ⟨bx,5,none⟩ y5).setCell ⟨bx,4,none⟩ y4).drew bx gV n x0 x1 x2 y4 y5 V:=by
 have hl:=Yad H
 have nn:(Value.slice (some ⟨gV,0,none⟩) n n).ownBlock=none\/(Value.slice (some ⟨gV,0,none⟩) n n).ownBlock≠some bx:=Or.inr (fun e=>by simp only [Value.ownBlock] at e;injection e with e;omega)
 exact ⟨⟨Ze (Za H.g (Za (Zh w bx 4 y4) (Zh _ bx 5 y5))),Zg (Zg H.xc),(H.r.kept (Zh w bx 4 y4) nn).kept (Ze (Zh _ bx 5 y5)) nn⟩,
  ⟨Ze (Za H.g (Za (Zh w bx 5 y5) (Zh _ bx 4 y4))),Zg (Zg H.xc),(H.r.kept (Zh w bx 5 y5) nn).kept (Ze (Zh _ bx 4 y4)) nn⟩⟩
theorem Zpo {w0:World} {bw bx bm B:Nat} {mem:Int} {pd:Option Addr} {nd cd:Nat} {pF:Option Addr} {cF:Nat} {fs:List FnP} {cl:Nat->List Nat} {V:List Bool} (hl:V.length=fs.length) (h0:V.getD 0 false=true)
 (hc:∀ x,x<fs.length->V.getD x false=true->(List.replicate fs.length false).getD x false=false->∀ y∈Xv fs cl x,V.getD y false=true) (hr:∀ x,x<fs.length->V.getD x false=true->(List.replicate fs.length false).getD x false=false->CRe (Xv fs cl) 0 x) (S:St w0 bw bx bm B mem pd nd cd pF cF fs cl):Zon fs cl V:=by
 have key:∀ x,CRe (Xv fs cl) 0 x->V.getD x false=true:=by
  intro x h
  induction h with
  | refl=>exact h0
  | step _ hy ih =>
    rename_i x y hx
    have hxl:x<fs.length:=by
     rcases Nat.lt_or_ge x fs.length with h|h
     · exact h
     · unfold Xv at hy
       rw [List.getElem?_eq_none h] at hy
       cases hy
    exact hc x hxl ih (Yio x) y hy
 exact ⟨hl,fun x hx=>⟨fun h=>hr x hx h (Yio x),key x⟩⟩
theorem Ypv {fs:List FnP} {cl:Nat->List Nat} {V:List Bool} {U:List Int} {fin:List Nat} (hc:∀ x,x<fs.length->V.getD x false=true->(List.replicate fs.length false).getD x false=false->∀ y∈Xv fs cl x,V.getD y false=true)
 (h0:V.getD 0 false=true) (hd:∀ f:Nat,f<fs.length->V.getD f false=true->f∈fin) (hI:Yed fs cl U fin) (hn:1<=fs.length) :
 Zta (Xv fs cl) (fin.filter fun x=>V.getD x false)/\0∈fin.filter (fun x=>V.getD x false)/\(∀ x∈fin.filter (fun x=>V.getD x false),x<fs.length/\V.getD x false=true)/\(fin.filter fun x=>V.getD x false).length<=fs.length:=by
 refine ⟨Zku hI.1 fun x hx hv y hy=>hc x (hI.2.2.1 x hx) hv (Yio x) y hy,List.mem_filter.2 ⟨hd 0 (by omega) h0,h0⟩,fun x hx=>⟨hI.2.2.1 x (List.mem_filter.1 hx).1,(List.mem_filter.1 hx).2⟩,?_⟩
 exact Nat.le_trans (List.length_filter_le _ _) (Zrl _ _ hI.2.2.2 hI.2.2.1)
theorem Yin {n:Nat} (x:Nat):(List.replicate n (0:Int)).getD x 0=0:=by
 rw [List.getD_eq_getElem?_getD,List.getElem?_replicate];split <;> rfl
theorem Xai (w:World) (bw bx bm B:Nat) (mem:Int) (pd:Option Addr) (nd cd:Nat) (pF:Option Addr) (cF:Nat) (fs:List FnP) (cl:Nat->List Nat) (S:St w bw bx bm B mem pd nd cd pF cF fs cl) (hok:Zjp fs) (gH gT gL cH cT cL:Nat) (hs:Nat->List Int) (tops:Nat->Int) (ln:Nat->Nat)
 (S2:St2 w bx gH gT fs hs tops) (HL:Zsy w bx gL fs.length ln) (HO:Ywv fs hs cl ln)
 (hx:w.heap[bx]? = some (.cells #[.slice (some ⟨gH,0,none⟩) fs.length cH,.slice (some ⟨gT,0,none⟩) fs.length cT,.slice (some ⟨gL,0,none⟩) fs.length cL,.slice none 0 0,.int .i64 0,.int .i64 0] 35 (0,0)))
 (a:Act) (ha:Xby bw fs.length a) (K:Act->World->Prop) (hK:∀ a w',Code.wp Try.prog (Zzp Try.f26 11) (bodyPost Try.prog Try.f26 (Zct w bx fs.length (.slice (some ⟨gH,0,none⟩) fs.length cH) (.slice (some ⟨gT,0,none⟩) fs.length cT) (.slice (some ⟨gL,0,none⟩) fs.length cL) (Zon fs cl))) a w'->K a w') :
 Code.wp Try.prog (Ycl Try.f26 11) (Exit.then K (bodyPost Try.prog Try.f26 (Zct w bx fs.length (.slice (some ⟨gH,0,none⟩) fs.length cH) (.slice (some ⟨gT,0,none⟩) fs.length cT) (.slice (some ⟨gL,0,none⟩) fs.length cL) (Zon fs cl)))) a w:=by
 rw [Yir ha]
 generalize (fun i=>a.tmps.getD i undef)=t
 clear ha
 have SS:=Hq S
 have SS2:=Hq S2
 have HLL:=Hq HL
 have HOO:=Hq HO
 have OK:=Hq hok
 have HX:=Hq hx
 have hlx:=S.lx
 have hne:=S.ne1
 have b3:=Cq _ _ 3 _ _ _ S.bwc
 have s1:=(Gs S.bwc)
 have j3:=Cq _ _ 3 _ _ _ hx
 have z3:=frozen_of_row _ _ 3 _ _ hx
 have h64:=S.nf
 have hn1:=hok.n1
 have hmk:=run_make_row' (P:=Try.prog) 33 4 (.bool false) 1 Ylf Ydz rfl .i64 .i64 fs.length (by omega) (by omega)
 have m1:=World.new_ne w ⟨bw,3,none⟩ b3
 have m2:=World.new_ne w ⟨bx,3,none⟩ j3
 have LV:=Yii hx hlx h64
 have c3b:=Cq _ _ 3 _ _ _ (Zb SS.out.bwc LV.g (by intro e;injection e with e;exact hne e.symm))
 have HLV:=Hq LV
 clear S S2 HL HO hok hx LV
 unfold lkF
 generalize t 1=u,t 3=u,t 4=u,t 5=u,t 6=u,t 7=u,t 8=u,t 9=u,t 10=u,t 11=u,t 12=u,t 13=u,t 14=u,t 15=u,t 16=u,t 17=u,t 18=u,t 19=u,t 20=u,t 21=u,t 22=u,t 23=u,t 24=u,t 25=u,t 26=u,t 27=u,t 28=u,t 29=u,t 30=u,t 31=u,t 32=u,t 33=u,t 34=u,t 35=u,t 36=u,t 37=u,t 38=u,t 39=u,t 40=u,t 41=u,t 42=u,t 43=u,t 44=u,t 45=u,t 46=u,t 47=u,t 48=u,t 49=u,t 50=u,t 51=u,t 52=u,t 53=u,t 54=u,t 55=u,t 56=u,t 57=u,t 58=u,t 59=u,t 60=u,t 61=u,t 62=u,t 63=u,t 64=u,t 65=u,t 66=u,t 67=u,t 68=u,t 69=u,t 70=u,t 71=u,t 72=u,t 73=u,t 74=u,t 75=u,t 76=u,t 77=u,t 78=u,t 79=u,t 80=u,t 81=u,t 82=u,t 83=u,t 84=u,t 85=u,t 86=u,t 87=u,t 88=u,t 89=u,t 90=u,t 91=u,t 92=u,t 93=u,t 94=u,t 95=u,t 96=u,t 97=u,t 98=u,t 99=u,t 100=u,t 101=u,t 102=u,t 103=u,t 104=u,t 105=u,t 106=u,t 107=u,t 108=u,t 109=u,t 110=u,t 111=u,t 112=u,t 113=u,t 114=u,t 115=u,t 116=u,t 117=u,t 118=u,t 119=u,t 120=u,t 121=u,t 122=u,t 123=u,t 124=u,t 125=u,t 126=u,t 127=u,t 128=u,t 129=u,t 130=u,t 131=u,t 132=u,t 133=u,t 134=u,t 135=u,t 136=u,t 137=u,t 138=u,t 139=u,t 140=u,t 141=u,t 142=u,t 143=u,t 144=u,t 145=u,t 146=u,t 147=u,t 148=u,t 149=u,t 150=u,t 151=u,t 152=u,t 153=u,t 154=u,t 155=u,t 156=u,t 157=u,t 158=u,t 159=u,t 160=u,t 161=u,t 162=u,t 163=u,t 164=u,t 165=u,t 166=u,t 167=u,t 168=u,t 169=u,t 170=u,t 171=u,t 172=u,t 173=u,t 174=u,t 175=u,t 176=u,t 177=u
 clear t
 conv=>arg 2;whnf
 go_region_held3 (fun W'=>W'.cell? ⟨bw,3,none⟩=some (.pointer (some ⟨bx,0,none⟩))) (go_keep) (fail)
 clear b3 s1 j3 z3 hmk m1 m2
 have hq:=(Yad HLV.out).2
 generalize ((w.setCell ⟨bx,3,none⟩ (.slice (some ⟨w.heap.size,0,none⟩) fs.length fs.length)).alloc (.cells (madeCells #[.bool false] fs.length) 4)).drew=W1 at *
 have LIV:=Hq (Ypg (Yeh (List.replicate fs.length false)+1) w W1 bw bx bm B mem pd nd cd pF cF fs cl w.heap.size _ _ _ _ _ (List.replicate fs.length false) 0 SS.out HLV.out (by omega) (Nat.lt_succ_self _))
 go_wp2
 try clear K
 conv=>arg 2;whnf
 go_upto_region 13 with (go_at_call 43;refine LIV.out.mono ?_;rintro e w2 ⟨⟨v2,rfl⟩,g2,V,H2,hin,h0,hclo,hre⟩;have HV2:=Hq H2;have HIN:=Hq h0;have HCLO:=Hq hclo;have HRE:=Hq hre;clear g2 H2 hin h0 hclo hre)
 have kb:=Zb SS.out.bwc HV2.out.g (by intro e;injection e with e;exact hne e.symm)
 have b3:=Cq _ _ 3 _ _ _ kb
 have s1:=(Gs kb)
 have hx2:=HV2.out.xc
 have j4:=Cq _ _ 4 _ _ _ hx2
 have z4:=frozen_of_row _ _ 4 _ _ hx2
 have j5:=Cq _ _ 5 _ _ _ hx2
 have z5:=frozen_of_row _ _ 5 _ _ hx2
 have s2:=(Gs hx2)
 have LA:=Hq (Ycx HV2.out hlx (.int .i64 (-1)) (.int .i64 (-1)))
 have nn:∀ k:Nat,(some bx:Option Nat)≠some bw:=fun _ e=>by injection e with e;exact hne e.symm
 have c4:=Cq _ _ 3 _ _ _ (Zb kb (Zh w2 bx 4 (.int .i64 (-1))) (nn 0))
 have c5:=Cq _ _ 3 _ _ _ (Zb kb (Zh w2 bx 5 (.int .i64 (-1))) (nn 0))
 have c45:=Cq _ _ 3 _ _ _ (Zb (Zb kb (Zh w2 bx 4 (.int .i64 (-1))) (nn 0)) (Zh _ bx 5 (.int .i64 (-1))) (nn 0))
 have c54:=Cq _ _ 3 _ _ _ (Zb (Zb kb (Zh w2 bx 5 (.int .i64 (-1))) (nn 0)) (Zh _ bx 4 (.int .i64 (-1))) (nn 0))
 clear kb hx2 nn
 go_region_held3 (fun W'=>W'.cell? ⟨bw,3,none⟩=some (.pointer (some ⟨bx,0,none⟩))) (first|assumption|exact c4|exact c5|exact c45|exact c54) (fail)
 clear c4 c5 c45 c54 b3 s1 j4 z4 j5 z5 s2
 have L1:=LA.out.1
 have LK:=Hq (show LkW w _ bw bx bm fs.length w.heap.size mem pd nd cd pF cF (.slice (some ⟨gH,0,none⟩) fs.length cH) (.slice (some ⟨gT,0,none⟩) fs.length cT) (.slice (some ⟨gL,0,none⟩) fs.length cL) (-1) (-1) V from ⟨L1.g,L1.xc,L1.r,SS.out.bwc,hne,hlx⟩)
 clear L1 LA HLV LIV
 have HLN:=Hq (Zfg HV2.out)
 clear HV2 hq
 generalize ((w2.setCell ⟨bx,4,none⟩ (.int .i64 (-1))).setCell ⟨bx,5,none⟩ (.int .i64 (-1))).drew=W3 at *
 have hmk:=run_make_row' (P:=Try.prog) 32 3 (.int .i64 0) 8 Zbv Zao rfl .i64 .i64 fs.length (by omega) (by omega)
 have hq3:=LK.out.g.size
 have hqv:=(Zpm LK.out).2
 have ru:=Zlu (heap_alloc_new W3 (.cells (madeCells #[.int .i64 0] fs.length) 3)) hq3 (by unfold maxLen;omega)
 have AG0:AgW w (W3.alloc (.cells (madeCells #[.int .i64 0] fs.length) 3)) bx W3.heap.size fs.length (List.replicate fs.length 0) :=
  ⟨Za LK.out.g (Ga _ _ _),by have e:Zex (List.replicate fs.length 0)=(List.replicate fs.length (0:Int)).map (Value.int .i64):=by simp [Zex]
                             rw [<- e];exact ru,fun x=>Or.inl (Yin x)⟩
 have HAG0:=Hq AG0
 have LK0:=Hq (Zak LK.out (Ga W3 (.cells (madeCells #[.int .i64 0] fs.length) 3) none) (fun k e=>by cases e))
 clear ru AG0
 go_wp2
 clear hmk
 generalize hgU:W3.heap.size=gU at *
 have hgv:gU≠w.heap.size:=by omega
 clear hgU
 generalize W3.alloc (.cells (madeCells #[.int .i64 0] fs.length) 3)=W4 at *
 go_loopw [100] (fun i wr=>∃ (k:Nat) (U:List Int) (fin:List Nat),i = .int .i64 k/\k<=fs.length/\LkW w wr bw bx bm fs.length w.heap.size mem pd nd cd pF cF (.slice (some ⟨gH,0,none⟩) fs.length cH) (.slice (some ⟨gT,0,none⟩) fs.length cT) (.slice (some ⟨gL,0,none⟩) fs.length cL) (-1) (-1) V/\AgW w wr bx gU fs.length U/\Yed fs cl U fin/\(∀ f:Nat,f<k->V.getD f false=true->f∈fin)) (fun i _=>fs.length - (intOf i).toNat)
 case atStart=>exact ⟨0,_,[],rfl,Nat.zero_le _,LK0.out,HAG0.out,⟨trivial,fun x _=>⟨fun h=>by rw [Yin] at h;omega,fun h=>by cases h⟩,(fun x h=>by cases h),List.nodup_nil⟩,fun f hf=>absurd hf (Nat.not_lt_zero _)⟩
 case round =>
  obtain ⟨k,U,fin,rfl,hk,hW,hA,hI,hdone⟩:=hrel
  have HW:=Hq hW
  have HA:=Hq hA
  have HI:=Hq hI
  have HDN:=Hq hdone
  clear LK0 HAG0 LK
  by_cases hlt:(k:Int)<(fs.length:Int)
  · have hkn:k<fs.length:=by omega
    have kb:=Zpn hW
    have b3:=Cq _ _ 3 _ _ _ kb
    have s1:=(Gs kb)
    have j3:=Cq _ _ 3 _ _ _ hW.xc
    have s2:=(Gs hW.xc)
    have vk:wr.cell? ⟨w.heap.size,k,none⟩=some (.bool (V.getD k false)):=by
     have:=HLN.out
     rw [hW.r.cellAt k (by omega),List.getElem?_map,List.getD_eq_getElem?_getD,List.getElem?_eq_getElem (by omega:k<V.length)]
     rfl
    have s3:=(Zpm hW).2
    have AG:=Hq (Yll (zer U+1) w wr bw bx bm B mem pd nd cd pF cF fs cl gU U fin k SS.out hA hI hkn (Nat.lt_succ_self _))
    clear hW hA hI hdone kb
    cases hb:V.getD k false with
    | false =>
      rw [hb] at vk
      have HB:=Hq hb
      clear hb
      go_wp2
      go_roundw
      case rel=>exact ⟨k+1,U,fin,by go_num,by omega,HW.out,HA.out,HI.out,fun f hf hv=>by
       by_cases e:f=k
       · subst e;rw [HB.out] at hv;cases hv
       · exact HDN.out f (by omega) hv⟩
      case measure=>simp [intOf];omega
    | true =>
      rw [hb] at vk
      clear hb
      go_wp2_with (go_at_call 44;refine AG.out.mono ?_;rintro e w5 ⟨b5,rfl,g5,h5⟩;have HG5:=Hq g5;have HH5:=Hq h5;clear g5 h5;cases b5)
      · obtain ⟨U5,fin5,hw5,hi5,hs5,hin5,ho5,hz5⟩:=HH5.out (by trivial)
        have HW5:=Hq (Zak HW.out HG5.out (fun q e=>by injection e with e;subst e;exact ⟨(Zwm HA.out).1,hgv⟩))
        go_roundw
        case rel=>exact ⟨k+1,U5,fin5,by go_num,by omega,HW5.out,hw5,hi5,fun f hf hv=>by
         by_cases e:f=k
         · subst e;exact hin5
         · exact hs5 f (HDN.out f (by omega) hv)⟩
        case measure=>simp [intOf];omega
      · have HW5:=Hq (Zak HW.out HG5.out (fun q e=>by injection e with e;subst e;exact ⟨(Zwm HA.out).1,hgv⟩))
        refine bodyPost_end0 rfl rfl ?_
        exact Zlp HW5.out (Zpo HLN.out HIN.out HCLO.out HRE.out SS.out) _
  · have hkn:k=fs.length:=by omega
    subst hkn
    clear hW hA hI hdone
    have LE:=Hq (Zpo HLN.out HIN.out HCLO.out HRE.out SS.out)
    have FO:=Hq (Ypv HCLO.out HIN.out HDN.out HI.out hn1)
    go_upto_region 20 with fail
    rename_i K hK
    obtain ⟨f1,f2,f3,f4⟩:=FO.out
    refine Xah w wr bw bx bm fs.length w.heap.size mem pd nd cd pF cF _ _ gL cL ln (-1) (-1) V (Zon fs cl) LE.out HW.out HLL.out h64 (fun wc bk h1 h2 h3 h4 => ?_) (fun hl wc bk ce h1 h2 h3 h4 => ?_) _ ⟨rfl,rfl,rfl,rfl⟩ K hK
    · refine (Ykw (rk (fin.filter fun x=>V.getD x false) 0+1) w wc bw bx bm B mem pd nd cd pF cF fs cl gH gT cH cT bk _ _ _ _ hs tops (fun _=>none) _ 0 SS.out SS2.out ⟨h1.g,h1.xc,h3,h2⟩ (fun f _ v hv=>by cases hv) f1 (fun x hx=>(f3 x hx).1) (by omega) f2 (Nat.lt_succ_self _)).mono ?_
      intro e w' he
      obtain ⟨v,kn',h5,h6,h7,-⟩:=he
      exact ⟨v,kn',h5,h6,h7⟩
    · refine (Yqf w bw bx bm B mem pd nd cd pF cF fs cl SS.out OK.out gH gT cH cT bk _ _ _ _ (fin.filter fun x=>V.getD x false) (fun x hx=>(f3 x hx).1) (fun f hf ar lo r c hfn=>Xbe OK.out HOO.out f1 hf hfn (hl f (f3 f hf).1 (f3 f hf).2)) (rk (fin.filter fun x=>V.getD x false) 0+1) wc (fun _=>none) 0 ⟨h1.g,h1.xc,h3,h2⟩ (fun f _ v hv=>by cases hv) f2 (Nat.lt_succ_self _)).mono ?_
      intro e w' he
      obtain ⟨v,kn',h5,h6,h7,-⟩:=he
      exact ⟨v,kn',h5,h6,h7⟩
def Xas (v:Value):Option (DataW Value × List MemPlace):=some (.held v,[])
def Yop:Value := .slice none 0 0
theorem Xcz (w:World):(zeroValue 32).run Try.prog w = .ok Yop w:=by kernel_rfl
def Zyz (w:World) (bm n nf:Nat) (g:Nat->Value):Prop:=nf<=64/\n<=1000000/\∃ (D:DataW Value),w.ownsMap Try.prog 3 Xas bm n D/\IsMap D/\∀ f:Nat,f<nf->D.atKey (.int .i64 (f:Int)) (.held Yop) = .held (g f)
def Yxg (g:Nat->Value) (f:Nat) (v:Value):Nat->Value:=fun x=>if x=f then v else g x
theorem Zlx (g:Nat->Value) (f:Nat) (v:Value):Yxg g f v f=v:=if_pos rfl
theorem Zgz {g:Nat->Value} {f x:Nat} {v:Value} (h:x≠f):Yxg g f v x=g x:=if_neg h
theorem Yib (w:World) {nf:Nat} (h:nf<=64):Zyz (w.alloc (.map #[] 0)) w.heap.size 0 nf fun _=>Yop :=
 ⟨h,by decide,.map [],World.ownsMap_made _ _ _ _,⟨[],rfl⟩,fun f _=>rfl⟩
theorem Zep {w w':World} {bm n nf:Nat} {g:Nat->Value} {r:Option Nat} (h:Zyz w bm n nf g) (hg:w.grownBy w' r) (hr:some bm≠r):Zyz w' bm n nf g:=by
 obtain ⟨h0,hn,D,h1,h2⟩:=h
 exact ⟨h0,hn,D,h1.kept hg hr,h2⟩
theorem Yic {w:World} {bm n nf:Nat} {g:Nat->Value} (h:Zyz w bm n nf g):bm<w.heap.size:=by
 obtain ⟨_,_,D,h1,_⟩:=h
 exact h1.lt
theorem Yur {w w':World} {bm n nf:Nat} {g:Nat->Value} (h:Zyz w bm n nf g) (e:w'.heap[bm]? = w.heap[bm]?):Zyz w' bm n nf g:=by
 obtain ⟨h0,hn,D,⟨es,clock,hb,r⟩,h2⟩:=h
 exact ⟨h0,hn,D,⟨es,clock,e.trans hb,r⟩,h2⟩
theorem Zxu {w:World} {bm n nf f:Nat} {g:Nat->Value} (h:Zyz w bm n nf g) (hf:f<nf):(Instr.lookup 69 (.map (some bm)) (.int .i64 f) false).run Try.prog w = .ok (g f) w:=by
 obtain ⟨h0,hn,D,h1,h2,h3⟩:=h
 obtain ⟨v,ps,hrun,hv⟩:=h1.lookup Ypn Try.underlying69 (Xcz w) (zd := .held Yop) (zp:=[]) rfl (Znd (f:=f) (by omega))
 rw [h3 f hf] at hv
 have hv2:v=g f:=by
  simp only [Xas,Option.some.injEq,Prod.mk.injEq,DataW.held.injEq] at hv
  exact hv.1
 rw [hrun,hv2]
theorem Yos {w:World} {bm n nf f:Nat} {g:Nat->Value} {v:Value} (h:Zyz w bm n nf g) (hf:f<nf) (hn:n<1000000) :
 ∃ w',(Instr.mapUpdate 69 (.map (some bm)) (.int .i64 f) v).run Try.prog w = .ok () w'/\Zyz w' bm (n+1) nf (Yxg g f v)/\w.grownBy w' (some bm):=by
 obtain ⟨h0,_,D,h1,h2,h3⟩:=h
 obtain ⟨w',hrun,h5,h6⟩:=h1.update Ypn Try.underlying69 (by unfold maxLen;omega) (Znd (f:=f) (by omega)) (val:=v) (d := .held v) (ps:=[]) rfl
 refine ⟨w',hrun,⟨h0,by omega,_,h5,h2.put _ _,fun x hx => ?_⟩,h6⟩
 by_cases e:x=f
 · subst e
   rw [atKey_put_same h2 (by trivial),Zlx]
 · have hne:(Lit.int .i64 (x:Int)) ≠ .int .i64 (f:Int):=fun h=>by injection h with _ h;omega
   rw [atKey_put_other hne,Zgz e]
   exact h3 x hx
def lq:Nat->Nat
 | 0=>59
 | 1=>60
 | 2=>61
 | 3=>62
 | 4=>63
 | 5=>64
 | 6=>65
 | 7=>66
 | 8=>67
 | 9=>68
 | 10=>69
 | 11=>70
 | 12=>71
 | 13=>72
 | 14=>1014
 | _=>5000
theorem Zhj:∀ i,i<15->∀ j,j<15->j≠i->lq j≠lq i:=by decide
theorem Xel (i:Nat) (h:i<15):i=0\/i=1\/i=2\/i=3\/i=4\/i=5\/i=6\/i=7\/i=8\/i=9\/i=10\/i=11\/i=12\/i=13\/i=14:=by omega
theorem Zuw (j:Nat) (hj:j∈[0,3,5]):∀ i,i<15->lq i≠j:=by revert j;decide
def lqv (bw f at_ bm N:Nat) (v v':Value):Nat->Value
 | 0 => .pointer (some ⟨bw,0,none⟩)
 | 1 => .pointer (some ⟨bw,0,none⟩)
 | 2 => .pointer (some ⟨bw,4,none⟩)
 | 3 => .map (some bm)
 | 4 => .int .i64 f
 | 5 => .pointer (some ⟨bw,0,none⟩)
 | 6 => .pointer (some ⟨bw,0,none⟩)
 | 7 => .pointer (some ⟨bw,4,none⟩)
 | 8 => .map (some bm)
 | 9 => .int .i64 f
 | 10=>v
 | 11 => .int .i64 at_
 | 12 => .slice (some ⟨N,0,none⟩) 1 1
 | 13=>v'
 | 14=>undef
 | _=>undef
structure WQ (W0 W1 W2 W3:World) (l:Array Bool) (w:World):Prop where
 sz:l.size=15
 e0:l.getD 12 false=false->w=W0
 e1:l.getD 12 false=true->l.getD 13 false=false->w=W1
 e2:l.getD 13 false=true->l.getD 14 false=false->w=W2
 e3:l.getD 14 false=true->w=W3
 x1:l.getD 13 false=true->l.getD 12 false=true/\l.getD 10 false=true
 x2:l.getD 14 false=true->l.getD 13 false=true
section
variable {W0 W1 W2 W3 w:World} {l:Array Bool}
theorem Ymc (W0 W1 W2 W3:World):WQ W0 W1 W2 W3 (Array.replicate 15 false) W0 :=
 ⟨by simp,fun _=>rfl,fun h=>(by rw [getD_replicate_false] at h;cases h),fun h=>(by rw [getD_replicate_false] at h;cases h),fun h=>(by rw [getD_replicate_false] at h;cases h),fun h=>(by rw [getD_replicate_false] at h;cases h),fun h=>(by rw [getD_replicate_false] at h;cases h)⟩
theorem Zbq {i:Nat} (h:WQ W0 W1 W2 W3 l w) (hi:i<15) (n1:i≠12) (n2:i≠13) (n3:i≠14):WQ W0 W1 W2 W3 (l.setIfInBounds i true) w:=by
 have g:∀ j,j≠i->(l.setIfInBounds i true).getD j false=l.getD j false:=fun j hj=>by rw [Yd l i j (by rw [h.sz];exact hi),if_neg hj]
 have g12:=g 12 (Ne.symm n1)
 have g13:=g 13 (Ne.symm n2)
 have g14:=g 14 (Ne.symm n3)
 refine ⟨by simp [h.sz],fun e=>h.e0 (by rw [<- g12];exact e),fun e e'=>h.e1 (by rw [<- g12];exact e) (by rw [<- g13];exact e'),fun e e'=>h.e2 (by rw [<- g13];exact e) (by rw [<- g14];exact e'),fun e=>h.e3 (by rw [<- g14];exact e),fun e => ?_,fun e=>by rw [g13];exact h.x2 (by rw [<- g14];exact e)⟩
 rw [g13] at e
 obtain ⟨a,b⟩:=h.x1 e
 refine ⟨by rw [g12];exact a,?_⟩
 rw [Yd l i 10 (by rw [h.sz];exact hi)]
 split
 · rfl
 · exact b
theorem Ymd (h:WQ W0 W1 W2 W3 l w) (hun:l.getD 10 false=false):w=W0\/w=W1:=by
 rcases Bool.eq_false_or_eq_true (l.getD 12 false) with e|e
 · refine Or.inr (h.e1 e ?_)
   rcases Bool.eq_false_or_eq_true (l.getD 13 false) with e'|e'
   · rw [(h.x1 e').2] at hun;cases hun
   · exact e'
 · exact Or.inl (h.e0 e)
theorem Yen {bw bm:Nat} (h:WQ W0 W1 W2 W3 l w) (c0:W0.cell? ⟨bw,4,none⟩=some (.map (some bm))) (c1:W1.cell? ⟨bw,4,none⟩=some (.map (some bm))) (c2:W2.cell? ⟨bw,4,none⟩=some (.map (some bm))) (c3:W3.cell? ⟨bw,4,none⟩=some (.map (some bm))):w.cell? ⟨bw,4,none⟩=some (.map (some bm)):=by
 rcases Bool.eq_false_or_eq_true (l.getD 12 false) with e|e
 · rcases Bool.eq_false_or_eq_true (l.getD 13 false) with e'|e'
   · rcases Bool.eq_false_or_eq_true (l.getD 14 false) with e2|e2
     · rw [h.e3 e2];exact c3
     · rw [h.e2 e' e2];exact c2
   · rw [h.e1 e e'];exact c1
 · rw [h.e0 e];exact c0
theorem Xcl (h:WQ W0 W1 W2 W3 l W0):l.getD 12 false=false->WQ W0 W1 W2 W3 (l.setIfInBounds 12 true) W1:=fun hun=>by
 have g:∀ j,j≠12->(l.setIfInBounds 12 true).getD j false=l.getD j false:=fun j hj=>by rw [Yd l 12 j (by rw [h.sz];decide),if_neg hj]
 have s:(l.setIfInBounds 12 true).getD 12 false=true:=by rw [Yd l 12 12 (by rw [h.sz];decide),if_pos rfl]
 have n13:l.getD 13 false=false:=by
  rcases Bool.eq_false_or_eq_true (l.getD 13 false) with e|e
  · rw [(h.x1 e).1] at hun;cases hun
  · exact e
 have n14:l.getD 14 false=false:=by
  rcases Bool.eq_false_or_eq_true (l.getD 14 false) with e|e
  · rw [h.x2 e] at n13;cases n13
  · exact e
 refine ⟨by simp [h.sz],fun e=>(by rw [s] at e;cases e),fun _ _=>rfl,fun e=>(by rw [g 13 (by decide),n13] at e;cases e),fun e=>(by rw [g 14 (by decide),n14] at e;cases e),fun e=>(by rw [g 13 (by decide),n13] at e;cases e),fun e=>(by rw [g 14 (by decide),n14] at e;cases e)⟩
theorem Xck (h:WQ W0 W1 W2 W3 l W1) (l12:l.getD 12 false=true) (l10:l.getD 10 false=true) (hun:l.getD 13 false=false):WQ W0 W1 W2 W3 (l.setIfInBounds 13 true) W2:=by
 have g:∀ j,j≠13->(l.setIfInBounds 13 true).getD j false=l.getD j false:=fun j hj=>by rw [Yd l 13 j (by rw [h.sz];decide),if_neg hj]
 have s:(l.setIfInBounds 13 true).getD 13 false=true:=by rw [Yd l 13 13 (by rw [h.sz];decide),if_pos rfl]
 have n14:l.getD 14 false=false:=by
  rcases Bool.eq_false_or_eq_true (l.getD 14 false) with e|e
  · rw [h.x2 e] at hun;cases hun
  · exact e
 exact ⟨by simp [h.sz],fun e=>(by rw [g 12 (by decide),l12] at e;cases e),fun _ e=>(by rw [s] at e;cases e),fun _ _=>rfl,fun e=>(by rw [g 14 (by decide),n14] at e;cases e),fun _=>⟨by rw [g 12 (by decide)];exact l12,by rw [g 10 (by decide)];exact l10⟩,fun e=>(by rw [g 14 (by decide),n14] at e;cases e)⟩
theorem Xcj (h:WQ W0 W1 W2 W3 l W2) (l13:l.getD 13 false=true):WQ W0 W1 W2 W3 (l.setIfInBounds 14 true) W3:=by
 have g:∀ j,j≠14->(l.setIfInBounds 14 true).getD j false=l.getD j false:=fun j hj=>by rw [Yd l 14 j (by rw [h.sz];decide),if_neg hj]
 have s:(l.setIfInBounds 14 true).getD 14 false=true:=by rw [Yd l 14 14 (by rw [h.sz];decide),if_pos rfl]
 obtain ⟨l12,l10⟩:=h.x1 l13
 exact ⟨by simp [h.sz],fun e=>(by rw [g 12 (by decide),l12] at e;cases e),fun _ e=>(by rw [g 13 (by decide),l13] at e;cases e),fun _ e=>(by rw [s] at e;cases e),fun _=>rfl,fun _=>⟨by rw [g 12 (by decide)];exact l12,by rw [g 10 (by decide)];exact l10⟩,fun _=>by rw [g 13 (by decide)];exact l13⟩
end
theorem Yij (W0 W1 W2 W3:World) (bw f at_ bm N:Nat) (v v':Value) (hl0:(Instr.lookup 69 (.map (some bm)) (.int .i64 f) false).run Try.prog W0 = .ok v W0) (hl1:(Instr.lookup 69 (.map (some bm)) (.int .i64 f) false).run Try.prog W1 = .ok v W1)
 (hbs:(Instr.buildSlice 32 1 #[(0,.int .i64 at_)]).run Try.prog W0 = .ok (.slice (some ⟨N,0,none⟩) 1 1) W1)
 (hap:(Builtin.append_ #[32,32] 32 #[v,.slice (some ⟨N,0,none⟩) 1 1]).run Try.prog W1 = .ok v' W2) (hput:(Instr.mapUpdate 69 (.map (some bm)) (.int .i64 f) v').run Try.prog W2 = .ok () W3)
 (c0:W0.cell? ⟨bw,4,none⟩=some (.map (some bm))) (c1:W1.cell? ⟨bw,4,none⟩=some (.map (some bm))) (c2:W2.cell? ⟨bw,4,none⟩=some (.map (some bm))) (c3:W3.cell? ⟨bw,4,none⟩=some (.map (some bm)))
 (W:World) (hW0:W0=W.drew) (a:Act) (hs:a.tmps.size=178) (a0:a.tmps.getD 0 undef = .pointer (some ⟨bw,0,none⟩)) (a3:a.tmps.getD 3 undef = .int .i64 f) (a5:a.tmps.getD 5 undef = .int .i64 at_) (Q:Exit->Act->World->Prop) (hQ:Q .normal (Zay a lq (lqv bw f at_ bm N v v') 15) W3) :
 Code.wp Try.prog (Ycl Try.f26 8) Q a W:=by
 conv=>arg 2;whnf
 refine Je (n:=15) (J:=fun a0 l a1 w1=>RJ a0 178 15 lq (lqv bw f at_ bm N v v') l a1/\WQ W0 W1 W2 W3 l w1) (by kernel_rfl) rfl (Zai (by kernel_rfl)) (fun l a1 w1 h=>h.2.sz) ⟨Jd hs,by rw [<- hW0];exact Ymc _ _ _ _⟩ ?step ?fin
 case step =>
  intro l a1 w' i hJJ hi hin
  obtain ⟨hJ,hW⟩:=hJJ
  have hun:l.getD i false=false:=getD_both (mem_ready.1 hi).1
  rcases Xel i hin with rfl|rfl|rfl|rfl|rfl|rfl|rfl|rfl|rfl|rfl|rfl|rfl|rfl|rfl|rfl
  · have e0:a1.tmps.getD 0 undef = .pointer (some ⟨bw,0,none⟩):=(hJ.un 0 (fun i hi _=>Zuw 0 (by decide) i hi)).trans a0
    exact Zo hW hJ rfl (by rfl) rfl (by decide) (by decide) (Zhj _ (by decide)) (w':=w') (by simp [execOp,resolve,invoke,builtin,Act.eval,e0,go_sem,lqv]) (Zbq hW (by decide) (by decide) (by decide) (by decide))
  · have e59:a1.tmps.getD 59 undef = .pointer (some ⟨bw,0,none⟩):=(Zu hJ hi 0 (by kernel_rfl))
    exact Zo hW hJ rfl (by rfl) rfl (by decide) (by decide) (Zhj _ (by decide)) (w':=w') (by simp [execOp,resolve,invoke,builtin,Act.eval,e59,go_sem,lqv]) (Zbq hW (by decide) (by decide) (by decide) (by decide))
  · have e60:a1.tmps.getD 60 undef = .pointer (some ⟨bw,0,none⟩):=(Zu hJ hi 1 (by kernel_rfl))
    exact Zo hW hJ rfl (by rfl) rfl (by decide) (by decide) (Zhj _ (by decide)) (w':=w') (by simp [execOp,resolve,invoke,builtin,Act.eval,e60,go_sem,lqv]) (Zbq hW (by decide) (by decide) (by decide) (by decide))
  · have e61:a1.tmps.getD 61 undef = .pointer (some ⟨bw,4,none⟩):=(Zu hJ hi 2 (by kernel_rfl))
    have h0:=Yen hW c0 c1 c2 c3
    exact Zo hW hJ rfl (by rfl) rfl (by decide) (by decide) (Zhj _ (by decide)) (w':=w') (by simp [execOp,resolve,invoke,builtin,Act.eval,e61,h0,go_sem,lqv]) (Zbq hW (by decide) (by decide) (by decide) (by decide))
  · have e3:a1.tmps.getD 3 undef = .int .i64 f:=(hJ.un 3 (fun i hi _=>Zuw 3 (by decide) i hi)).trans a3
    exact Zo hW hJ rfl (by rfl) rfl (by decide) (by decide) (Zhj _ (by decide)) (w':=w') (by simp [execOp,resolve,invoke,builtin,Act.eval,e3,go_sem,lqv]) (Zbq hW (by decide) (by decide) (by decide) (by decide))
  · have e0:a1.tmps.getD 0 undef = .pointer (some ⟨bw,0,none⟩):=(hJ.un 0 (fun i hi _=>Zuw 0 (by decide) i hi)).trans a0
    exact Zo hW hJ rfl (by rfl) rfl (by decide) (by decide) (Zhj _ (by decide)) (w':=w') (by simp [execOp,resolve,invoke,builtin,Act.eval,e0,go_sem,lqv]) (Zbq hW (by decide) (by decide) (by decide) (by decide))
  · have e64:a1.tmps.getD 64 undef = .pointer (some ⟨bw,0,none⟩):=(Zu hJ hi 5 (by kernel_rfl))
    exact Zo hW hJ rfl (by rfl) rfl (by decide) (by decide) (Zhj _ (by decide)) (w':=w') (by simp [execOp,resolve,invoke,builtin,Act.eval,e64,go_sem,lqv]) (Zbq hW (by decide) (by decide) (by decide) (by decide))
  · have e65:a1.tmps.getD 65 undef = .pointer (some ⟨bw,0,none⟩):=(Zu hJ hi 6 (by kernel_rfl))
    exact Zo hW hJ rfl (by rfl) rfl (by decide) (by decide) (Zhj _ (by decide)) (w':=w') (by simp [execOp,resolve,invoke,builtin,Act.eval,e65,go_sem,lqv]) (Zbq hW (by decide) (by decide) (by decide) (by decide))
  · have e66:a1.tmps.getD 66 undef = .pointer (some ⟨bw,4,none⟩):=(Zu hJ hi 7 (by kernel_rfl))
    have h0:=Yen hW c0 c1 c2 c3
    exact Zo hW hJ rfl (by rfl) rfl (by decide) (by decide) (Zhj _ (by decide)) (w':=w') (by simp [execOp,resolve,invoke,builtin,Act.eval,e66,h0,go_sem,lqv]) (Zbq hW (by decide) (by decide) (by decide) (by decide))
  · have e3:a1.tmps.getD 3 undef = .int .i64 f:=(hJ.un 3 (fun i hi _=>Zuw 3 (by decide) i hi)).trans a3
    exact Zo hW hJ rfl (by rfl) rfl (by decide) (by decide) (Zhj _ (by decide)) (w':=w') (by simp [execOp,resolve,invoke,builtin,Act.eval,e3,go_sem,lqv]) (Zbq hW (by decide) (by decide) (by decide) (by decide))
  · have e67:a1.tmps.getD 67 undef = .map (some bm):=(Zu hJ hi 8 (by kernel_rfl))
    have e68:a1.tmps.getD 68 undef = .int .i64 f:=(Zu hJ hi 9 (by kernel_rfl))
    rcases Ymd hW hun with hw|hw
    · rw [hw] at hW ⊢;exact Zo hW hJ rfl (by rfl) rfl (by decide) (by decide) (Zhj _ (by decide)) (w':=W0) (by simp [execOp,Act.eval,e67,e68,hl0,go_sem,lqv]) (Zbq hW (by decide) (by decide) (by decide) (by decide))
    · rw [hw] at hW ⊢;exact Zo hW hJ rfl (by rfl) rfl (by decide) (by decide) (Zhj _ (by decide)) (w':=W1) (by simp [execOp,Act.eval,e67,e68,hl1,go_sem,lqv]) (Zbq hW (by decide) (by decide) (by decide) (by decide))
  · have e5:a1.tmps.getD 5 undef = .int .i64 at_:=(hJ.un 5 (fun i hi _=>Zuw 5 (by decide) i hi)).trans a5
    exact Zo hW hJ rfl (by rfl) rfl (by decide) (by decide) (Zhj _ (by decide)) (w':=w') (by simp [execOp,resolve,invoke,builtin,Act.eval,e5,go_sem,lqv]) (Zbq hW (by decide) (by decide) (by decide) (by decide))
  · have e70:a1.tmps.getD 70 undef = .int .i64 at_:=(Zu hJ hi 11 (by kernel_rfl))
    have f70:=e70
    rw [Array.getD_eq_getD_getElem?] at f70
    have hw:=hW.e0 hun
    rw [hw] at hW ⊢
    exact Zo hW hJ rfl (by rfl) rfl (by decide) (by decide) (Zhj _ (by decide)) (w':=W1) (by simp [execOp,Act.eval,e70,f70,hbs,Result.andThen,lqv]) (Xcl hW hun)
  · have e69:a1.tmps.getD 69 undef=v:=(Zu hJ hi 10 (by kernel_rfl))
    have e71:a1.tmps.getD 71 undef = .slice (some ⟨N,0,none⟩) 1 1:=(Zu hJ hi 12 (by kernel_rfl))
    have l12:l.getD 12 false=true:=Zl hi 12 (by kernel_rfl)
    have l10:l.getD 10 false=true:=Zl hi 10 (by kernel_rfl)
    have hw:=hW.e1 l12 hun
    rw [hw] at hW ⊢
    exact Zo hW hJ rfl (by rfl) rfl (by decide) (by decide) (Zhj _ (by decide)) (w':=W2) (by simp [execOp,resolve,invoke,builtin,Act.eval,e69,e71,hap,Result.andThen,lqv]) (Xck hW l12 l10 hun)
  · have e62:a1.tmps.getD 62 undef = .map (some bm):=(Zu hJ hi 3 (by kernel_rfl))
    have e63:a1.tmps.getD 63 undef = .int .i64 f:=(Zu hJ hi 4 (by kernel_rfl))
    have e72:a1.tmps.getD 72 undef=v':=(Zu hJ hi 13 (by kernel_rfl))
    have l13:l.getD 13 false=true:=Zl hi 13 (by kernel_rfl)
    have hw:=hW.e2 l13 hun
    rw [hw] at hW ⊢
    exact Zdn hW hJ rfl rfl rfl (by decide) (by decide) (w':=W3) (by simp [execOp,Act.eval,e62,e63,e72,hput,go_sem]) (Xcj hW l13)
 intro l a1 w9 hJJ hl
 obtain ⟨hJ,hW⟩:=hJJ
 have hput:=Zag hJ hs hl (fun i j h1 h2 h3=>Zhj j h2 i h1 h3)
 subst hput
 rw [hW.e3 (hl 14 (by decide))]
 exact hQ
def Zkp (c:List (Int × Int)) (h:List Int) (x:Nat):Bool:=(match c[x]? with|some y=>decide (y.1=17)|none=>false) && decide (0<=h.getD x 0)
def Zfy (c:List (Int × Int)) (h:List Int) (j:Nat):List Nat:=(List.range j).filter (Zkp c h)
def Znt (fs:List FnP) (hs:Nat->List Int) (f:Nat):List Nat:=match fs[f]? with|some fn=>Zfy fn.2.2.2 (hs f) fn.2.2.2.length|none=>[]
theorem Yco (c:List (Int × Int)) (h:List Int) (j:Nat):Zfy c h (j+1)=if Zkp c h j=true then Zfy c h j++[j] else Zfy c h j:=by
 unfold Zfy
 rw [List.range_succ,List.filter_append]
 by_cases e:Zkp c h j=true
 · rw [if_pos e];simp [e]
 · rw [if_neg e];simp [e]
theorem Zug (c:List (Int × Int)) (h:List Int) (j:Nat):(Zfy c h j).length<=j:=by
 have:=List.length_filter_le (Zkp c h) (List.range j)
 rwa [List.length_range] at this
structure LkO (w wr:World) (bm nf:Nat) (cl:Nat->List Nat) (k n:Nat) (g:Nat->Value):Prop where
 gr:w.grownBy wr (some bm)
 mv:Zyz wr bm n nf g
 n_:n<=4096*k
 rows:∀ f,f<k->wr.ownsRow w.heap.size 3 1 (g f) (cl f).length (Zex (cl f))
 nil_:∀ f,k<=f->g f=Yop
structure LkI (w wr:World) (bm nf:Nat) (cl:Nat->List Nat) (k j n:Nat) (part:List Nat) (g:Nat->Value):Prop where
 gr:w.grownBy wr (some bm)
 mv:Zyz wr bm n nf g
 n_:n<=4096*k+j
 rows:∀ f,f<k->wr.ownsRow w.heap.size 3 1 (g f) (cl f).length (Zex (cl f))
 cur:wr.ownsRow w.heap.size 3 1 (g k) part.length (Zex part)
 nil_:∀ f,k<f->g f=Yop
 ap:∀ f,f<k->(g f).ownBlock=none\/(g f).ownBlock≠(g k).ownBlock
section
variable {w wr wr':World} {bm nf:Nat} {cl:Nat->List Nat} {k j n:Nat} {part:List Nat} {g:Nat->Value}
theorem Yiq (H:LkO w wr bm nf cl k n g):LkI w wr bm nf cl k 0 n [] g :=
 ⟨H.gr,H.mv,by have:=H.n_;omega,H.rows,by rw [H.nil_ k (Nat.le_refl _)];exact World.ownsRow_nil _ _ _ _,fun f hf=>H.nil_ f (by omega),fun f _=>by
  rw [H.nil_ k (Nat.le_refl _)]
  cases (g f).ownBlock with
  | none=>exact Or.inl rfl
  | some b=>exact Or.inr (by simp [Yop,Value.ownBlock])⟩
theorem Yvf (H:LkI w wr bm nf cl k j n part g) (hp:part=cl k) (hj:j<=4096):LkO w wr bm nf cl (k+1) n g :=
 ⟨H.gr,H.mv,by have:=H.n_;omega,fun f hf=>by
  by_cases e:f=k
  · subst e;rw [<- hp];exact H.cur
  · exact H.rows f (by omega),fun f hf=>H.nil_ f (by omega)⟩
theorem Yip (H:LkO w wr bm nf cl k n g) (e:wr.grownBy wr' none):LkO w wr' bm nf cl k n g :=
 ⟨Za H.gr (Zfu e),Zep H.mv e (by simp),H.n_,fun f hf=>(H.rows f hf).kept e (Classical.em _),H.nil_⟩
theorem Zuy (H:LkI w wr bm nf cl k j n part g) (e:wr.grownBy wr' none):LkI w wr' bm nf cl k j n part g :=
 ⟨Za H.gr (Zfu e),Zep H.mv e (by simp),H.n_,fun f hf=>(H.rows f hf).kept e (Classical.em _),H.cur.kept e (Classical.em _),H.nil_,H.ap⟩
theorem Yah (H:LkI w wr bm nf cl k j n part g):LkI w wr bm nf cl k (j+1) n part g:=⟨H.gr,H.mv,by have:=H.n_;omega,H.rows,H.cur,H.nil_,H.ap⟩
theorem Yve {W1 W2 W3:World} {v':Value} {at_:Nat} (H:LkI w wr bm nf cl k j n part g) (hbm:bm<w.heap.size) (g1:wr.grownBy W1 none) (hown:W2.ownsRow w.heap.size 3 1 v' (part.length+1) (Zex part++[.int .i64 (at_:Int)])) (g2:W1.grownBy W2 (g k).ownBlock)
 (hloc:v'.ownBlock=(g k).ownBlock\/v'.ownBlock=some W1.heap.size) (m3:Zyz W3 bm (n+1) nf (Yxg g k v')) (g3:W2.grownBy W3 (some bm)):LkI w W3 bm nf cl k (j+1) (n+1) (part++[at_]) (Yxg g k v'):=by
 have hbk:∀ b,(g k).ownBlock=some b->w.heap.size<=b/\b<wr.heap.size:=fun b hb=>H.cur.lt b hb
 have gw2:w.grownBy W2 (some bm):=by
  have h1:=Za H.gr (Zfu g1)
  cases hb:(g k).ownBlock with
  | none=>rw [hb] at g2;exact Za h1 (Zfu g2)
  | some b=>rw [hb] at g2;exact Zds h1 g2 (hbk b hb).1
 have ne3:∀ {v:Value} {m:Nat} {xs:List Value} {X:World},X.ownsRow w.heap.size 3 1 v m xs->v.ownBlock=none\/v.ownBlock≠some bm:=fun h=>Zpe h hbm
 refine ⟨Za gw2 g3,m3,by have:=H.n_;omega,fun f hf => ?_,?_,fun f hf => ?_,fun f hf => ?_⟩
 · rw [Zgz (show f≠k by omega)]
   have h1:=(H.rows f hf).kept g1 (Classical.em _)
   have h2:=h1.kept g2 (H.ap f hf)
   exact h2.kept g3 (ne3 h2)
 · rw [Zlx,List.length_append,Zhs]
   exact hown.kept g3 (ne3 hown)
 · rw [Zgz (show f≠k by omega)];exact H.nil_ f hf
 · rw [Zgz (show f≠k by omega),Zlx]
   rcases hloc with h|h
   · rw [h];exact H.ap f hf
   · cases hb:(g f).ownBlock with
     | none=>exact Or.inl rfl
     | some b =>
       right
       rw [h]
       intro e
       injection e with e
       have h1:=((H.rows f hf).lt b hb).2
       have h2:=g1.size
       omega
end
theorem Zav {w:World} {b bm n nf o:Nat} {g:Nat->Value} {v:Value} (h:Zyz w bm n nf g) (hc:w.cell? ⟨b,o,none⟩=some v):b≠bm:=by
 intro e
 subst e
 obtain ⟨_,_,D,⟨es,clock,hb,_⟩,_⟩:=h
 simp [World.cell?,hb] at hc
def Zza (w:World) (bx bm nf:Nat) (x0 x1 x2:Value) (P:List Bool->Prop) (e:Ending) (w':World):Prop :=
 (∃ v,e = .returned v)/\Sp (fun k=>k=bx\/k=bm) w w'/\∃ (gV:Nat) (V:List Bool) (ce co:Int),w'.heap[bx]? = some (.cells #[x0,x1,x2,.slice (some ⟨gV,0,none⟩) nf nf,.int .i64 ce,.int .i64 co] 35 (0,0)) /\
   w'.ownsRow w.heap.size 4 1 (.slice (some ⟨gV,0,none⟩) nf nf) nf (V.map Value.bool)/\P V
theorem Zab {P:Program} {fn:Func} {R R':Ending->World->Prop} (h:∀ e w,R e w->R' e w):∀ e a w,bodyPost P fn R e a w->bodyPost P fn R' e a w:=by
 intro e a w hb
 cases e <;> simp only [bodyPost] at hb ⊢ <;> first|exact ⟨hb.1,hb.2.choose,hb.2.choose_spec.1,h _ _ hb.2.choose_spec.2⟩|exact ⟨hb.1,h _ _ hb.2⟩|exact h _ _ hb|exact hb
theorem Yfn {P:Program} {fn:Func} {R R':Ending->World->Prop} {c d:Code} {a:Act} {w:World} {K:Act->World->Prop} (h:∀ e w,R e w->R' e w) (hK:∀ a w,d.wp P (bodyPost P fn R') a w->K a w)
 (H:c.wp P (Exit.then (fun a w=>d.wp P (bodyPost P fn R) a w) (bodyPost P fn R)) a w):c.wp P (Exit.then K (bodyPost P fn R')) a w:=by
 refine wp_mono H fun e a w he => ?_
 cases e with
 | normal=>exact hK a w (wp_mono he (Zab h))
 | exit id=>exact Zab (P:=P) (fn:=fn) (R:=R) (R':=R') h (.exit id) a w he
 | goto l=>exact Zab (P:=P) (fn:=fn) (R:=R) (R':=R') h (.goto l) a w he
 | ret=>exact Zab (P:=P) (fn:=fn) (R:=R) (R':=R') h .ret a w he
 | panic ch=>exact Zab (P:=P) (fn:=fn) (R:=R) (R':=R') h (.panic ch) a w he
 | outgrown=>exact Zab (P:=P) (fn:=fn) (R:=R) (R':=R') h .outgrown a w he
theorem Yvv (w:World) (x:Int):(Instr.buildSlice 32 1 #[(0,.int .i64 x)]).run Try.prog w = .ok (.slice (some ⟨w.heap.size,0,none⟩) 1 1) (w.alloc (.cells #[.int .i64 x] 3)):=by kernel_rfl
structure LkH (w:World) (bw bx bm B:Nat) (mem:Int) (pd:Option Addr) (nd cd:Nat) (pF:Option Addr) (cF:Nat) (fs:List FnP) (gH gT gL cH cT cL:Nat) (hs:Nat->List Int) (tops:Nat->Int) (ln:Nat->Nat):Prop where
 bwc:w.heap[bw]? = some (.cells #[.int .i64 mem,.slice pd nd cd,.slice pF fs.length cF,.pointer (some ⟨bx,0,none⟩),.map (some bm)] 71 (0,0))
 xc:w.heap[bx]? = some (.cells #[.slice (some ⟨gH,0,none⟩) fs.length cH,.slice (some ⟨gT,0,none⟩) fs.length cT,.slice (some ⟨gL,0,none⟩) fs.length cL,.slice none 0 0,.int .i64 0,.int .i64 0] 35 (0,0))
 m0:Zyz w bm 0 fs.length fun _=>Yop
 ne1:bw≠bx
 ne2:bm≠bx
 ne3:bm≠bw
 hF:Yl w B pF fs
 hB:B<=w.heap.size
 bx_:B<=bx
 bm_:B<=bm
 s2:St2 w bx gH gT fs hs tops
 hl:Zsy w bx gL fs.length ln
 z:∀ (f:Nat) (ar lo r:Int) (c:List (Int × Int)),fs[f]? = some (ar,lo,r,c)->(hs f).getD 0 0=0/\∀ x,x<c.length->0<=(hs f).getD x 0->∀ y∈Jc c x,y<c.length/\0<=(hs f).getD y 0
 a:∀ (f:Nat) (ar lo r:Int) (c:List (Int × Int)),fs[f]? = some (ar,lo,r,c)->ln f=0->Yxb (nxL c (hs f))
theorem isCall_iff {c:List (Int × Int)} {h:List Int} {x:Nat}:Zkp c h x=true ↔ (∃ a,c[x]? = some (17,a))/\0<=h.getD x 0:=by
 unfold Zkp
 cases e:c[x]? with
 | none=>simp
 | some y =>
   obtain ⟨op,a⟩:=y
   simp only [Bool.and_eq_true,decide_eq_true_eq,Option.some.injEq,Prod.mk.injEq,exists_eq_right']
theorem mem_partC {c:List (Int × Int)} {h:List Int} {j x:Nat}:x∈Zfy c h j ↔ x<j/\Zkp c h x=true:=by
 unfold Zfy
 rw [List.mem_filter,List.mem_range]
theorem Yap {w:World} {bw bx bm B:Nat} {mem:Int} {pd:Option Addr} {nd cd:Nat} {pF:Option Addr} {cF:Nat} {fs:List FnP} {gH gT gL cH cT cL:Nat} {hs:Nat->List Int} {tops:Nat->Int} {ln:Nat->Nat} (H:LkH w bw bx bm B mem pd nd cd pF cF fs gH gT gL cH cT cL hs tops ln) (hok:Zjp fs):Ywv fs hs (Znt fs hs) ln:=by
 refine ⟨H.z,H.a,fun f ar lo r c hfn x a hins hh => ?_,fun f ar lo r c hfn x hx => ?_⟩
 · unfold Znt
   simp only [hfn]
   exact mem_partC.2 ⟨(List.getElem?_eq_some_iff.1 hins).1,isCall_iff.2 ⟨⟨a,hins⟩,hh⟩⟩
 · unfold Znt at hx
   simp only [hfn] at hx
   obtain ⟨-,h2⟩:=mem_partC.1 hx
   obtain ⟨⟨a,ha⟩,-⟩:=isCall_iff.1 h2
   have hI:=(hok.ins _ (List.mem_of_getElem? hfn) _ (List.mem_of_getElem? ha)).ok.call rfl
   obtain ⟨k,rfl⟩:=Int.eq_ofNat_of_zero_le hI.1
   exact ⟨k,ha,by omega⟩
theorem Xdc {w wr:World} {bw bx bm B:Nat} {mem:Int} {pd:Option Addr} {nd cd:Nat} {pF:Option Addr} {cF:Nat} {fs:List FnP} {gH gT gL cH cT cL n:Nat} {hs:Nat->List Int} {tops:Nat->Int} {ln:Nat->Nat} {g:Nat->Value} (H:LkH w bw bx bm B mem pd nd cd pF cF fs gH gT gL cH cT cL hs tops ln) (hok:Zjp fs) (HO:LkO w wr bm fs.length (Znt fs hs) fs.length n g) :
 St wr bw bx bm B mem pd nd cd pF cF fs (Znt fs hs)/\St2 wr bx gH gT fs hs tops/\Zsy wr bx gL fs.length ln/\wr.heap[bx]? = some (.cells #[.slice (some ⟨gH,0,none⟩) fs.length cH,.slice (some ⟨gT,0,none⟩) fs.length cT,.slice (some ⟨gL,0,none⟩) fs.length cL,.slice none 0 0,.int .i64 0,.int .i64 0] 35 (0,0)):=by
 have hlx:=(Gs H.xc)
 have hlm:=Yic H.m0
 have sz:=HO.gr.size
 have HT:=Yap H hok
 have nn:∀ {b:Nat},b≠bm->(some bm:Option Nat)≠some b:=fun h e=>by injection e with e;exact h e.symm
 have nn':∀ {b:Nat},b≠bm->(some b:Option Nat)≠some bm:=fun h e=>by injection e with e;exact h e
 refine ⟨⟨Zb H.bwc HO.gr (nn (Ne.symm H.ne3)),H.ne1,H.ne2,by omega,Zq H.hF HO.gr (fun r e=>by injection e with e;rw [<- e];exact H.bm_),Nat.le_trans H.hB sz,by omega,H.bx_,hok.nf,fun f hf => ?_,fun f ar lo r c hfn=>⟨?_,HT.s f ar lo r c hfn⟩⟩,⟨H.s2.n1,H.s2.n2,fun f ar lo r c hfn => ?_,fun f hf => ?_,H.s2.ar⟩,⟨H.hl.ne,fun f hf => ?_⟩,Zb H.xc HO.gr (nn (Ne.symm H.ne2))⟩
 · have hr:=HO.rows f hf
   obtain ⟨p,cap,hv⟩:=Zp hr
   refine ⟨p,cap,fun W hW=>by rw [<- hv];exact Zxu (Yur HO.mv hW) hf,fun i at_ hi => ?_⟩
   have hpos:0<(Znt fs hs f).length:=by have:=(List.getElem?_eq_some_iff.1 hi).1;omega
   obtain ⟨b,cap2,e,hb,hc⟩:=Zx hr hpos
   rw [hv] at e
   injection e with e1 e2 e3
   have hbl:=(hr.lt b (by rw [hv,e1];rfl)).1
   refine ⟨b,e1,by omega,hc i _ ?_ (by have:=(List.getElem?_eq_some_iff.1 hi).1;omega)⟩
   unfold Zex
   rw [List.getElem?_map,hi]
   rfl
 · unfold Znt
   simp only [hfn]
   have:=Zug c (hs f) c.length
   have:=(hok.len _ (List.mem_of_getElem? hfn)).2
   simp only [] at this
   omega
 · obtain ⟨gh,ch,h1,h2,h3⟩:=H.s2.h f ar lo r c hfn
   exact ⟨gh,ch,HO.gr.cell h1 (nn' (Zav H.m0 h1)),h2,fun i hi=>⟨HO.gr.cell (h3 i hi).1 (nn' (Zav H.m0 (h3 i hi).1)),(h3 i hi).2⟩⟩
 · obtain ⟨h1,h2⟩:=H.s2.t f hf
   exact ⟨HO.gr.cell h1 (nn' (Zav H.m0 h1)),h2⟩
 · obtain ⟨p,c,h1⟩:=H.hl.at_ f hf
   exact ⟨p,c,HO.gr.cell h1 (nn' (Zav H.m0 h1))⟩
theorem Ypf {w wr:World} {bm nf k j n:Nat} {cl:Nat->List Nat} {part:List Nat} {g:Nat->Value} (H:LkI w wr bm nf cl k j n part g) (hk:k<64) (hj:j<=4096):n<1000000:=by have:=H.n_;omega
theorem Ypc {w wo w':World} {bx bm nf:Nat} {x0 x1 x2:Value} {P:List Bool->Prop} {e:Ending} (g:w.grownBy wo (some bm)) (hne:bm≠bx) (h:Zct wo bx nf x0 x1 x2 P e w'):Zza w bx bm nf x0 x1 x2 P e w':=by
 obtain ⟨h1,h2,gV,V,ce,co,h3,h4,h5⟩:=h
 refine ⟨h1,Yo (P:=fun k=>k=bx\/k=bm) (Yf g (fun k _ e=>by injection e with e;exact Or.inr e.symm)) (Yf (P:=fun k=>k=bx\/k=bm) h2 (fun k _ e=>by injection e with e;exact Or.inl e.symm)) (fun _ _ h=>h),gV,V,ce,co,h3,Zz h4 g.size,h5⟩
theorem Ypb (w:World) (bw bx bm B:Nat) (mem:Int) (pd:Option Addr) (nd cd:Nat) (pF:Option Addr) (cF:Nat) (fs:List FnP) (gH gT gL cH cT cL:Nat) (hs:Nat->List Int) (tops:Nat->Int) (ln:Nat->Nat) (H:LkH w bw bx bm B mem pd nd cd pF cF fs gH gT gL cH cT cL hs tops ln) (hok:Zjp fs) :
 Calls Try.prog 26 #[.pointer (some ⟨bw,0,none⟩)] w (Zza w bx bm fs.length (.slice (some ⟨gH,0,none⟩) fs.length cH) (.slice (some ⟨gT,0,none⟩) fs.length cT) (.slice (some ⟨gL,0,none⟩) fs.length cL) (Zon fs (Znt fs hs))):=by
 have b2:=Cq _ _ 2 _ _ _ H.bwc
 have s1:=(Gs H.bwc)
 have h64:=hok.nf
 have hn1:=hok.n1
 have hlm:=Yic H.m0
 obtain ⟨bF,oF,hpF,hbF,hcF⟩:=H.hF (by omega)
 have HH:=Hq H
 have OK:=Hq hok
 have HCF:=Hq hcF
 have hB:=H.hB
 have hbm:=H.bm_
 have hn3:=H.ne3
 have LK0:=Hq (show LkO w w bm fs.length (Znt fs hs) 0 0 (fun _=>Yop) from ⟨Zc _ _,H.m0,by omega,fun f hf=>absurd hf (Nat.not_lt_zero _),fun f _=>rfl⟩)
 clear H hok hcF
 subst hpF
 have HS1:=Hq s1
 go_enter Try.func26,Try.ntmps26
 go_wp2
 clear b2 s1
 go_loopw [27] (fun i wr=>∃ (k n:Nat) (g:Nat->Value),i = .int .i64 k/\k<=fs.length/\LkO w wr bm fs.length (Znt fs hs) k n g) (fun i _=>fs.length - (intOf i).toNat)
 case atStart=>exact ⟨0,0,_,rfl,Nat.zero_le _,LK0.out⟩
 case round =>
  obtain ⟨k,n,g,rfl,hk,hO⟩:=hrel
  obtain ⟨wo,hwo⟩:∃ wo,wo=wr:=⟨_,rfl⟩
  subst hwo
  clear LK0
  by_cases hlt:(k:Int)<(fs.length:Int)
  · obtain ⟨⟨ar,lo,r,c⟩,hfn⟩:∃ fn,fs[k]? = some fn:=⟨_,List.getElem?_eq_getElem (by omega)⟩
    have sz:=hO.gr.size
    have nF:(some bF:Option Nat)≠some bm:=by intro e;injection e with e;omega
    obtain ⟨c0,c1,c2,pc,cc,c3,hcode⟩:=HCF.out k ar lo r c hfn
    have e0:=hO.gr.cell c0 nF
    have e1:=hO.gr.cell c1 nF
    have e2:=hO.gr.cell c2 nF
    have e3:=hO.gr.cell c3 nF
    have hlen:=OK.out.len _ (List.mem_of_getElem? hfn)
    simp only [] at hlen
    obtain ⟨b',o',hpc,hb',hcc⟩:=hcode (by omega)
    subst hpc
    have hbF2:bF<wo.heap.size:=by omega
    have hcl:Znt fs hs k=Zfy c (hs k) c.length:=by unfold Znt;simp only [hfn]
    have LI0:=Hq (Yiq (Yip hO (Ga wo (.cells #[.int .i64 ar,.int .i64 lo,.int .i64 r,.slice (some ⟨b',o',none⟩) c.length cc] 52) none)))
    have HO:=Hq hO
    have HFN:=Hq hfn
    have HCC:=Hq hcc
    have HCL:=Hq hcl
    obtain ⟨gh,ch,hH1,hH2,hH3⟩:=HH.out.s2.h k ar lo r c hfn
    have HH1:=Hq hH1
    have HH3:=Hq hH3
    have hci:(c.length:Int)<=4096:=by omega
    clear hO hfn hcc hcl hcode c0 c1 c2 c3 hH1 hH3
    go_wp2
    go_loopw [35] (fun i wr=>∃ (j n':Nat) (g':Nat->Value),i = .int .i64 j/\j<=c.length/\LkI w wr bm fs.length (Znt fs hs) k j n' (Zfy c (hs k) j) g') (fun i _=>c.length - (intOf i).toNat)
    case atStart=>exact ⟨0,n,g,rfl,Nat.zero_le _,LI0.out⟩
    case round =>
     obtain ⟨j,n',g',rfl,hj,hI⟩:=hrel
     have HI:=Hq hI
     clear e0 e1 e2 e3 LI0
     by_cases hjl:(j:Int)<(c.length:Int)
     · obtain ⟨⟨op,a⟩,hins⟩:∃ x,c[j]? = some x:=⟨_,List.getElem?_eq_getElem (by omega)⟩
       obtain ⟨d0,d1⟩:=HCC.out j op a hins
       have nb:(some b':Option Nat)≠some bm:=by intro e;injection e with e;omega
       have x0:=hI.gr.cell d0 nb
       have x1:=hI.gr.cell d1 nb
       have szr:=hI.gr.size
       have sb:b'<wr.heap.size:=by omega
       have gB:=Ga wr (.cells #[.int .i64 op,.int .i64 a] 49) none
       have I2:=Zuy hI gB
       have PS:=Hq (Yco c (hs k) j)
       have HIN:=Hq hins
       have HI2:=Hq I2
       by_cases h17:op=17
       · subst h17
         have kb:=Zb HH.out.bwc I2.gr (by intro e;injection e with e;exact hn3 e)
         have b3:=Cq _ _ 3 _ _ _ kb
         have b4:=Cq _ _ 4 _ _ _ kb
         have q1:=(Gs kb)
         have kx:=Zb HH.out.xc I2.gr (by intro e;injection e with e;exact HH.out.ne2 e)
         have y0:=Cq _ _ 0 _ _ _ kx
         have q2:=(Gs kx)
         have nH:∀ {b:Nat},b≠bm->(some b:Option Nat)≠some bm:=fun h e=>h (by injection e)
         have t1:=I2.gr.cell HH1.out (nH (Zav HH.out.m0 HH1.out))
         obtain ⟨u1,u2,u3⟩:=HH3.out j (by omega)
         have t2:=I2.gr.cell u1 (nH (Zav HH.out.m0 u1))
         have q3:=World.block_lt_of_cell? _ _ t1
         have q4:=World.block_lt_of_cell? _ _ t2
         have KB:=Hq kb
         clear kb kx u1 hI hins d0 d1 gB I2 nH
         generalize hhv:(hs k).getD j 0=hv at *
         have HHV:=Hq hhv
         clear hhv
         by_cases hneg:hv<0
         · have PP:=Hq (show Zfy c (hs k) (j+1)=Zfy c (hs k) j by
            have:=PS.out
            rw [if_neg (fun e=>by have h1:=(isCall_iff.1 e).2;have:=HHV.out;omega)] at this
            exact this)
           clear PS
           go_wp2
           go_roundw
           case rel=>exact ⟨j+1,n',g',by go_num,by omega,by rw [PP.out];exact Yah HI2.out⟩
           case measure=>simp [intOf];omega
         · have PP:=Hq (show Zfy c (hs k) (j+1)=Zfy c (hs k) j++[j] by
            have:=PS.out
            rw [if_pos (isCall_iff.2 ⟨⟨a,HIN.out⟩,by have:=HHV.out;omega⟩)] at this
            exact this)
           have hpl:=Zug c (hs k) j
           clear PS
           generalize Zfy c (hs k) j=part at *
           go_upto_region 8 with fail
           rename_i K hK hge
           clear t1 t2 q3 q4 b3 y0 x0 x1
           have I3:=Zuy HI2.out (Ze (Zc (wr.alloc (.cells #[.int .i64 17,.int .i64 a] 49)) none))
           generalize wr.alloc (.cells #[.int .i64 17,.int .i64 a] 49)=W at *
           have g1:=Ga W.drew (.cells #[.int .i64 j] 3) none
           have hl0:=Zxu I3.mv (f:=k) (by omega)
           have hl1:=Zxu (Zep I3.mv g1 (by simp)) (f:=k) (by omega)
           obtain ⟨ii,ii0,ii1,ii2,ii3⟩:=info_parts Zao
           obtain ⟨v',W2,hap,hown,hgr,hnil,hloc⟩:=run_append_own_at (P:=Try.prog) (w:=W.drew.alloc (.cells #[.int .i64 j] 3)) w.heap.size 32 32 3 ii (.int .i64 0) 1 8 Zbv ii0 ii1 ii2 ii3 rfl (by decide) (g' k) part.length (Zex part) (I3.cur.kept g1 (Classical.em _)) ⟨W.drew.heap.size,0,none⟩ 1 1 [.int .i64 j] rfl (Zgl W.drew _ _) (Zcq _ _) (by unfold maxLen;omega) (by omega) (by have:=I3.gr.size;simp at this ⊢;omega)
           have hgb:W.drew.alloc (.cells #[.int .i64 j] 3)=W.drew.alloc (.cells #[.int .i64 (j:Int)] 3):=rfl
           have gK:∀ b,(g' k).ownBlock=some b->w.heap.size<=b:=fun b hb=>(I3.cur.lt b hb).1
           have m2:Zyz W2 bm n' fs.length g':=Zep (Zep I3.mv g1 (by simp)) hgr (by
            intro e
            have:=gK bm e.symm
            omega)
           obtain ⟨W3,hput,m3,g3⟩:=Yos (f:=k) (v:=v') m2 (by omega) (Ypf I3 (by omega) (by omega))
           have LF:=Hq (Yve (at_:=j) I3 hlm g1 hown hgr hloc m3 g3)
           have nw:∀ {r:Option Nat},(∀ b,r=some b->w.heap.size<=b\/b=bm)->r≠some bw:=fun h e=>by
            have h1:=h bw e
            have h2:=HS1.out
            rcases h1 with h1|h1
            · omega
            · exact hn3 h1.symm
           have k1:=Zb KB.out (Za (Ze (Zc W none)) g1) (by simp)
           have k2:=Zb k1 hgr (nw fun b hb=>Or.inl (gK b hb))
           have k3:=Zb k2 g3 (nw fun b hb=>Or.inr (by injection hb with hb;exact hb.symm))
           have q8:j<=4096:=by omega
           refine Yij W.drew _ W2 W3 bw k j bm W.drew.heap.size (g' k) v' hl0 hl1 (Yvv _ _) hap hput b4 (Cq _ _ 4 _ _ _ k1) (Cq _ _ 4 _ _ _ k2) (Cq _ _ 4 _ _ _ k3) W rfl _ rfl rfl rfl rfl _ ?_
           clear hl0 hl1 hap hown hgr hnil hloc hgb gK m2 hput m3 g3 nw k1 k2 k3 g1 I3 b4 q1 q2 KB
           refine hK _ _ ?_
           simp only [Zay,lq,lqv,Act.put,List.setIfInBounds_toArray,List.set_cons_zero,List.set_cons_succ]
           clear hK K
           go_wp2
           refine ⟨⟨j+1,n'+1,_,by go_num,by omega,by rw [PP.out];exact LF.out⟩,by simp [intOf];omega⟩
       · have PP:=Hq (show Zfy c (hs k) (j+1)=Zfy c (hs k) j by
          have:=PS.out
          rw [if_neg (fun e=>by
           obtain ⟨⟨a',h1⟩,-⟩:=isCall_iff.1 e
           rw [hins] at h1
           injection h1 with h1
           injection h1 with h1 _
           exact h17 h1)] at this
          exact this)
         have h17b:(op == 17)=false:=by simp [h17]
         clear PS hI hins d0 d1 gB I2
         go_wp2
         go_roundw
         case rel=>exact ⟨j+1,n',g',by go_num,by omega,by rw [PP.out];exact Yah HI2.out⟩
         case measure=>simp [intOf];omega
     · have hje:j=c.length:=by omega
       have E:=Hq (Yvf hI (by rw [HCL.out,hje]) (by omega))
       clear hI
       go_wp2
       go_roundw
       case rel=>exact ⟨k+1,n',g',by go_num,by omega,E.out⟩
       case measure=>simp [intOf];omega
  · have hkn:k=fs.length:=by omega
    subst hkn
    have HO:=Hq hO
    clear hO
    go_upto_region 11 with fail
    rename_i K hK
    obtain ⟨h1,h2,h3,h4⟩:=Xdc HH.out OK.out HO.out
    refine Yfn (R:=Zct wo bx fs.length (.slice (some ⟨gH,0,none⟩) fs.length cH) (.slice (some ⟨gT,0,none⟩) fs.length cT) (.slice (some ⟨gL,0,none⟩) fs.length cL) (Zon fs (Znt fs hs))) (fun e w' he=>Ypc HO.out.gr HH.out.ne2 he) hK ?_
    exact Xai wo bw bx bm B mem pd nd cd _ cF fs (Znt fs hs) h1 OK.out gH gT gL cH cT cL hs tops ln h2 h3 (Yap HH.out OK.out) h4 _ ⟨rfl,rfl,rfl,rfl⟩ _ (fun a w' h=>h)
def Zci:Code->Option Code
 | .loop c=>some c
 | .seq a b=>match Zci a with
   | some c=>some c
   | none=>Zci b
 | .block _ c=>Zci c
 | .scope c=>Zci c
 | .cond _ a b=>match Zci a with
   | some c=>some c
   | none=>Zci b
 | _=>none
noncomputable def Zgo:Code:=((Try.f25.body.bind Zci).getD .skip)
def lpF (A:LA) (n:Nat) (t:Nat->Value):Act:=⟨#[t 0,t 1,t 2,t 3,t 4,t 5,t 6,.func (.func 40) #[] #[.pointer (some ⟨A.h,0,none⟩),.pointer (some ⟨A.p,0,none⟩),.pointer (some ⟨A.f,0,none⟩)],.pointer (some ⟨A.n,0,none⟩),.pointer (some ⟨A.b,0,none⟩),.pointer (some ⟨A.o,0,none⟩),.slice (some ⟨A.gi,0,none⟩) n n,.pointer (some ⟨A.r,0,none⟩),.pointer (some ⟨A.w,0,none⟩),.pointer (some ⟨A.m,0,none⟩),.func (.func 42) #[] #[.pointer (some ⟨A.m,0,none⟩),.pointer (some ⟨A.n,0,none⟩),.pointer (some ⟨A.b,0,none⟩),.pointer (some ⟨A.o,0,none⟩),.pointer (some ⟨A.r,0,none⟩),.pointer (some ⟨A.w,0,none⟩)],t 16,t 17,t 18,t 19,t 20,t 21,t 22,t 23,t 24,t 25,t 26,t 27,t 28,t 29,t 30,t 31,t 32,t 33,t 34,t 35,t 36,t 37,t 38,t 39,t 40,t 41,t 42,t 43,t 44,t 45,t 46,t 47,t 48,t 49,t 50,t 51,t 52,t 53,t 54,t 55,t 56,t 57,t 58,t 59,t 60,t 61,t 62,t 63,t 64,t 65,t 66,t 67,t 68,t 69,t 70,t 71,t 72,t 73,t 74,t 75,t 76,t 77,t 78,t 79,t 80,t 81,t 82,t 83,t 84,t 85,t 86,t 87,t 88,t 89,t 90,t 91,t 92,t 93,t 94,t 95,t 96,t 97,t 98,t 99,t 100,t 101,t 102,t 103,t 104,t 105,t 106,t 107,t 108,t 109,t 110,t 111,t 112,t 113,t 114,t 115,t 116,t 117,t 118,t 119,t 120,t 121,t 122,t 123,t 124,t 125,t 126,t 127,t 128,t 129,t 130,t 131,t 132,t 133,t 134,t 135,t 136,t 137,t 138,t 139,t 140,t 141,t 142,t 143,t 144,t 145,t 146,t 147,t 148,t 149,t 150,t 151,t 152,t 153,t 154,t 155,t 156,t 157,t 158,t 159,t 160,t 161,t 162,t 163,t 164,t 165,t 166,t 167,t 168,t 169,t 170,t 171,t 172,t 173,t 174,t 175,t 176,t 177,t 178,t 179,t 180,t 181,t 182,t 183,t 184,t 185,t 186,t 187,t 188,t 189,t 190,t 191,t 192,t 193,t 194,t 195,t 196,t 197,t 198,t 199,t 200,t 201,t 202,t 203,t 204,t 205,t 206,t 207,t 208,t 209,t 210],[]⟩
structure LFr (A:LA) (n:Nat) (a:Act):Prop where
 sz:a.tmps.size=211
 df:a.defers=[]
 s7:a.tmps.getD 7 undef = .func (.func 40) #[] #[.pointer (some ⟨A.h,0,none⟩),.pointer (some ⟨A.p,0,none⟩),.pointer (some ⟨A.f,0,none⟩)]
 s8:a.tmps.getD 8 undef = .pointer (some ⟨A.n,0,none⟩)
 s9:a.tmps.getD 9 undef = .pointer (some ⟨A.b,0,none⟩)
 s10:a.tmps.getD 10 undef = .pointer (some ⟨A.o,0,none⟩)
 s11:a.tmps.getD 11 undef = .slice (some ⟨A.gi,0,none⟩) n n
 s12:a.tmps.getD 12 undef = .pointer (some ⟨A.r,0,none⟩)
 s13:a.tmps.getD 13 undef = .pointer (some ⟨A.w,0,none⟩)
 s14:a.tmps.getD 14 undef = .pointer (some ⟨A.m,0,none⟩)
 s15:a.tmps.getD 15 undef = .func (.func 42) #[] #[.pointer (some ⟨A.m,0,none⟩),.pointer (some ⟨A.n,0,none⟩),.pointer (some ⟨A.b,0,none⟩),.pointer (some ⟨A.o,0,none⟩),.pointer (some ⟨A.r,0,none⟩),.pointer (some ⟨A.w,0,none⟩)]
theorem Yrs {A:LA} {n:Nat} {a:Act} (H:LFr A n a):a=lpF A n (fun i=>a.tmps.getD i undef):=by
 refine Zki H.sz H.df fun j hj => ?_
 have hs:=H.sz
 rw [hs] at hj
 unfold tm
 iterate 7 (rcases j with _|j;· rfl)
 rcases j with _|j
 · exact H.s7
 rcases j with _|j
 · exact H.s8
 rcases j with _|j
 · exact H.s9
 rcases j with _|j
 · exact H.s10
 rcases j with _|j
 · exact H.s11
 rcases j with _|j
 · exact H.s12
 rcases j with _|j
 · exact H.s13
 rcases j with _|j
 · exact H.s14
 rcases j with _|j
 · exact H.s15
 iterate 195 (rcases j with _|j;· rfl)
 omega
def Xf (w:World) (code:List (Int × Int)) (h:List Int) (e:Ending) (w':World):Prop :=
 ∃ v L,e = .returned v/\w.grownBy w' none/\w'.ownsRow w.heap.size 3 1 v L.length (Zex L)/\(L=[]->Yxb (nxL code h))
def LpR (w:World) (R:Nat) (A:LA) (C:LC) (code:List (Int × Int)) (h:List Int) (k:Nat) (wr:World):Prop :=
 ∃ s vr vw,k=Jp code.length (nxL code h) s/\Zlt code.length (nxL code h) s/\4*s.met+Zac code.length s.num<=4*code.length/\LpW w R A C vr vw (Xr s) wr
def LNext (w:World) (R:Nat) (A:LA) (C:LC) (code:List (Int × Int)) (h:List Int) (k:Nat) (a:Act) (wr:World):Prop:=∃ k',k'<k/\LFr A code.length a/\LpR w R A C code h k' wr
theorem LNext.intro {w:World} {R:Nat} {A:LA} {C:LC} {code:List (Int × Int)} {h:List Int} {k:Nat} {a:Act} {wr:World} (k':Nat) (h1:k'<k) (h2:LFr A code.length a) (h3:LpR w R A C code h k' wr):LNext w R A C code h k a wr:=⟨k',h1,h2,h3⟩
structure Yls (w:World) (B:Nat) (fs:List FnP) (pF:Option Addr) (f:Nat) (ar lo r:Int) (c:List (Int × Int)) (gh:Nat) (h:List Int):Prop where
 hB:B<=w.heap.size
 hF:Yl w B pF fs
 hf:fs[f]? = some (ar,lo,r,c)
 nf:fs.length<=64
 l1:1<=c.length
 l2:c.length<=4096
 hh:∀ i:Nat,i<c.length->w.cell? ⟨gh,i,none⟩=some (.int .i64 (h.getD i 0))
theorem Zxw {w wr:World} {B:Nat} {fs:List FnP} {pF:Option Addr} {cF f:Nat} {ar lo r:Int} {c:List (Int × Int)} {gh:Nat} {h:List Int} {mem:Int} {pd:Option Addr} {nd cd R:Nat} {A:LA} {vr vw:Value} {s:LS} {x:Nat} (E:Yls w B fs pF f ar lo r c gh h)
 (hW:LpW w R A ⟨mem,.slice pd nd cd,.slice pF fs.length cF,f,.slice (some ⟨gh,0,none⟩) c.length c.length,c.length⟩ vr vw s wr) (hx:x<c.length) :
 ∃ L:List Int,L.length<=2/\L.length=(nxL c h x).length/\(∀ j m:Nat,(nxL c h x)[j]? = some m->L[j]? = some (m:Int)) /\
   Calls Try.prog 40 #[.int .i64 x,.pointer (some ⟨A.h,0,none⟩),.pointer (some ⟨A.p,0,none⟩),.pointer (some ⟨A.f,0,none⟩)] wr (Zfp wr L):=by
 obtain ⟨⟨op,a⟩,hins⟩:∃ y,c[x]? = some y:=⟨_,List.getElem?_eq_getElem (by omega)⟩
 have hspot:Znz fs f x (ar,lo,r,c) op a:=⟨E.hf,hins,E.nf,E.l2⟩
 have hxl:=Yzr (h:=h) hins
 exact ⟨nxE (h.getD x 0) c.length op a x,Yho _ _ _ _ _,hxl.1.symm,hxl.2,Yum mem (.slice pd nd cd) fs pF cF B f x (ar,lo,r,c) op a (h.getD x 0) wr 0 A.p A.f A.h gh c.length c.length ⟨_,_,_,rfl⟩ (Nat.le_trans E.hB hW.gr.size) (Zq E.hF hW.gr (by simp)) hspot hW.bp hW.bf hW.bh hx (by rw [Nat.zero_add];exact hW.gr.cell (E.hh x hx) (by simp))⟩
theorem Xae {w wr:World} {B:Nat} {fs:List FnP} {pF:Option Addr} {cF f:Nat} {ar lo r:Int} {c:List (Int × Int)} {gh:Nat} {h:List Int} {mem:Int} {pd:Option Addr} {nd cd R k:Nat} {A:LA} {vr vw:Value} {s:TS} {f1:Fr} {r1:List Fr} (Kx:Act->World->Prop) (t:Nat->Value) (E:Yls w B fs pF f ar lo r c gh h)
 (hk:k=Jp c.length (nxL c h) s) (hI:Zlt c.length (nxL c h) s) (hm:4*s.met+Zac c.length s.num<=4*c.length) (hW:LpW w R A ⟨mem,.slice pd nd cd,.slice pF fs.length cF,f,.slice (some ⟨gh,0,none⟩) c.length c.length,c.length⟩ vr vw (Xr s) wr) (hS:s.S=f1::r1) {m:Nat} (hM:(nxL c h f1.at_)[f1.done]? = some m) (h0:s.num.getD m 0=0) :
 Code.wp Try.prog Zgo (Exit.then (LNext w R A ⟨mem,.slice pd nd cd,.slice pF fs.length cF,f,.slice (some ⟨gh,0,none⟩) c.length c.length,c.length⟩ c h k) (Exit.inBlock 0 (Exit.then Kx (bodyPost Try.prog Try.f25 (Xf w c h))))) (lpF A c.length t) wr:=by
 obtain ⟨gw,cw,hv⟩:=Zht hW hS
 subst hv
 have hfr:f1.at_∈Xs s.S:=by rw [hS];simp [Xs]
 have hfm:f1.at_<c.length:=hI.lt _ hfr
 obtain ⟨L,hL2,hLl,hLe,NX'⟩:=Zxw E hW hfm
 have NX:=Hq NX'
 have hrb:=Zcf hI
 have hrl:r1.length<4096:=by
  have h1:=E.l2
  have h2:=hrb.2
  rw [hS] at h2
  simp only [List.length_cons] at h2 ⊢
  omega
 have kw:=Zw hW.bw
 obtain ⟨-,hx0,hx1,hxz,sgw⟩:=Ycv hW hS
 have sgw7:∀ w7:World,wr.grownBy w7 none->gw<w7.heap.size:=fun w7 g=>Nat.lt_of_lt_of_le sgw g.size
 have HW:=Hq hW
 have HI:=Hq hI
 have HS:=Hq hS
 have HK:=Hq hk
 have HM:=Hq hm
 have EE:=Hq E
 have hwl:(Xr s).way.length=r1.length+1:=(Xx hS).2.1
 have hLm:=hLe _ _ hM
 have hlt:(f1.done:Int)<(L.length:Int):=by have:=(List.getElem?_eq_some_iff.1 hLm).1;omega
 have hLv:(L.map (Value.int .i64))[f1.done]? = some (.int .i64 m):=by rw [List.getElem?_map,hLm];rfl
 have HLV:=Hq hLv
 have hL0:0<L.length:=by omega
 have hL1:f1.done<L.length*1:=by omega
 have HMM:=Hq hM
 have HWL:=Hq hwl
 clear hW hI hS hk hm E hLm hLv hLe hrb NX' hM hLl hwl hfr
 unfold lpF
 generalize t 0=u,t 1=u,t 2=u,t 3=u,t 4=u,t 5=u,t 6=u,t 16=u,t 17=u,t 18=u,t 19=u,t 20=u,t 21=u,t 22=u,t 23=u,t 24=u,t 25=u,t 26=u,t 27=u,t 28=u,t 29=u,t 30=u,t 31=u,t 32=u,t 33=u,t 34=u,t 35=u,t 36=u,t 37=u,t 38=u,t 39=u,t 40=u,t 41=u,t 42=u,t 43=u,t 44=u,t 45=u,t 46=u,t 47=u,t 48=u,t 49=u,t 50=u,t 51=u,t 52=u,t 53=u,t 54=u,t 55=u,t 56=u,t 57=u,t 58=u,t 59=u,t 60=u,t 61=u,t 62=u,t 63=u,t 64=u,t 65=u,t 66=u,t 67=u,t 68=u,t 69=u,t 70=u,t 71=u,t 72=u,t 73=u,t 74=u,t 75=u,t 76=u,t 77=u,t 78=u,t 79=u,t 80=u,t 81=u,t 82=u,t 83=u,t 84=u,t 85=u,t 86=u,t 87=u,t 88=u,t 89=u,t 90=u,t 91=u,t 92=u,t 93=u,t 94=u,t 95=u,t 96=u,t 97=u,t 98=u,t 99=u,t 100=u,t 101=u,t 102=u,t 103=u,t 104=u,t 105=u,t 106=u,t 107=u,t 108=u,t 109=u,t 110=u,t 111=u,t 112=u,t 113=u,t 114=u,t 115=u,t 116=u,t 117=u,t 118=u,t 119=u,t 120=u,t 121=u,t 122=u,t 123=u,t 124=u,t 125=u,t 126=u,t 127=u,t 128=u,t 129=u,t 130=u,t 131=u,t 132=u,t 133=u,t 134=u,t 135=u,t 136=u,t 137=u,t 138=u,t 139=u,t 140=u,t 141=u,t 142=u,t 143=u,t 144=u,t 145=u,t 146=u,t 147=u,t 148=u,t 149=u,t 150=u,t 151=u,t 152=u,t 153=u,t 154=u,t 155=u,t 156=u,t 157=u,t 158=u,t 159=u,t 160=u,t 161=u,t 162=u,t 163=u,t 164=u,t 165=u,t 166=u,t 167=u,t 168=u,t 169=u,t 170=u,t 171=u,t 172=u,t 173=u,t 174=u,t 175=u,t 176=u,t 177=u,t 178=u,t 179=u,t 180=u,t 181=u,t 182=u,t 183=u,t 184=u,t 185=u,t 186=u,t 187=u,t 188=u,t 189=u,t 190=u,t 191=u,t 192=u,t 193=u,t 194=u,t 195=u,t 196=u,t 197=u,t 198=u,t 199=u,t 200=u,t 201=u,t 202=u,t 203=u,t 204=u,t 205=u,t 206=u,t 207=u,t 208=u,t 209=u,t 210=u
 clear t
 conv=>arg 2;whnf
 go_upto_region 18 with (first
  | (go_at_call 40;refine NX.out.mono ?_;rintro e w7 ⟨v7,rfl,hg7,ho7⟩;obtain ⟨p7,k7,hv7,hp7,hc7⟩:=Zx ho7 hL0;subst hv7;have H7:=Hq (Xg HW.out hg7);have y0:=hg7.cell hx0 (by simp);have y1:=hg7.cell hx1 (by simp);have z1:=Ye (Xg HW.out hg7).rw_ (r1.length*2+1);have sgw8:=sgw7 w7 hg7;have e7:=hc7 f1.done (.int .i64 m) HLV.out hL1;clear hx0 hx1 hxz sgw kw hg7 ho7 hc7))
 have hd1:(f1.done:Int)+1=((f1.done+1:Nat):Int):=by omega
 rw [hd1]
 obtain ⟨s1,hs1⟩:∃ s1,s1={ s with S:=⟨f1.at_,f1.done+1,f1.ex⟩::r1 }:=⟨_,rfl⟩
 have H8:=Zrs H7.out ((f1.done+1:Nat):Int) (by rw [HWL.out]) (Xx HS.out).2.2
 rw [Zrr HS.out,<- hs1] at H8
 have hS1:s1.S=⟨f1.at_,f1.done+1,f1.ex⟩::r1:=by rw [hs1]
 clear y0 y1 z1 hd1 H7 sgw8 e7
 generalize w7.setCell ⟨gw,r1.length*2+1,none⟩ (.int .i64 ((f1.done+1:Nat):Int))=w8 at H8 ⊢
 have hmn:m<c.length:=Zkn f1.at_ m (List.mem_of_getElem? HMM.out)
 obtain ⟨-,x0,x1,xz,xs⟩:=Ycv H8 hS1
 simp only [] at x0 x1
 have bn8:=Zw H8.bn
 have bo8:=Zw H8.bo
 have bb8:=Zw H8.bb
 obtain ⟨cn8,zn8⟩:=Zux H8 m hmn
 obtain ⟨co8,zo8⟩:=Ycw H8 m hmn
 have sn8:=World.block_lt_of_cell? _ _ cn8
 have so8:=World.block_lt_of_cell? _ _ co8
 have tn:(Xr s1).num=s.num:=by rw [hs1];rfl
 have to:(Xr s1).on=s.on:=by rw [hs1];rfl
 have tb:(Xr s1).back=s.back:=by rw [hs1];rfl
 rw [tn] at cn8
 rw [to] at co8
 have hmi:(m:Int)<(c.length:Int):=by omega
 have HH8:=Hq H8
 have HS1:=Hq hs1
 have hfr:f1.at_∈Xs s.S:=by rw [HS.out];simp [Xs]
 have hfn:=HI.out.num _ hfr
 have hne:((m:Int) == (f1.at_:Int))=false:=beq_eq_false_iff_ne.2 (fun e=>by
  have:m=f1.at_:=by omega
  subst this;omega)
 rw [h0] at cn8
 have hI1:=Ytb (n:=c.length) (next:=nxL c h) (fun x _ y hy=>Zkn x y hy) (Yun c h) HI.out HS.out HMM.out h0
 obtain ⟨s2,hs2⟩:∃ s2,s2={ s with num:=s.num.set m (s.met+1),back:=s.back.set m (s.met+1),on:=s.on.set m true,S:=⟨m,0,[]⟩::⟨f1.at_,f1.done+1,f1.ex⟩::r1,met:=s.met+1 }:=⟨_,rfl⟩
 rw [<- hs2] at hI1
 have hm2:4*s2.met+Zac c.length s2.num<=4*c.length:=by
  rw [hs2]
  have h1:=Zju (v:=s.met+1) HI.out.l1 hmn h0 (by omega)
  have h2:=HM.out
  simp only []
  omega
 have e9:Yaz (Xr s1) m=Xr s2:=by rw [You,hs1,hs2]
 have hb1:=Zcf HI.out
 have hc2:=EE.out.l2
 have hrw:(Xr s1).row.length<=4096:=by
  rw [hs1]
  have e:(Xr { s with S:=⟨f1.at_,f1.done+1,f1.ex⟩::r1 }).row=Xs s.S:=by rw [HS.out];rfl
  rw [e];omega
 have hww:(Xr s1).way.length<=4096:=by rw [(Xx hS1).2.1];omega
 have hmet:(Xr s1).met<=4096:=by
  rw [hs1]
  have:=HM.out
  show s.met<=4096
  omega
 have EN':=Zvm w w8 R A _ vr _ (Xr s1) m H8 hmn hmet hrw hww
 unfold Zwp at EN'
 rw [e9] at EN'
 have EN3:=Hq EN'
 have hjj:r1.length*2<(Xr s1).way.length*2:=by rw [(Xx hS1).2.1];omega
 have HX0:=Hq x0
 have HI1:=Hq hI1
 have HM2:=Hq hm2
 clear H8 hI1 h0 hrw hww hmet hs1 e9 EN' hm2 hb1 hs2
 go_wp2_with (go_at_call 42;refine EN3.out.mono ?_;rintro e w9 ⟨⟨v9,rfl⟩,vr9,vw9,H9,O9⟩;have u0:=O9 gw rfl (r1.length*2) _ hjj HX0.out;have sgw9:=World.block_lt_of_cell? _ _ u0;have HH9:=Hq H9;clear x0 x1 xz xs bn8 bo8 bb8 cn8 zn8 co8 zo8 sn8 so8 H9 O9)
 have HR:=Hq (show LpR w R A ⟨mem,.slice pd nd cd,.slice pF fs.length cF,f,.slice (some ⟨gh,0,none⟩) c.length c.length,c.length⟩ c h (Jp c.length (nxL c h) s2) w9 from ⟨s2,vr9,vw9,rfl,HI1.out.1,HM2.out,HH9.out⟩)
 exact LNext.intro (Jp c.length (nxL c h) s2) (by rw [HK.out];exact HI1.out.2) ⟨rfl,rfl,rfl,rfl,rfl,rfl,rfl,rfl,rfl,rfl,rfl⟩ HR.out
theorem Yoz {w wr:World} {B:Nat} {fs:List FnP} {pF:Option Addr} {cF f:Nat} {ar lo r:Int} {c:List (Int × Int)} {gh:Nat} {h:List Int} {mem:Int} {pd:Option Addr} {nd cd R k:Nat} {A:LA} {vr vw:Value} {s:TS} {f1:Fr} {r1:List Fr} (Kx:Act->World->Prop) (t:Nat->Value) (E:Yls w B fs pF f ar lo r c gh h)
 (hk:k=Jp c.length (nxL c h) s) (hI:Zlt c.length (nxL c h) s) (hm:4*s.met+Zac c.length s.num<=4*c.length) (hW:LpW w R A ⟨mem,.slice pd nd cd,.slice pF fs.length cF,f,.slice (some ⟨gh,0,none⟩) c.length c.length,c.length⟩ vr vw (Xr s) wr) (hS:s.S=f1::r1) {m:Nat} (hM:(nxL c h f1.at_)[f1.done]? = some m) (h0:s.num.getD m 0≠0) (hon:s.on.getD m false=false) :
 Code.wp Try.prog Zgo (Exit.then (LNext w R A ⟨mem,.slice pd nd cd,.slice pF fs.length cF,f,.slice (some ⟨gh,0,none⟩) c.length c.length,c.length⟩ c h k) (Exit.inBlock 0 (Exit.then Kx (bodyPost Try.prog Try.f25 (Xf w c h))))) (lpF A c.length t) wr:=by
 obtain ⟨gw,cw,hv⟩:=Zht hW hS
 subst hv
 have hfr:f1.at_∈Xs s.S:=by rw [hS];simp [Xs]
 have hfm:f1.at_<c.length:=hI.lt _ hfr
 obtain ⟨L,hL2,hLl,hLe,NX'⟩:=Zxw E hW hfm
 have NX:=Hq NX'
 have hrb:=Zcf hI
 have hrl:r1.length<4096:=by
  have h1:=E.l2
  have h2:=hrb.2
  rw [hS] at h2
  simp only [List.length_cons] at h2 ⊢
  omega
 have kw:=Zw hW.bw
 obtain ⟨-,hx0,hx1,hxz,sgw⟩:=Ycv hW hS
 have sgw7:∀ w7:World,wr.grownBy w7 none->gw<w7.heap.size:=fun w7 g=>Nat.lt_of_lt_of_le sgw g.size
 have HW:=Hq hW
 have HI:=Hq hI
 have HS:=Hq hS
 have HK:=Hq hk
 have HM:=Hq hm
 have EE:=Hq E
 have hwl:(Xr s).way.length=r1.length+1:=(Xx hS).2.1
 have hLm:=hLe _ _ hM
 have hlt:(f1.done:Int)<(L.length:Int):=by have:=(List.getElem?_eq_some_iff.1 hLm).1;omega
 have hLv:(L.map (Value.int .i64))[f1.done]? = some (.int .i64 m):=by rw [List.getElem?_map,hLm];rfl
 have HLV:=Hq hLv
 have hL0:0<L.length:=by omega
 have hL1:f1.done<L.length*1:=by omega
 have HMM:=Hq hM
 have HWL:=Hq hwl
 clear hW hI hS hk hm E hLm hLv hLe hrb NX' hM hLl hwl hfr
 unfold lpF
 generalize t 0=u,t 1=u,t 2=u,t 3=u,t 4=u,t 5=u,t 6=u,t 16=u,t 17=u,t 18=u,t 19=u,t 20=u,t 21=u,t 22=u,t 23=u,t 24=u,t 25=u,t 26=u,t 27=u,t 28=u,t 29=u,t 30=u,t 31=u,t 32=u,t 33=u,t 34=u,t 35=u,t 36=u,t 37=u,t 38=u,t 39=u,t 40=u,t 41=u,t 42=u,t 43=u,t 44=u,t 45=u,t 46=u,t 47=u,t 48=u,t 49=u,t 50=u,t 51=u,t 52=u,t 53=u,t 54=u,t 55=u,t 56=u,t 57=u,t 58=u,t 59=u,t 60=u,t 61=u,t 62=u,t 63=u,t 64=u,t 65=u,t 66=u,t 67=u,t 68=u,t 69=u,t 70=u,t 71=u,t 72=u,t 73=u,t 74=u,t 75=u,t 76=u,t 77=u,t 78=u,t 79=u,t 80=u,t 81=u,t 82=u,t 83=u,t 84=u,t 85=u,t 86=u,t 87=u,t 88=u,t 89=u,t 90=u,t 91=u,t 92=u,t 93=u,t 94=u,t 95=u,t 96=u,t 97=u,t 98=u,t 99=u,t 100=u,t 101=u,t 102=u,t 103=u,t 104=u,t 105=u,t 106=u,t 107=u,t 108=u,t 109=u,t 110=u,t 111=u,t 112=u,t 113=u,t 114=u,t 115=u,t 116=u,t 117=u,t 118=u,t 119=u,t 120=u,t 121=u,t 122=u,t 123=u,t 124=u,t 125=u,t 126=u,t 127=u,t 128=u,t 129=u,t 130=u,t 131=u,t 132=u,t 133=u,t 134=u,t 135=u,t 136=u,t 137=u,t 138=u,t 139=u,t 140=u,t 141=u,t 142=u,t 143=u,t 144=u,t 145=u,t 146=u,t 147=u,t 148=u,t 149=u,t 150=u,t 151=u,t 152=u,t 153=u,t 154=u,t 155=u,t 156=u,t 157=u,t 158=u,t 159=u,t 160=u,t 161=u,t 162=u,t 163=u,t 164=u,t 165=u,t 166=u,t 167=u,t 168=u,t 169=u,t 170=u,t 171=u,t 172=u,t 173=u,t 174=u,t 175=u,t 176=u,t 177=u,t 178=u,t 179=u,t 180=u,t 181=u,t 182=u,t 183=u,t 184=u,t 185=u,t 186=u,t 187=u,t 188=u,t 189=u,t 190=u,t 191=u,t 192=u,t 193=u,t 194=u,t 195=u,t 196=u,t 197=u,t 198=u,t 199=u,t 200=u,t 201=u,t 202=u,t 203=u,t 204=u,t 205=u,t 206=u,t 207=u,t 208=u,t 209=u,t 210=u
 clear t
 conv=>arg 2;whnf
 go_upto_region 18 with (first
  | (go_at_call 40;refine NX.out.mono ?_;rintro e w7 ⟨v7,rfl,hg7,ho7⟩;obtain ⟨p7,k7,hv7,hp7,hc7⟩:=Zx ho7 hL0;subst hv7;have H7:=Hq (Xg HW.out hg7);have y0:=hg7.cell hx0 (by simp);have y1:=hg7.cell hx1 (by simp);have z1:=Ye (Xg HW.out hg7).rw_ (r1.length*2+1);have sgw8:=sgw7 w7 hg7;have e7:=hc7 f1.done (.int .i64 m) HLV.out hL1;clear hx0 hx1 hxz sgw kw hg7 ho7 hc7))
 have hd1:(f1.done:Int)+1=((f1.done+1:Nat):Int):=by omega
 rw [hd1]
 obtain ⟨s1,hs1⟩:∃ s1,s1={ s with S:=⟨f1.at_,f1.done+1,f1.ex⟩::r1 }:=⟨_,rfl⟩
 have H8:=Zrs H7.out ((f1.done+1:Nat):Int) (by rw [HWL.out]) (Xx HS.out).2.2
 rw [Zrr HS.out,<- hs1] at H8
 have hS1:s1.S=⟨f1.at_,f1.done+1,f1.ex⟩::r1:=by rw [hs1]
 clear y0 y1 z1 hd1 H7 sgw8 e7
 generalize w7.setCell ⟨gw,r1.length*2+1,none⟩ (.int .i64 ((f1.done+1:Nat):Int))=w8 at H8 ⊢
 have hmn:m<c.length:=Zkn f1.at_ m (List.mem_of_getElem? HMM.out)
 obtain ⟨-,x0,x1,xz,xs⟩:=Ycv H8 hS1
 simp only [] at x0 x1
 have bn8:=Zw H8.bn
 have bo8:=Zw H8.bo
 have bb8:=Zw H8.bb
 obtain ⟨cn8,zn8⟩:=Zux H8 m hmn
 obtain ⟨co8,zo8⟩:=Ycw H8 m hmn
 have sn8:=World.block_lt_of_cell? _ _ cn8
 have so8:=World.block_lt_of_cell? _ _ co8
 have tn:(Xr s1).num=s.num:=by rw [hs1];rfl
 have to:(Xr s1).on=s.on:=by rw [hs1];rfl
 have tb:(Xr s1).back=s.back:=by rw [hs1];rfl
 rw [tn] at cn8
 rw [to] at co8
 have hmi:(m:Int)<(c.length:Int):=by omega
 have HH8:=Hq H8
 have HS1:=Hq hs1
 have hfr:f1.at_∈Xs s.S:=by rw [HS.out];simp [Xs]
 have hfn:=HI.out.num _ hfr
 have hb1:((s.num.getD m 0:Nat):Int)≠0:=by omega
 have hb2:(((s.num.getD m 0:Nat):Int) == 0)=false:=beq_eq_false_iff_ne.2 hb1
 rw [hon] at co8
 have hne:((m:Int) == (f1.at_:Int))=false:=beq_eq_false_iff_ne.2 (fun e=>by
  have:m=f1.at_:=by omega
  subst this
  rw [(HI.out.onr _ hfm).2 hfr] at hon;cases hon)
 have hI1:=Ytc HI.out (fun x _ y hy=>Zkn x y hy) HS.out HMM.out h0 hon
 rw [<- hs1] at hI1
 have HI1:=Hq hI1
 have hm2:4*s1.met+Zac c.length s1.num<=4*c.length:=by rw [hs1];exact HM.out
 have HM2:=Hq hm2
 clear H8 hI1 h0 hon hs1 hb1 hm2
 generalize hz:((s.num.getD m 0:Nat):Int)=zz at cn8 hb2
 clear hz
 go_wp2
 have HR:=Hq (show LpR w R A ⟨mem,.slice pd nd cd,.slice pF fs.length cF,f,.slice (some ⟨gh,0,none⟩) c.length c.length,c.length⟩ c h (Jp c.length (nxL c h) s1) w8 from ⟨s1,_,_,rfl,HI1.out.1,HM2.out,HH8.out⟩)
 exact LNext.intro (Jp c.length (nxL c h) s1) (by rw [HK.out];exact HI1.out.2) ⟨rfl,rfl,rfl,rfl,rfl,rfl,rfl,rfl,rfl,rfl,rfl⟩ HR.out
end Go.Proofs.Ythlkflagancdfaa.CK
