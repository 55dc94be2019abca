/-
  Part of a proof: contracts of functions and lemmas, each stated by its own theorem. Conditions: as each theorem states.
-/
import Derived.Test.YthlkflagancdfaaMK20
import Derived.Deep.RegionHeld3
import Derived.Test.YthlkflagancdfaaMK13
import Derived.Deep.OwnRows
set_option linter.unusedSimpArgs false
set_option linter.unusedVariables false
set_option maxRecDepth 100000
set_option maxHeartbeats 16000000
namespace Go.Proofs.Ythlkflagancdfaa.CK
open Go.RowKit Go.Great Go.Maps
structure Zsy (w0:World) (bx gL nf:Nat) (ln:Nat->Nat):Prop where
 ne:gL≠bx
 at_:∀ f:Nat,f<nf->∃ (p:Option Addr) (c:Nat),w0.cell? ⟨gL,f,none⟩=some (.slice p (ln f) c)
theorem Xah (w0 w:World) (bw bx bm nf gV:Nat) (mem:Int) (pd:Option Addr) (nd cd:Nat) (pF:Option Addr) (cF:Nat) (x0 x1:Value) (gL cL:Nat) (ln:Nat->Nat) (ce co:Int) (V:List Bool) (P:List Bool->Prop) (hP:P V) (H:LkW w0 w bw bx bm nf gV mem pd nd cd pF cF x0 x1 (.slice (some ⟨gL,0,none⟩) nf cL) ce co V) (HL:Zsy w0 bx gL nf ln)
 (h64:nf<=64) (hce:∀ (w:World) (bk:Nat),LkW w0 w bw bx bm nf gV mem pd nd cd pF cF x0 x1 (.slice (some ⟨gL,0,none⟩) nf cL) ce co V->KnW w bk nf (fun _=>none)->w0.heap.size<=bk->bk≠gV->Calls Try.prog 45 #[.pointer (some ⟨bw,0,none⟩),.int .i64 0,.map (some bk)] w (Ywx w nf bk))
 (hco:(∀ f:Nat,f<nf->V.getD f false=true->ln f=0)->∀ (w:World) (bk:Nat) (ce:Int),LkW w0 w bw bx bm nf gV mem pd nd cd pF cF x0 x1 (.slice (some ⟨gL,0,none⟩) nf cL) ce co V->KnW w bk nf (fun _=>none)->w0.heap.size<=bk->bk≠gV->Calls Try.prog 46 #[.pointer (some ⟨bw,0,none⟩),.int .i64 0,.map (some bk)] w (Ywx w nf bk))
 (a:Act) (ha:Xby bw nf a) (K:Act->World->Prop) (hK:∀ a w,Code.wp Try.prog (Zzp Try.f26 20) (bodyPost Try.prog Try.f26 (Zct w0 bx nf x0 x1 (.slice (some ⟨gL,0,none⟩) nf cL) P)) a w->K a w) :
 Code.wp Try.prog (Ycl Try.f26 20) (Exit.then K (bodyPost Try.prog Try.f26 (Zct w0 bx nf x0 x1 (.slice (some ⟨gL,0,none⟩) nf cL) P))) a w:=by
 rw [Yir ha]
 generalize (fun i=>a.tmps.getD i undef)=t
 clear ha
 have HH:=Hq H
 have HP:=Hq hP
 have HLL:=Hq HL
 have HCO:=Hq hco
 have hlv:=Zpm H
 have hlx:=H.lx
 have hsz:=H.g.size
 have kb:=Zb (Zpn H) (Ga w (.map #[] 0) none) (by simp)
 have b3:=Cq _ _ 3 _ _ _ kb
 have s1:=(Gs kb)
 have H1:=Zak H (Ga w (.map #[] 0) none) (fun k e=>by cases e)
 have H1d:=Zak H1 (Ze (Zc _ none)) (fun k e=>by cases e)
 have CE:=Hq (hce _ w.heap.size H1d (Zcb (Yal w h64) (Ze (Zc _ none)) (by simp)) hsz (by omega))
 have HH1:=Hq H1d
 clear H hP HL hco hce H1 H1d kb
 unfold lkF
 generalize t 1=u,t 3=u,t 4=u,t 5=u,t 6=u,t 7=u,t 8=u,t 9=u,t 10=u,t 11=u,t 12=u,t 13=u,t 14=u,t 15=u,t 16=u,t 17=u,t 18=u,t 19=u,t 20=u,t 21=u,t 22=u,t 23=u,t 24=u,t 25=u,t 26=u,t 27=u,t 28=u,t 29=u,t 30=u,t 31=u,t 32=u,t 33=u,t 34=u,t 35=u,t 36=u,t 37=u,t 38=u,t 39=u,t 40=u,t 41=u,t 42=u,t 43=u,t 44=u,t 45=u,t 46=u,t 47=u,t 48=u,t 49=u,t 50=u,t 51=u,t 52=u,t 53=u,t 54=u,t 55=u,t 56=u,t 57=u,t 58=u,t 59=u,t 60=u,t 61=u,t 62=u,t 63=u,t 64=u,t 65=u,t 66=u,t 67=u,t 68=u,t 69=u,t 70=u,t 71=u,t 72=u,t 73=u,t 74=u,t 75=u,t 76=u,t 77=u,t 78=u,t 79=u,t 80=u,t 81=u,t 82=u,t 83=u,t 84=u,t 85=u,t 86=u,t 87=u,t 88=u,t 89=u,t 90=u,t 91=u,t 92=u,t 93=u,t 94=u,t 95=u,t 96=u,t 97=u,t 98=u,t 99=u,t 100=u,t 101=u,t 102=u,t 103=u,t 104=u,t 105=u,t 106=u,t 107=u,t 108=u,t 109=u,t 110=u,t 111=u,t 112=u,t 113=u,t 114=u,t 115=u,t 116=u,t 117=u,t 118=u,t 119=u,t 120=u,t 121=u,t 122=u,t 123=u,t 124=u,t 125=u,t 126=u,t 127=u,t 128=u,t 129=u,t 130=u,t 131=u,t 132=u,t 133=u,t 134=u,t 135=u,t 136=u,t 137=u,t 138=u,t 139=u,t 140=u,t 141=u,t 142=u,t 143=u,t 144=u,t 145=u,t 146=u,t 147=u,t 148=u,t 149=u,t 150=u,t 151=u,t 152=u,t 153=u,t 154=u,t 155=u,t 156=u,t 157=u,t 158=u,t 159=u,t 160=u,t 161=u,t 162=u,t 163=u,t 164=u,t 165=u,t 166=u,t 167=u,t 168=u,t 169=u,t 170=u,t 171=u,t 172=u,t 173=u,t 174=u,t 175=u,t 176=u,t 177=u
 clear t
 conv=>arg 2;whnf
 have hmm := @run_makeMap Try.prog
 go_wp2
 clear hmm
 try clear K
 conv=>arg 2;whnf
 go_wp2
 generalize w.alloc (.map #[] 0)=W at *
 generalize hbk:w.heap.size=bk at *
 clear hbk
 go_region_held3 (fun W'=>W'.cell? ⟨bw,3,none⟩=some (.pointer (some ⟨bx,0,none⟩))/\bw<W'.heap.size) (first|exact ⟨by assumption,by assumption⟩|assumption) (first|(go_at_call 45;refine CE.out.mono ?_;rintro e w2 ⟨v,kn,rfl,g2,k2⟩;have H2:=Zak HH1.out g2 (fun k e=>by injection e with e;omega);have k3:=Zpn H2;have c3:=Cq _ _ 3 _ _ _ k3;have q3:=(Gs k3);have j4:=Cq _ _ 4 _ _ _ H2.xc;have z4:=frozen_of_row _ _ 4 _ _ H2.xc;have q4:=(Gs H2.xc);have h4:=Ype H2 (by omega) v;have c3b:=Cq _ _ 3 _ _ _ (Zpn h4);have q3b:=(Array.getElem?_eq_some_iff.1 (Zpn h4)).1;have H4:=Hq h4;clear h4;clear g2 k2 k3 H2))
 clear c3 q3 j4 z4 q4 b3 s1 CE HH HH1
 generalize w2.setCell ⟨bx,4,none⟩ (.int .i64 v)=W4 at *
 go_wp2
 go_loop [131] (fun i=>∃ k:Nat,i = .int .i64 k/\k<=nf/\∀ f:Nat,f<k->V.getD f false=true->ln f=0) (fun i=>nf - (intOf i).toNat)
 case atStart=>exact ⟨0,rfl,Nat.zero_le _,fun f hf=>absurd hf (Nat.not_lt_zero _)⟩
 case round =>
  obtain ⟨k,rfl,hk,hdone⟩:=hrel
  have hj:=H4.out.xc
  have s2:=(Gs hj)
  have j2:=Cq _ _ 2 _ _ _ hj
  have j3:=Cq _ _ 3 _ _ _ hj
  have hV:=V
  have hlV:V.length=nf:=by have:=H4.out.r.1;simpa using this
  have HDN:=Hq hdone
  by_cases hlt:(k:Int)<(nf:Int)
  · have hkn:k<nf:=by omega
    have vk:W4.cell? ⟨gV,k,none⟩=some (.bool (V.getD k false)):=by
     rw [H4.out.r.cellAt k (by omega),List.getElem?_map,List.getD_eq_getElem?_getD,List.getElem?_eq_getElem (by omega:k<V.length)]
     rfl
    obtain ⟨p,c,hc⟩:=HLL.out.at_ k hkn
    have lk:=H4.out.g.cell hc (by intro e;injection e with e;exact HLL.out.ne e)
    clear hj hdone hc hV hlV
    cases hb:V.getD k false with
    | false =>
      rw [hb] at vk
      have HB:=Hq hb
      clear hb lk
      go_wp2
      go_round
      case rel=>exact ⟨k+1,by go_num,by omega,fun f hf hv=>by
       by_cases e:f=k
       · subst e;rw [HB.out] at hv;cases hv
       · exact HDN.out f (by omega) hv⟩
      case measure=>simp [intOf];omega
    | true =>
      rw [hb] at vk
      have HB:=Hq hb
      clear hb
      by_cases hn:(0:Int)<(ln k:Int)
      · generalize ln k=m at *
        go_wp2
        refine bodyPost_end0 rfl rfl ?_
        exact Zlp H4.out HP.out _
      · obtain ⟨m,hm⟩:∃ m,m=ln k:=⟨_,rfl⟩
        have HM:=Hq hm
        rw [<- hm] at lk hn
        clear hm
        go_wp2
        go_round
        case rel=>exact ⟨k+1,by go_num,by omega,fun f hf hv=>by
         by_cases e:f=k
         · subst e;have:=HM.out;omega
         · exact HDN.out f (by omega) hv⟩
        case measure=>simp [intOf];omega
  · have hkn:k=nf:=by omega
    subst hkn
    clear hj j2 j3 hV hlV hdone
    go_upto_region 27 with fail
    rename_i K hK
    exact Xag w0 W4 bw bx bm k gV mem pd nd cd pF cF x0 x1 _ v co V P HP.out H4.out h64 (fun w bk h1 h2 h3 h4=>HCO.out HDN.out w bk v h1 h2 h3 h4) _ ⟨rfl,rfl,rfl,rfl⟩ K hK
theorem Zku {next:Nat->List Nat} {V:Nat->Bool}:∀ {fin:List Nat},Zta next fin->(∀ x∈fin,V x=true->∀ y∈next x,V y=true)->Zta next (fin.filter V)
 | [],_,_=>trivial
 | x::r,h,hv=>by
   have ih:=Zku h.2 (fun z hz=>hv z (List.mem_cons_of_mem _ hz))
   by_cases e:V x=true
   · rw [List.filter_cons_of_pos e]
     exact ⟨fun y hy=>List.mem_filter.2 ⟨h.1 y hy,hv x (List.mem_cons_self ..) e y hy⟩,ih⟩
   · rw [List.filter_cons_of_neg e];exact ih
theorem Zrl:∀ (n:Nat) (l:List Nat),l.Nodup->(∀ x∈l,x<n)->l.length<=n
 | 0,[],_,_=>Nat.le_refl _
 | 0,x::r,_,h=>absurd (h x (List.mem_cons_self ..)) (Nat.not_lt_zero _)
 | n+1,l,hd,h=>by
   by_cases e:n∈l
   · have h1:=Zrl n (l.erase n) (hd.erase n) (fun x hx=>by
      have h2:=(hd.mem_erase_iff).1 hx
      have:=h x h2.2
      omega)
     rw [List.length_erase_of_mem e] at h1
     omega
   · have:=Zrl n l hd (fun x hx=>by
      have h1:=h x hx
      have h2:x≠n:=fun h=>e (h ▸ hx)
      omega)
     omega
structure Ywv (fs:List FnP) (hs:Nat->List Int) (cl:Nat->List Nat) (ln:Nat->Nat):Prop where
 z:∀ (f:Nat) (ar lo r:Int) (c:List (Int × Int)),fs[f]? = some (ar,lo,r,c)->(hs f).getD 0 0=0/\∀ x,x<c.length->0<=(hs f).getD x 0->∀ y∈Jc c x,y<c.length/\0<=(hs f).getD y 0
 a:∀ (f:Nat) (ar lo r:Int) (c:List (Int × Int)),fs[f]? = some (ar,lo,r,c)->ln f=0->Yxb (nxL c (hs f))
 k:∀ (f:Nat) (ar lo r:Int) (c:List (Int × Int)),fs[f]? = some (ar,lo,r,c)->∀ (at_:Nat) (a:Int),c[at_]? = some (17,a)->0<=(hs f).getD at_ 0->at_∈cl f
 s:∀ (f:Nat) (ar lo r:Int) (c:List (Int × Int)),fs[f]? = some (ar,lo,r,c)->∀ at_∈cl f,∃ a:Nat,c[at_]? = some (17,(a:Int))/\a<fs.length
theorem Xbe {fs:List FnP} {hs:Nat->List Int} {cl:Nat->List Nat} {ln:Nat->Nat} {fin:List Nat} {f:Nat} {ar lo r:Int} {c:List (Int × Int)} (hok:Zjp fs) (HO:Ywv fs hs cl ln) (hfin:Zta (Xv fs cl) fin) (hff:f∈fin) (hfn:fs[f]? = some (ar,lo,r,c)) (hl:ln f=0) :
 ∃ (Zde:Nat->Nat) (T:Nat->Prop),T 0/\CoP fin f c Zde T:=by
 obtain ⟨hz,hc⟩:=HO.z f ar lo r c hfn
 obtain ⟨Zde,T,h0,hT⟩:=Ynp (hok.len _ (List.mem_of_getElem? hfn)).1 hz hc (HO.a f ar lo r c hfn hl)
 refine ⟨Zde,T,h0,⟨fun x hx=>⟨(hT x hx).1,(hT x hx).2.2⟩,fun x hx a hins => ?_⟩⟩
 have hm:=HO.k f ar lo r c hfn x a hins (hT x hx).2.1
 obtain ⟨a',h1,h2⟩:=HO.s f ar lo r c hfn x hm
 rw [hins] at h1
 injection h1 with h1
 injection h1 with _ h1
 subst h1
 have hmem:a'∈Xv fs cl f:=by
  unfold Xv
  simp only [hfn]
  refine List.mem_map.2 ⟨x,hm,?_⟩
  simp only [hins]
  exact Int.toNat_natCast a'
 rw [Int.toNat_natCast]
 exact ⟨by omega,Zqu hfin f hff a' hmem⟩
structure MB (n:Nat) (K:List Nat) (D:List (Nat × Nat)) (w0:World) (blk:Nat->Nat) (obj:(Nat->Nat)->Array Bool->Nat->Obj) (l:Array Bool) (w:World):Prop where
 sz:l.size=n
 g:w0.grownBy w none
 b:∀ i∈K,l.getD i false=true->w0.heap.size<=blk i/\w.heap[blk i]? = some (obj blk l i)
 d:∀ i∈K,∀ j∈K,i≠j->l.getD i false=true->l.getD j false=true->blk i≠blk j
 x:∀ p∈D,l.getD p.1 false=true->l.getD p.2 false=true
def Yee (blk:Nat->Nat) (i v:Nat):Nat->Nat:=fun k=>if k=i then v else blk k
theorem Zcx (blk:Nat->Nat) (i v:Nat):Yee blk i v i=v:=if_pos rfl
theorem Zat {blk:Nat->Nat} {i v k:Nat} (h:k≠i):Yee blk i v k=blk k:=if_neg h
section
variable {n i:Nat} {K:List Nat} {D:List (Nat × Nat)} {w0 w w':World} {blk:Nat->Nat} {obj:(Nat->Nat)->Array Bool->Nat->Obj} {l:Array Bool}
theorem Yoq (w0:World):MB n K D w0 blk obj (Array.replicate n false) w0:=by
 have F:∀ i,(Array.replicate n false).getD i false=true->False:=fun i h=>by rw [getD_replicate_false] at h;cases h
 exact ⟨by simp,Zc _ _,fun i _ h=>(F i h).elim,fun i _ j _ _ h _=>(F i h).elim,fun p _ h=>(F _ h).elim⟩
theorem Zfe (h:MB n K D w0 blk obj l w) (hi:i<n) (j:Nat):(l.setIfInBounds i true).getD j false=if j=i then true else l.getD j false:=Yd l i j (by rw [h.sz];exact hi)
theorem Xek (h:MB n K D w0 blk obj l w) (hi:i<n) (hx:∀ p∈D,p.1=i->l.getD p.2 false=true):∀ p∈D,(l.setIfInBounds i true).getD p.1 false=true->(l.setIfInBounds i true).getD p.2 false=true:=fun p hp e=>by
 rw [Zfe h hi] at e ⊢
 by_cases h2:p.2=i
 · rw [if_pos h2]
 · rw [if_neg h2]
   by_cases h1:p.1=i
   · exact hx p hp h1
   · rw [if_neg h1] at e;exact h.x p hp e
theorem Yuq (h:MB n K D w0 blk obj l w) (hi:i<n) (hk:i ∉ K) (hx:∀ p∈D,p.1=i->l.getD p.2 false=true) (ho:∀ k∈K,l.getD k false=true->obj blk (l.setIfInBounds i true) k=obj blk l k) :
 MB n K D w0 blk obj (l.setIfInBounds i true) w:=by
 have nk:∀ k,k∈K->k≠i:=fun k h1 h2=>hk (by rw [<- h2];exact h1)
 refine ⟨by simp [h.sz],h.g,fun k hk' e => ?_,fun a ha b hb hab e1 e2 => ?_,Xek h hi hx⟩
 · rw [Zfe h hi,if_neg (nk _ hk')] at e
   rw [ho k hk' e]
   exact h.b k hk' e
 · rw [Zfe h hi,if_neg (nk _ ha)] at e1
   rw [Zfe h hi,if_neg (nk _ hb)] at e2
   exact h.d a ha b hb hab e1 e2
theorem Yzv {o:Obj} (h:MB n K D w0 blk obj l w) (hi:i<n) (hk:i∈K) (hx:∀ p∈D,p.1=i->l.getD p.2 false=true) (hn:obj (Yee blk i w.heap.size) (l.setIfInBounds i true) i=o)
 (ho:∀ k∈K,k≠i->l.getD k false=true->obj (Yee blk i w.heap.size) (l.setIfInBounds i true) k=obj blk l k) :
 MB n K D w0 (Yee blk i w.heap.size) obj (l.setIfInBounds i true) (w.alloc o):=by
 have gA:w.grownBy (w.alloc o) none:=Ga _ _ _
 have lt:∀ k∈K,l.getD k false=true->blk k<w.heap.size:=fun k hk' e=>(Array.getElem?_eq_some_iff.1 (h.b k hk' e).2).1
 refine ⟨by simp [h.sz],Za h.g gA,fun k hk' e => ?_,fun a ha b hb hab e1 e2 => ?_,Xek h hi hx⟩
 · rw [Zfe h hi] at e
   by_cases hki:k=i
   · subst hki
     rw [Zcx,hn]
     exact ⟨h.g.size,heap_alloc_new _ _⟩
   · rw [if_neg hki] at e
     rw [Zat hki,ho k hk' hki e]
     exact ⟨(h.b k hk' e).1,Zb (h.b k hk' e).2 gA (by simp)⟩
 · rw [Zfe h hi] at e1 e2
   by_cases ha':a=i
   · subst ha'
     rw [Zcx,Zat (Ne.symm hab)]
     rw [if_neg (Ne.symm hab)] at e2
     have:=lt b hb e2
     omega
   · rw [if_neg ha'] at e1
     by_cases hb':b=i
     · subst hb'
       rw [Zcx,Zat hab]
       have:=lt a ha e1
       omega
     · rw [if_neg hb'] at e2
       rw [Zat ha',Zat hb']
       exact h.d a ha b hb hab e1 e2
theorem Yab {k:Nat} (h:MB n K D w0 blk obj l w) (hi:i<n) (hiK:i ∉ K) (hk:k∈K) (hl:l.getD k false=true) (hx:∀ p∈D,p.1=i->l.getD p.2 false=true) (hg:w.grownBy w' (some (blk k)))
 (hn:w'.heap[blk k]? = some (obj blk (l.setIfInBounds i true) k)) (ho:∀ j∈K,j≠k->l.getD j false=true->obj blk (l.setIfInBounds i true) j=obj blk l j) :
 MB n K D w0 blk obj (l.setIfInBounds i true) w':=by
 have nk:∀ k,k∈K->k≠i:=fun k h1 h2=>hiK (by rw [<- h2];exact h1)
 refine ⟨by simp [h.sz],Yw h.g hg (fun r e=>by injection e with e;subst e;exact (h.b k hk hl).1),fun j hj e => ?_,fun a ha b hb hab e1 e2 => ?_,Xek h hi hx⟩
 · rw [Zfe h hi,if_neg (nk _ hj)] at e
   by_cases hjk:j=k
   · subst hjk;exact ⟨(h.b j hj hl).1,hn⟩
   · rw [ho j hj hjk e]
     exact ⟨(h.b j hj e).1,Zb (h.b j hj e).2 hg (fun e2=>by injection e2 with e2;exact h.d k hk j hj (Ne.symm hjk) hl e e2)⟩
 · rw [Zfe h hi,if_neg (nk _ ha)] at e1
   rw [Zfe h hi,if_neg (nk _ hb)] at e2
   exact h.d a ha b hb hab e1 e2
end
end Go.Proofs.Ythlkflagancdfaa.CK
