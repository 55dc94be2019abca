/-
  Part of a proof: contracts of functions and lemmas, each stated by its own theorem. Conditions: as each theorem states.
-/
import Derived.Test.YthlkflagancdfaaMK15
import Derived.Test.YthlkflagancdfaaMK27
import Derived.Deep.RegionHeld3
import Derived.Outline
import Derived.Test.YthlkflagancdfaaMK18
import Derived.Laws.EntriesVeiled
import Derived.Test.YthlkflagancdfaaMK20
set_option linter.unusedSimpArgs false
set_option linter.unusedVariables false
set_option maxRecDepth 100000
set_option maxHeartbeats 16000000
namespace Go.Proofs.Ythlkflagancdfaa.CK
open Go.RowKit Go.Great
def Ypu (nf:Nat) (fn:FnP):Prop:=∀ x∈fn.2.2.2,opE nf fn.2.2.2.length fn.2.1 x=0
def Ybm (fs:List FnP) (err:Int) (f n:Nat):Prop :=
 (err=0/\f=0/\n=0/\∀ fn∈fs,Ypu fs.length fn) \/
 (err≠0/\∃ fn x,fs[f]? = some fn/\fn.2.2.2[n]? = some x/\opE fs.length fn.2.2.2.length fn.2.1 x=err/\(∀ g:Nat,g<f->∀ fn',fs[g]? = some fn'->Ypu fs.length fn')/\∀ m:Nat,m<n->∀ y,fn.2.2.2[m]? = some y->opE fs.length fn.2.2.2.length fn.2.1 y=0)
def Ylr (w:World) (fs:List FnP) (e:Ending) (w':World):Prop:=w.grownBy w' none/\∃ err f n,e = .returned (.agg #[.int .i64 err,.int .i64 (f:Nat),.int .i64 (n:Nat)])/\Ybm fs err f n
structure OpW (w0 wr:World) (mem:Int) (vd vF:Value):Prop where
 gr:w0.grownBy wr none
 pb:Yej wr w0.heap.size mem vd vF
 fb:wr.heap[w0.heap.size+1]? = some (.cells #[.int .i64 0,.int .i64 0,.int .i64 0] 39 (0,0))
theorem Zum {w0 wr w':World} {mem:Int} {vd vF:Value} (H:OpW w0 wr mem vd vF) (g:wr.grownBy w' none):OpW w0 w' mem vd vF :=
 ⟨Za H.gr g,Zck H.pb g (by simp),Zb H.fb g (by simp)⟩
theorem Zrh {w wr:World} {mem:Int} {vd vF:Value} {fs:List FnP} (err:Int) (f n:Nat) (H:OpW w wr mem vd vF) (ho:Ybm fs err f n) :
 Ylr w fs (.returned (.agg #[.int .i64 err,.int .i64 f,.int .i64 n])) (((wr.setCell ⟨w.heap.size+1,0,none⟩ (.int .i64 err)).setCell ⟨w.heap.size+1,1,none⟩ (.int .i64 f)).setCell ⟨w.heap.size+1,2,none⟩ (.int .i64 n)) :=
 ⟨Zd (Zd (Zd H.gr (by omega)) (by omega)) (by omega),err,f,n,rfl,ho⟩
theorem Zjg {fn:Func} {R:Ending->World->Prop} {a:Act} {wr:World} {b p:Nat} {e f n:Int} (hres:fn.results = #[.cell p 39]) (hp:a.tmps.getD p undef = .pointer (some ⟨b,0,none⟩)) (hd:a.defers=[])
 (hb:wr.heap[b]? = some (.cells #[.int .i64 0,.int .i64 0,.int .i64 0] 39 (0,0))) (hR:R (.returned (.agg #[.int .i64 e,.int .i64 f,.int .i64 n])) (((wr.setCell ⟨b,0,none⟩ (.int .i64 e)).setCell ⟨b,1,none⟩ (.int .i64 f)).setCell ⟨b,2,none⟩ (.int .i64 n))) :
 bodyPost Try.prog fn R Exit.ret a (((wr.setCell ⟨b,0,none⟩ (.int .i64 e)).setCell ⟨b,1,none⟩ (.int .i64 f)).setCell ⟨b,2,none⟩ (.int .i64 n)):=by
 refine bodyPost_ret (v := .agg #[.int .i64 e,.int .i64 f,.int .i64 n]) ?_ hd hR
 have hq:(((wr.setCell ⟨b,0,none⟩ (.int .i64 e)).setCell ⟨b,1,none⟩ (.int .i64 f)).setCell ⟨b,2,none⟩ (.int .i64 n)).heap[b]? = some (.cells #[.int .i64 e,.int .i64 f,.int .i64 n] 39 (0,0)):=by
  rw [Zg (Zg (Zg hb))];rfl
 have k0:=Cq _ _ 0 _ _ _ hq
 have k1:=Cq _ _ 1 _ _ _ hq
 have k2:=Cq _ _ 2 _ _ _ hq
 clear hq hR
 generalize ((wr.setCell ⟨b,0,none⟩ (.int .i64 e)).setCell ⟨b,1,none⟩ (.int .i64 f)).setCell ⟨b,2,none⟩ (.int .i64 n)=w9 at *
 rw [Yq hres,hp]
 go_simp
theorem Zxn (mem:Int) (vd:Value) (fs:List FnP) (pF:Option Addr) (cF B:Nat) (w:World) (hvd:∃ p n c,vd = .slice p n c) (hB:B<=w.heap.size) (hF:Yl w B pF fs) (hn:fs.length<=64) (hc:∀ fn∈fs,fn.2.2.2.length<=4096) :
 Calls Try.prog 23 #[.agg #[.int .i64 mem,vd,.slice pF fs.length cF]] w (Ylr w fs):=by
 obtain ⟨pd,nd,cd,rfl⟩:=hvd
 have FF:=Hq hF
 have HL:=Hq hc
 have hni:(fs.length:Int)<=64:=by omega
 clear hF hc
 go_enter Try.func23,Try.ntmps23
 go_wp2
 have hbx:=Zss w mem (.slice pd nd cd) (.slice pF fs.length cF)
 have H0:=Hq (OpW.mk (Za (Ga _ _ _) (Ga _ _ _)) (Zck hbx (Ga _ (.cells #[.int .i64 0,.int .i64 0,.int .i64 0] 39) none) (by simp)) (Yr w (.cells #[.int .i64 mem,.slice pd nd cd,.slice pF fs.length cF] 25) (.cells #[.int .i64 0,.int .i64 0,.int .i64 0] 39)))
 clear hbx
 generalize (w.alloc (.cells #[.int .i64 mem,.slice pd nd cd,.slice pF fs.length cF] 25)).alloc (.cells #[.int .i64 0,.int .i64 0,.int .i64 0] 39)=w1 at *
 go_loopw [11] (fun i wr=>∃ k:Nat,i = .int .i64 k/\k<=fs.length/\OpW w wr mem (.slice pd nd cd) (.slice pF fs.length cF)/\∀ g:Nat,g<k->∀ fn',fs[g]? = some fn'->Ypu fs.length fn') (fun i _=>fs.length - (intOf i).toNat)
 case atStart=>exact ⟨0,rfl,Nat.zero_le _,H0.out,fun g hg=>by omega⟩
 case round =>
  obtain ⟨k,rfl,hk,hH,hok⟩:=hrel
  have HH:=Hq hH
  have HO:=Hq hok
  by_cases hlt:(k:Int)<(fs.length:Int)
  · obtain ⟨⟨ar,lo,r,c⟩,hf⟩:∃ x,fs[k]? = some x:=⟨_,List.getElem?_eq_getElem (by omega)⟩
    obtain ⟨b,o,rfl,hb,hc⟩:=FF.out (by omega)
    obtain ⟨c0,c1,c2,pc,cc,c3,hcode⟩:=hc k ar lo r c hf
    have hlc:=HL.out _ (List.mem_of_getElem? hf)
    simp only [] at hlc
    have hlci:(c.length:Int)<=4096:=by omega
    replace c0:=Xt hH.gr (B:=B) (by simp) hb c0
    replace c1:=Xt hH.gr (B:=B) (by simp) hb c1
    replace c2:=Xt hH.gr (B:=B) (by simp) hb c2
    replace c3:=Xt hH.gr (B:=B) (by simp) hb c3
    have hb2:b<wr.heap.size:=by have:=hH.gr.size;omega
    have HCO:=Hq hcode
    have HFk:=Hq hf
    clear hc hcode hf hH hok
    go_wp2
    clear c0 c1 c2 c3
    have H1:=Hq (Zum HH.out (Ga wr (.cells #[.int .i64 ar,.int .i64 lo,.int .i64 r,.slice pc c.length cc] 52) none))
    have HX:=Hq (heap_alloc_new wr (.cells #[.int .i64 ar,.int .i64 lo,.int .i64 r,.slice pc c.length cc] 52))
    obtain ⟨wo,hwo⟩:∃ wo,wo=wr:=⟨_,rfl⟩
    subst hwo
    generalize wo.alloc (.cells #[.int .i64 ar,.int .i64 lo,.int .i64 r,.slice pc c.length cc] 52)=w2 at *
    generalize wo.heap.size=g4 at *
    go_loopw [19] (fun i wr=>∃ j:Nat,i = .int .i64 j/\j<=c.length/\OpW w wr mem (.slice pd nd cd) (.slice (some ⟨b,o,none⟩) fs.length cF)/\wr.heap[g4]? = some (.cells #[.int .i64 ar,.int .i64 lo,.int .i64 r,.slice pc c.length cc] 52 (0,0))/\∀ m:Nat,m<j->∀ y,c[m]? = some y->opE fs.length c.length lo y=0) (fun i _=>c.length - (intOf i).toNat)
    case atStart=>exact ⟨0,rfl,Nat.zero_le _,H1.out,HX.out,fun m hm=>by omega⟩
    case round =>
     obtain ⟨j,rfl,hj,hH,hX,hok⟩:=hrel
     have HJ:=Hq hH
     have HXJ:=Hq hX
     have HOJ:=Hq hok
     have l0:=Cq _ _ 1 _ _ _ hX
     have l3:=Cq _ _ 3 _ _ _ hX
     have sX:=(Gs hX)
     have p2:=Cq _ _ 2 _ _ _ hH.pb
     have sp:=(Gs hH.pb)
     by_cases hlj:(j:Int)<(c.length:Int)
     · obtain ⟨⟨op,a⟩,hins⟩:∃ x,c[j]? = some x:=⟨_,List.getElem?_eq_getElem (by omega)⟩
       obtain ⟨b',o',rfl,hb',hc'⟩:=HCO.out (by omega)
       obtain ⟨d0,d1⟩:=hc' j op a hins
       replace d0:=Xt hH.gr (B:=B) (by simp) hb' d0
       replace d1:=Xt hH.gr (B:=B) (by simp) hb' d1
       have hb3:b'<wr.heap.size:=by have:=hH.gr.size;omega
       have HIN:=Hq hins
       have HB:=Hq (Zum hH (Ga wr (.cells #[.int .i64 op,.int .i64 a] 49) none))
       have HXB:=Hq (Zb hX (Ga wr (.cells #[.int .i64 op,.int .i64 a] 49) none) (by simp))
       clear hc' hins hH hX hok
       have hsplit:((op=14\/op=15\/op=16)/\((c.length:Int)<=a/\opE fs.length c.length lo (op,a)=131\/a<(c.length:Int)/\opE fs.length c.length lo (op,a)=0)) \/
        ((op=7\/op=8)/\(lo<=a/\opE fs.length c.length lo (op,a)=132\/a<lo/\opE fs.length c.length lo (op,a)=0)) \/
        (op=17/\((fs.length:Int)<=a/\opE fs.length c.length lo (op,a)=133\/a<(fs.length:Int)/\opE fs.length c.length lo (op,a)=0)) \/
        ((op≠14/\op≠15/\op≠16/\op≠7/\op≠8/\op≠17)/\opE fs.length c.length lo (op,a)=0):=by
        unfold opE
        simp only []
        by_cases h1:op=14\/op=15\/op=16
        · left
          rw [if_pos h1]
          refine ⟨h1,?_⟩
          by_cases h:(c.length:Int)<=a
          · left;rw [if_pos h];exact ⟨h,rfl⟩
          · right;rw [if_neg h];exact ⟨by omega,rfl⟩
        · right
          rw [if_neg h1]
          by_cases h2:op=7\/op=8
          · left
            rw [if_pos h2]
            refine ⟨h2,?_⟩
            by_cases h:lo<=a
            · left;rw [if_pos h];exact ⟨h,rfl⟩
            · right;rw [if_neg h];exact ⟨by omega,rfl⟩
          · right
            rw [if_neg h2]
            by_cases h3:op=17
            · left
              rw [if_pos h3]
              refine ⟨h3,?_⟩
              by_cases h:(fs.length:Int)<=a
              · left;rw [if_pos h];exact ⟨h,rfl⟩
              · right;rw [if_neg h];exact ⟨by omega,rfl⟩
            · right
              rw [if_neg h3]
              exact ⟨by omega,rfl⟩
       have HSP:=Hq hsplit
       clear hsplit
       rcases HSP.out with ⟨h,⟨hc,he⟩|⟨hc,he⟩⟩|⟨h,⟨hc,he⟩|⟨hc,he⟩⟩|⟨h,⟨hc,he⟩|⟨hc,he⟩⟩|⟨h,he⟩
       · have HZ:=Hq he
         clear he HSP
         rcases h with rfl|rfl|rfl <;> (
          have hfb:=HB.out.fb
          have f0:=Cq _ _ 0 _ _ _ hfb
          have f1:=Cq _ _ 1 _ _ _ hfb
          have f2:=Cq _ _ 2 _ _ _ hfb
          have z0:=frozen_of_row _ _ 0 _ _ hfb
          have z1:=frozen_of_row _ _ 1 _ _ hfb
          have z2:=frozen_of_row _ _ 2 _ _ hfb
          have HF6:=Hq hfb
          have s6:=(Gs hfb)
          clear hfb
          go_wp2
          exact Zjg rfl rfl rfl HF6.out (Zrh _ k j HB.out (Or.inr ⟨by decide,_,_,HFk.out,HIN.out,HZ.out,HO.out,HOJ.out⟩)))
       · have HZ:=Hq he
         clear he HSP
         rcases h with rfl|rfl|rfl <;> (
          go_wp2
          refine ⟨⟨j+1,by go_num,by omega,HB.out,HXB.out,fun m hm y hy=>by
           by_cases e:m=j
           · subst e;rw [HIN.out] at hy;injection hy with hy;subst hy;exact HZ.out
           · exact HOJ.out m (by omega) y hy⟩,by simp [intOf];omega⟩)
       · have HZ:=Hq he
         clear he HSP
         rcases h with rfl|rfl <;> (
          have hfb:=HB.out.fb
          have f0:=Cq _ _ 0 _ _ _ hfb
          have f1:=Cq _ _ 1 _ _ _ hfb
          have f2:=Cq _ _ 2 _ _ _ hfb
          have z0:=frozen_of_row _ _ 0 _ _ hfb
          have z1:=frozen_of_row _ _ 1 _ _ hfb
          have z2:=frozen_of_row _ _ 2 _ _ hfb
          have HF6:=Hq hfb
          have s6:=(Gs hfb)
          clear hfb
          go_wp2
          exact Zjg rfl rfl rfl HF6.out (Zrh _ k j HB.out (Or.inr ⟨by decide,_,_,HFk.out,HIN.out,HZ.out,HO.out,HOJ.out⟩)))
       · have HZ:=Hq he
         clear he HSP
         rcases h with rfl|rfl <;> (
          go_wp2
          refine ⟨⟨j+1,by go_num,by omega,HB.out,HXB.out,fun m hm y hy=>by
           by_cases e:m=j
           · subst e;rw [HIN.out] at hy;injection hy with hy;subst hy;exact HZ.out
           · exact HOJ.out m (by omega) y hy⟩,by simp [intOf];omega⟩)
       · have HZ:=Hq he
         clear he HSP
         subst h
         (
           have hfb:=HB.out.fb
           have f0:=Cq _ _ 0 _ _ _ hfb
           have f1:=Cq _ _ 1 _ _ _ hfb
           have f2:=Cq _ _ 2 _ _ _ hfb
           have z0:=frozen_of_row _ _ 0 _ _ hfb
           have z1:=frozen_of_row _ _ 1 _ _ hfb
           have z2:=frozen_of_row _ _ 2 _ _ hfb
           have HF6:=Hq hfb
           have s6:=(Gs hfb)
           clear hfb
           go_wp2
           exact Zjg rfl rfl rfl HF6.out (Zrh _ k j HB.out (Or.inr ⟨by decide,_,_,HFk.out,HIN.out,HZ.out,HO.out,HOJ.out⟩)))
       · have HZ:=Hq he
         clear he HSP
         subst h
         (
           go_wp2
           refine ⟨⟨j+1,by go_num,by omega,HB.out,HXB.out,fun m hm y hy=>by
            by_cases e:m=j
            · subst e;rw [HIN.out] at hy;injection hy with hy;subst hy;exact HZ.out
            · exact HOJ.out m (by omega) y hy⟩,by simp [intOf];omega⟩)
       · have HZ:=Hq he
         obtain ⟨h1,h2,h3,h4,h5,h6⟩:=h
         have b1:(op == 14)=false:=beq_eq_false_iff_ne.2 h1
         have b2:(op == 15)=false:=beq_eq_false_iff_ne.2 h2
         have b3:(op == 16)=false:=beq_eq_false_iff_ne.2 h3
         have b4:(op == 7)=false:=beq_eq_false_iff_ne.2 h4
         have b5:(op == 8)=false:=beq_eq_false_iff_ne.2 h5
         have b6:(op == 17)=false:=beq_eq_false_iff_ne.2 h6
         clear he HSP h1 h2 h3 h4 h5 h6
         (
           go_wp2
           refine ⟨⟨j+1,by go_num,by omega,HB.out,HXB.out,fun m hm y hy=>by
            by_cases e:m=j
            · subst e;rw [HIN.out] at hy;injection hy with hy;subst hy;exact HZ.out
            · exact HOJ.out m (by omega) y hy⟩,by simp [intOf];omega⟩)
     · have hjn:j=c.length:=by omega
       clear hH hX hok
       go_wp2
       refine ⟨⟨k+1,by go_num,by omega,HJ.out,fun g hg fn' hfn'=>by
        by_cases e:g=k
        · subst e;rw [HFk.out] at hfn';injection hfn' with hfn';subst hfn'
          intro x hx
          obtain ⟨m,hm,hmx⟩:=List.getElem_of_mem hx
          exact HOJ.out m (by simp only [] at hm;omega) x (by rw [<- hmx];exact List.getElem?_eq_getElem hm)
        · exact HO.out g (by omega) fn' hfn'⟩,by simp [intOf];omega⟩
  · have hkn:k=fs.length:=by omega
    have hfb:=hH.fb
    have f0:=Cq _ _ 0 _ _ _ hfb
    have f1:=Cq _ _ 1 _ _ _ hfb
    have f2:=Cq _ _ 2 _ _ _ hfb
    have z0:=frozen_of_row _ _ 0 _ _ hfb
    have z1:=frozen_of_row _ _ 1 _ _ hfb
    have z2:=frozen_of_row _ _ 2 _ _ hfb
    have HF6:=Hq hfb
    clear hH hok hfb
    go_wp2
    exact Zjg rfl rfl rfl HF6.out (Zrh 0 0 0 HH.out (Or.inl ⟨rfl,rfl,rfl,fun fn hm=>by
     obtain ⟨g,hg,e⟩:=List.getElem_of_mem hm
     exact HO.out g (by omega) fn (by rw [<- e];exact List.getElem?_eq_getElem hg)⟩))
open Go.Maps
def Ykf:Value := .agg #[.slice none 0 0,.slice none 0 0,.slice none 0 0,.slice none 0 0,.int .i64 0,.int .i64 0]
def Zcm (fs:List FnP):Prop:=∃ fn,fs[0]? = some fn/\fn.1=0/\fn.2.2.1=1
def Zyy (fs:List FnP):Prop:=∀ fn∈fs,Ypu fs.length fn
def Zfx (mem:Int) (nd:Nat) (fs:List FnP) (err:Int) (f n:Nat):Prop:=err≠0 /\
 (err=Zaz mem nd fs\/(Zaz mem nd fs=0/\¬ Zcm fs)\/(Zaz mem nd fs=0/\Zcm fs/\Ybm fs err f n) \/
  (Zaz mem nd fs=0/\Zcm fs/\Zyy fs/\∃ fn s,fs[f]? = some fn/\HRun fs fn (hs0 fn.2.2.2.length) 0 s n/\Xfc fs fn s n err))
structure Ywt (w w':World) (fs:List FnP) (F:Value) (gH cH gT cT gL cL gV:Nat) (ce co:Int) (gh:Nat->Nat) (hs:Nat->List Int) (V:List Bool):Prop where
 f:F = .agg #[.slice (some ⟨gH,0,none⟩) fs.length cH,.slice (some ⟨gT,0,none⟩) fs.length cT,.slice (some ⟨gL,0,none⟩) fs.length cL,.slice (some ⟨gV,0,none⟩) fs.length fs.length,.int .i64 ce,.int .i64 co]
 h:∀ (f:Nat) (fn:FnP),fs[f]? = some fn->w.heap.size<=gh f/\w'.cell? ⟨gH,f,none⟩=some (.slice (some ⟨gh f,0,none⟩) fn.2.2.2.length fn.2.2.2.length)/\∀ i:Nat,i<fn.2.2.2.length->w'.cell? ⟨gh f,i,none⟩=some (.int .i64 ((hs f).getD i 0))
 r:∀ (f:Nat) (fn:FnP),fs[f]? = some fn->∃ s,HRun fs fn (hs0 fn.2.2.2.length) 0 s fn.2.2.2.length/\Zzb fn.2.2.2.length s/\s.h=hs f
 v:∀ f:Nat,f<fs.length->w'.cell? ⟨gV,f,none⟩=some (.bool (V.getD f false))
 l:Zon fs (Znt fs hs) V
 lo:w.heap.size<=gH/\w.heap.size<=gV
def Zkj (w:World) (mem:Int) (nd:Nat) (fs:List FnP) (e:Ending) (w':World):Prop:=w.grownBy w' none /\
 ((∃ err f n,e = .returned (.tuple #[Ykf,.agg #[.int .i64 err,.int .i64 (f:Nat),.int .i64 (n:Nat)]])/\Zfx mem nd fs err f n) \/
  (Zaz mem nd fs=0/\Zcm fs/\Zyy fs/\∃ F gH cH gT cT gL cL gV ce co gh hs V,e = .returned (.tuple #[F,Zpt])/\Ywt w w' fs F gH cH gT cT gL cL gV ce co gh hs V))
theorem Zqw {fn:Func} {p q:Tmp} {ty ty':TypeId} (h:fn.results = #[.cell p ty,.cell q ty']) (tmps:Array Value) (P:Program) (w:World) :
 (results fn tmps).run P w =
   ((asAddr (tmps.getD p undef)).run P w).andThen fun a w₁=>((loadVar ty a).run P w₁).andThen fun x w₂=>((asAddr (tmps.getD q undef)).run P w₂).andThen fun b w₃=>((loadVar ty' b).run P w₃).andThen fun y w₄ => .ok (.tuple #[x,y]) w₄:=by
 simp only [results,h]
 simp [Sem.run_bind,Result.andThen]
theorem Zkf {R:Ending->World->Prop} {a:Act} {w9:World} {b2 b3:Nat} {F0 F1 F2 F3 F4 F5 G0 G1 G2:Value} (h2:a.tmps.getD 2 undef = .pointer (some ⟨b2,0,none⟩)) (h3:a.tmps.getD 3 undef = .pointer (some ⟨b3,0,none⟩)) (hd:a.defers=[])
 (x2:w9.heap[b2]? = some (.cells #[F0,F1,F2,F3,F4,F5] 35 (0,0))) (x3:w9.heap[b3]? = some (.cells #[G0,G1,G2] 39 (0,0)))
 (hR:R (.returned (.tuple #[.agg #[F0,F1,F2,F3,F4,F5],.agg #[G0,G1,G2]])) w9):bodyPost Try.prog Try.f9 R Exit.ret a w9:=by
 refine bodyPost_ret (v := .tuple #[.agg #[F0,F1,F2,F3,F4,F5],.agg #[G0,G1,G2]]) ?_ hd hR
 have k0:=Cq _ _ 0 _ _ _ x2
 have k1:=Cq _ _ 1 _ _ _ x2
 have k2:=Cq _ _ 2 _ _ _ x2
 have k3:=Cq _ _ 3 _ _ _ x2
 have k4:=Cq _ _ 4 _ _ _ x2
 have k5:=Cq _ _ 5 _ _ _ x2
 have j0:=Cq _ _ 0 _ _ _ x3
 have j1:=Cq _ _ 1 _ _ _ x3
 have j2:=Cq _ _ 2 _ _ _ x3
 clear x2 x3 hR
 rw [Zqw rfl,h2,h3]
 go_simp
def Zwq (w:World) (b2 b3:Nat) (F0 F1 F2 F3 F4 F5 G0 G1 G2:Value):World :=
 ((((((((w.setCell ⟨b2,0,none⟩ F0).setCell ⟨b2,1,none⟩ F1).setCell ⟨b2,2,none⟩ F2).setCell ⟨b2,3,none⟩ F3).setCell ⟨b2,4,none⟩ F4).setCell ⟨b2,5,none⟩ F5).setCell ⟨b3,0,none⟩ G0).setCell ⟨b3,1,none⟩ G1).setCell ⟨b3,2,none⟩ G2
theorem Zgj {w:World} {b2 b3:Nat} {z0 z1 z2 z3 z4 z5 y0 y1 y2 F0 F1 F2 F3 F4 F5 G0 G1 G2:Value} (h2:w.heap[b2]? = some (.cells #[z0,z1,z2,z3,z4,z5] 35 (0,0))) (h3:w.heap[b3]? = some (.cells #[y0,y1,y2] 39 (0,0))) (hne:b2≠b3) :
 (Zwq w b2 b3 F0 F1 F2 F3 F4 F5 G0 G1 G2).heap[b2]? = some (.cells #[F0,F1,F2,F3,F4,F5] 35 (0,0))/\(Zwq w b2 b3 F0 F1 F2 F3 F4 F5 G0 G1 G2).heap[b3]? = some (.cells #[G0,G1,G2] 39 (0,0)):=by
 have n2:∀ {X:World} {o:Nat} {v:Value} {obj:Obj},X.heap[b2]? = some obj->(X.setCell ⟨b3,o,none⟩ v).heap[b2]? = some obj:=fun h=>Zb h (Zh _ _ _ _) (by intro e;injection e with e;exact hne e.symm)
 have n3:∀ {X:World} {o:Nat} {v:Value} {obj:Obj},X.heap[b3]? = some obj->(X.setCell ⟨b2,o,none⟩ v).heap[b3]? = some obj:=fun h=>Zb h (Zh _ _ _ _) (by intro e;injection e with e;exact hne e)
 constructor
 · unfold Zwq
   refine n2 (n2 (n2 ?_))
   rw [Zg (Zg (Zg (Zg (Zg (Zg h2)))))];rfl
 · unfold Zwq
   rw [Zg (Zg (Zg (n3 (n3 (n3 (n3 (n3 (n3 h3))))))))];rfl
theorem Zhc {w0 w:World} {b2 b3:Nat} {F0 F1 F2 F3 F4 F5 G0 G1 G2:Value} (h:w0.grownBy w none) (h2:w0.heap.size<=b2) (h3:w0.heap.size<=b3):w0.grownBy (Zwq w b2 b3 F0 F1 F2 F3 F4 F5 G0 G1 G2) none :=
 Zd (Zd (Zd (Zd (Zd (Zd (Zd (Zd (Zd h h2) h2) h2) h2) h2) h2) h3) h3) h3
theorem Zoz {w:World} {b2 b3 k:Nat} {F0 F1 F2 F3 F4 F5 G0 G1 G2:Value} (h2:k≠b2) (h3:k≠b3):(Zwq w b2 b3 F0 F1 F2 F3 F4 F5 G0 G1 G2).heap[k]? = w.heap[k]? := by
 have s:∀ (X:World) (b o:Nat) (v:Value),k≠b->(X.setCell ⟨b,o,none⟩ v).heap[k]? = X.heap[k]? := fun X b o v hb=>heap_setCell_other X _ k v (by intro e;exact hb (by rw [e]))
 unfold Zwq
 rw [s _ _ _ _ h3,s _ _ _ _ h3,s _ _ _ _ h3,s _ _ _ _ h2,s _ _ _ _ h2,s _ _ _ _ h2,s _ _ _ _ h2,s _ _ _ _ h2,s _ _ _ _ h2]
theorem Xdi (mem:Int) (nd:Nat) (fs:List FnP) (pd pF:Option Addr) (cd cF B:Nat) (w:World) (hB:B<=w.heap.size) (hF:Yl w B pF fs) (hn:nd<=9223372036854775807) (hp:Zaz mem nd fs≠0) :
 Calls Try.prog 9 #[.agg #[.int .i64 mem,.slice pd nd cd,.slice pF fs.length cF]] w (Zkj w mem nd fs):=by
 obtain ⟨t1,t2,t3⟩:=Xl w (.cells #[.int .i64 mem,.slice pd nd cd,.slice pF fs.length cF] 25) (.cells #[.slice none 0 0,.slice none 0 0,.slice none 0 0,.slice none 0 0,.int .i64 0,.int .i64 0] 35) (.cells #[.int .i64 0,.int .i64 0,.int .i64 0] 39)
 have g3:=Xm w (.cells #[.int .i64 mem,.slice pd nd cd,.slice pF fs.length cF] 25) (.cells #[.slice none 0 0,.slice none 0 0,.slice none 0 0,.slice none 0 0,.int .i64 0,.int .i64 0] 35) (.cells #[.int .i64 0,.int .i64 0,.int .i64 0] 39)
 have PC:=Hq (Zkb mem nd fs pd pF cd cF B _ (Nat.le_trans hB g3.size) (Zq hF g3 (by simp)) hn)
 have T1:=Hq t1
 have T2:=Hq t2
 have T3:=Hq t3
 have G3:=Hq g3
 have HP:=Hq hp
 have RB:=Hq (show Zfx mem nd fs (Zaz mem nd fs) 0 0 from ⟨hp,Or.inl rfl⟩)
 have hpb:(Zaz mem nd fs == 0)=false:=by simp [hp]
 clear t1 t2 t3 g3 hF hp
 generalize Zaz mem nd fs=pe at *
 go_enter Try.func9,Try.ntmps9
 go_wp2_with (go_at_call 22;refine PC.out.mono ?_;rintro e w2 ⟨rfl,g2⟩;have X2:=Hq (Zb T2.out g2 (by simp));have X3:=Hq (Zb T3.out g2 (by simp));have G2:=Hq g2;have k0:=Cq _ _ 0 _ _ _ X2.out;have k1:=Cq _ _ 1 _ _ _ X2.out;have k2:=Cq _ _ 2 _ _ _ X2.out;have k3:=Cq _ _ 3 _ _ _ X2.out;have k4:=Cq _ _ 4 _ _ _ X2.out;have k5:=Cq _ _ 5 _ _ _ X2.out;have j0:=Cq _ _ 0 _ _ _ X3.out;have j1:=Cq _ _ 1 _ _ _ X3.out;have j2:=Cq _ _ 2 _ _ _ X3.out;have z0:=frozen_of_row _ _ 0 _ _ X2.out;have z1:=frozen_of_row _ _ 1 _ _ X2.out;have z2:=frozen_of_row _ _ 2 _ _ X2.out;have z3:=frozen_of_row _ _ 3 _ _ X2.out;have z4:=frozen_of_row _ _ 4 _ _ X2.out;have z5:=frozen_of_row _ _ 5 _ _ X2.out;have y0:=frozen_of_row _ _ 0 _ _ X3.out;have y1:=frozen_of_row _ _ 1 _ _ X3.out;have y2:=frozen_of_row _ _ 2 _ _ X3.out;have q2:=(Gs X2.out);have q3:=(Gs X3.out);clear g2)
 exact Zkf rfl rfl rfl (Zgj X2.out X3.out (by omega)).1 (Zgj X2.out X3.out (by omega)).2 ⟨Zhc (Za G3.out G2.out) (by omega) (by omega),Or.inl ⟨_,0,0,rfl,RB.out⟩⟩
theorem Zye {fs:List FnP} (h:¬ Zcm fs) (hn:1<=fs.length):∃ ar lo r c,fs[0]? = some (ar,lo,r,c)/\(ar≠0\/(ar=0/\r≠1)):=by
 obtain ⟨⟨ar,lo,r,c⟩,hfn⟩:∃ fn,fs[0]? = some fn:=⟨_,List.getElem?_eq_getElem (by omega)⟩
 refine ⟨ar,lo,r,c,hfn,?_⟩
 by_cases e:ar=0
 · right
   exact ⟨e,fun e2=>h ⟨_,hfn,e,e2⟩⟩
 · exact Or.inl e
theorem Zuc {mem:Int} {nd:Nat} {fs:List FnP} (h:Zaz mem nd fs=0):1<=fs.length/\fs.length<=64/\∀ fn∈fs,1<=fn.2.2.2.length/\fn.2.2.2.length<=4096:=by
 unfold Zaz at h
 by_cases hb:mem<0\/65536<mem\/mem<nd\/fs.length<1\/64<fs.length
 · rw [if_pos hb] at h;cases h
 rw [if_neg hb] at h
 refine ⟨by omega,by omega,fun fn hm => ?_⟩
 have h1:=Zje h fn hm
 unfold fnE at h1
 by_cases hc:fn.1<0\/16<fn.1\/fn.2.1<fn.1\/64<fn.2.1\/fn.2.2.1<0\/1<fn.2.2.1\/fn.2.2.2.length<1\/4096<fn.2.2.2.length
 · rw [if_pos hc] at h1;cases h1
 · omega
theorem Xdh (mem:Int) (nd:Nat) (fs:List FnP) (pd pF:Option Addr) (cd cF B:Nat) (w:World) (hB:B<=w.heap.size) (hF:Yl w B pF fs) (hn:nd<=9223372036854775807) (hp:Zaz mem nd fs=0) (hfo:¬ Zcm fs) :
 Calls Try.prog 9 #[.agg #[.int .i64 mem,.slice pd nd cd,.slice pF fs.length cF]] w (Zkj w mem nd fs):=by
 obtain ⟨t1,t2,t3⟩:=Xl w (.cells #[.int .i64 mem,.slice pd nd cd,.slice pF fs.length cF] 25) (.cells #[.slice none 0 0,.slice none 0 0,.slice none 0 0,.slice none 0 0,.int .i64 0,.int .i64 0] 35) (.cells #[.int .i64 0,.int .i64 0,.int .i64 0] 39)
 have g3:=Xm w (.cells #[.int .i64 mem,.slice pd nd cd,.slice pF fs.length cF] 25) (.cells #[.slice none 0 0,.slice none 0 0,.slice none 0 0,.slice none 0 0,.int .i64 0,.int .i64 0] 35) (.cells #[.int .i64 0,.int .i64 0,.int .i64 0] 39)
 have PC:=Hq (Zkb mem nd fs pd pF cd cF B _ (Nat.le_trans hB g3.size) (Zq hF g3 (by simp)) hn)
 rw [hp] at PC
 have T1:=Hq t1
 have T2:=Hq t2
 have T3:=Hq t3
 have G3:=Hq g3
 have hz:(0:Int)<(fs.length:Int):=by have:=(Zuc hp).1;omega
 have RB:=Hq (show Zfx mem nd fs 139 0 0 from ⟨by decide,Or.inr (Or.inl ⟨hp,hfo⟩)⟩)
 obtain ⟨ar,lo,r,c,hfn,hcase⟩:=Zye hfo (by omega)
 obtain ⟨bF,oF,hpF,hbF,hcF⟩:=hF (by omega)
 obtain ⟨e0,e1,e2,-⟩:=hcF 0 ar lo r c hfn
 simp only [Nat.zero_mul,Nat.add_zero] at e0 e1 e2
 subst hpF
 have f0:=g3.cell e0 (by simp)
 have f2:=g3.cell e2 (by simp)
 have E0:=Hq f0
 have E2:=Hq f2
 have hbF2:bF<w.heap.size:=by omega
 have hz2:=g3.size
 clear t1 t2 t3 g3 hF hp hcF hfn e0 e1 e2 f0 f2 hfo
 rcases hcase with h0|⟨rfl,h1⟩
 · have hb0:(ar != 0)=true:=by simp [h0]
   go_enter Try.func9,Try.ntmps9
   go_wp2_with (go_at_call 22;refine PC.out.mono ?_;rintro e w2 ⟨rfl,g2⟩;have X2:=Hq (Zb T2.out g2 (by simp));have X3:=Hq (Zb T3.out g2 (by simp));have G2:=Hq g2;have k0:=Cq _ _ 0 _ _ _ X2.out;have k1:=Cq _ _ 1 _ _ _ X2.out;have k2:=Cq _ _ 2 _ _ _ X2.out;have k3:=Cq _ _ 3 _ _ _ X2.out;have k4:=Cq _ _ 4 _ _ _ X2.out;have k5:=Cq _ _ 5 _ _ _ X2.out;have j0:=Cq _ _ 0 _ _ _ X3.out;have j1:=Cq _ _ 1 _ _ _ X3.out;have j2:=Cq _ _ 2 _ _ _ X3.out;have z0:=frozen_of_row _ _ 0 _ _ X2.out;have z1:=frozen_of_row _ _ 1 _ _ X2.out;have z2:=frozen_of_row _ _ 2 _ _ X2.out;have z3:=frozen_of_row _ _ 3 _ _ X2.out;have z4:=frozen_of_row _ _ 4 _ _ X2.out;have z5:=frozen_of_row _ _ 5 _ _ X2.out;have y0:=frozen_of_row _ _ 0 _ _ X3.out;have y1:=frozen_of_row _ _ 1 _ _ X3.out;have y2:=frozen_of_row _ _ 2 _ _ X3.out;have q2:=(Gs X2.out);have q3:=(Gs X3.out);have s1:=Zb T1.out g2 (by simp);have m2:=Cq _ _ 2 _ _ _ s1;have s1q:=(Gs s1);have n0:=g2.cell E0.out (by simp);have n2:=g2.cell E2.out (by simp);have nq:=Nat.lt_of_lt_of_le hbF2 (Nat.le_trans G3.out.size g2.size);clear g2 s1)
   exact Zkf rfl rfl rfl (Zgj X2.out X3.out (by omega)).1 (Zgj X2.out X3.out (by omega)).2 ⟨Zhc (Za G3.out G2.out) (by omega) (by omega),Or.inl ⟨_,0,0,rfl,RB.out⟩⟩
 · have hb1:(r != 1)=true:=by simp [h1]
   go_enter Try.func9,Try.ntmps9
   go_wp2_with (go_at_call 22;refine PC.out.mono ?_;rintro e w2 ⟨rfl,g2⟩;have X2:=Hq (Zb T2.out g2 (by simp));have X3:=Hq (Zb T3.out g2 (by simp));have G2:=Hq g2;have k0:=Cq _ _ 0 _ _ _ X2.out;have k1:=Cq _ _ 1 _ _ _ X2.out;have k2:=Cq _ _ 2 _ _ _ X2.out;have k3:=Cq _ _ 3 _ _ _ X2.out;have k4:=Cq _ _ 4 _ _ _ X2.out;have k5:=Cq _ _ 5 _ _ _ X2.out;have j0:=Cq _ _ 0 _ _ _ X3.out;have j1:=Cq _ _ 1 _ _ _ X3.out;have j2:=Cq _ _ 2 _ _ _ X3.out;have z0:=frozen_of_row _ _ 0 _ _ X2.out;have z1:=frozen_of_row _ _ 1 _ _ X2.out;have z2:=frozen_of_row _ _ 2 _ _ X2.out;have z3:=frozen_of_row _ _ 3 _ _ X2.out;have z4:=frozen_of_row _ _ 4 _ _ X2.out;have z5:=frozen_of_row _ _ 5 _ _ X2.out;have y0:=frozen_of_row _ _ 0 _ _ X3.out;have y1:=frozen_of_row _ _ 1 _ _ X3.out;have y2:=frozen_of_row _ _ 2 _ _ X3.out;have q2:=(Gs X2.out);have q3:=(Gs X3.out);have s1:=Zb T1.out g2 (by simp);have m2:=Cq _ _ 2 _ _ _ s1;have s1q:=(Gs s1);have n0:=g2.cell E0.out (by simp);have n2:=g2.cell E2.out (by simp);have nq:=Nat.lt_of_lt_of_le hbF2 (Nat.le_trans G3.out.size g2.size);clear g2 s1)
   exact Zkf rfl rfl rfl (Zgj X2.out X3.out (by omega)).1 (Zgj X2.out X3.out (by omega)).2 ⟨Zhc (Za G3.out G2.out) (by omega) (by omega),Or.inl ⟨_,0,0,rfl,RB.out⟩⟩
end Go.Proofs.Ythlkflagancdfaa.CK
namespace Go.Proofs.Ythlkflagancdfaa.OT
open Go.Proofs.Ythlkflagancdfaa.CK
structure Tk (mem:Int) (nd:Nat) (fs:List FnP):Prop where
 p:Zaz mem nd fs=0
 f:Zcm fs
 o:Zyy fs
 h:∀ fn∈fs,∃ H,Ylu fs fn H
theorem Zui {fs:List FnP} (h:Zyy fs) {err:Int} {f n:Nat} (o:Ybm fs err f n):err=0:=by
 rcases o with ⟨e,_⟩|⟨_,fn,x,hfn,hx,he,_⟩
 · exact e
 · rw [h fn (List.mem_of_getElem? hfn) x (List.mem_of_getElem? hx)] at he
   exact he.symm
theorem Yfa {mem:Int} {nd:Nat} {fs:List FnP} (T:Tk mem nd fs):Zjp fs:=Zkc T.p T.o
theorem Zjt {mem:Int} {nd:Nat} {fs:List FnP} (T:Tk mem nd fs) (err:Int) (f n:Nat):¬ Zfx mem nd fs err f n:=by
 rintro ⟨hne,h1|⟨_,h1⟩|⟨_,_,h1⟩|⟨_,_,_,fn,s,hfn,hrun,hbad⟩⟩
 · rw [T.p] at h1;exact hne h1
 · exact h1 T.f
 · exact hne (Zui T.o h1)
 · have hm:=List.mem_of_getElem? hfn
   obtain ⟨H,F⟩:=T.h fn hm
   exact Yka F ((Yfa T).len fn hm).1 hrun hbad
theorem Yfb {mem:Int} {nd:Nat} {fs:List FnP} {hs:Nat->List Int} (hp:Zaz mem nd fs=0) (hf:Zcm fs) (ho:Zyy fs) (r:∀ (f:Nat) (fn:FnP),fs[f]? = some fn->∃ s,HRun fs fn (hs0 fn.2.2.2.length) 0 s fn.2.2.2.length/\Zzb fn.2.2.2.length s/\s.h=hs f):Tk mem nd fs:=by
 refine ⟨hp,hf,ho,fun fn hm => ?_⟩
 obtain ⟨f,hfn⟩:=List.getElem?_of_mem hm
 obtain ⟨s,h1,_,_⟩:=r f fn hfn
 exact ⟨_,Zfj (Zkc hp ho) hm h1⟩
theorem Zcv {mem:Int} {nd:Nat} {fs:List FnP} {hs:Nat->List Int} (T:Tk mem nd fs) {f:Nat} {fn:FnP} (hfn:fs[f]? = some fn) {s:HS} (r:HRun fs fn (hs0 fn.2.2.2.length) 0 s fn.2.2.2.length) {H:Nat->Int} (F:Ylu fs fn H) :
 ∀ x,x<fn.2.2.2.length->(Reach fn.2.2.2 x->s.h.getD x 0=H x/\0<=H x)/\(¬ Reach fn.2.2.2 x->s.h.getD x 0 = -1) :=
 Zvk F (Yfa T) (List.mem_of_getElem? hfn) r
open Go.RowKit Go.Great
theorem Yjb {c:List Ins} {n:Nat} (h:(Zn c n).1≠0):Zn c n∈c:=by
 unfold Zn at h ⊢
 rw [List.getD_eq_getElem?_getD] at h ⊢
 cases e:c[n]? with
 | none=>rw [e] at h;exact absurd rfl h
 | some x=>exact List.mem_of_getElem? e
def Zeb (c:List Ins):Prop:=∀ x∈c,jmp x.1=true->0<=x.2/\x.2<c.length
theorem Zwk {c:List Ins} {n:Nat} {f:Jn} (h:Zax c n=some f):∀ y∈f.put,jmp y.1=true->False:=by
 unfold Zax at h
 simp only [] at h
 split at h
 · injection h with h;subst h;intro y hy;simp at hy
 split at h
 · injection h with h;subst h;intro y hy;simp at hy
 split at h
 · injection h with h;subst h;intro y hy;simp at hy;subst hy;simp [jmp]
 split at h
 · next h4 =>
   injection h with h;subst h;intro y hy;simp at hy;subst hy;intro hj
   simp only [jmp,Bool.or_eq_true,beq_iff_eq] at hj
   omega
 · cases h
theorem Zcc {op:Int} (h:op=15\/op=16):jmp op=true:=by rcases h with rfl|rfl <;> rfl
theorem Yhk {c:List Ins} {n L:Nat} {f:Jn} (hj:Zeb c) (h:Zau c n L=some f):∀ y∈f.put,jmp y.1=true->0<=y.2/\y.2<c.length:=by
 unfold Zau at h
 simp only [] at h
 split at h
 · cases h
 split at h
 · next h1 =>
   split at h
   · injection h with h;subst h;intro y hy _;simp at hy;subst hy
     exact hj (Zn c (n+1)) (Yjb (by omega)) (Zcc h1)
   · injection h with h;subst h;intro y hy;simp at hy
 split at h
 · split at h
   · injection h with h;subst h;intro y hy h2;simp at hy;subst hy;simp [jmp] at h2
   · cases h
 split at h
 · split at h
   · injection h with h;subst h;intro y hy h2;simp at hy;subst hy;simp [jmp] at h2
   · cases h
 split at h
 · next h5 =>
   injection h with h;subst h;intro y hy _;simp at hy;subst hy
   exact hj (Zn c (n+2)) (Yjb (by omega)) (Zcc h5.2.2.2)
 split at h
 · injection h with h;subst h;intro y hy;simp at hy
 split at h
 · injection h with h;subst h;intro y hy;simp at hy
 · cases h
theorem Zzu {c:List Ins} {n L:Nat} {f:Jn} (h:Zek c n L=some f):∀ y∈f.put,jmp y.1=true->False:=by
 unfold Zek at h
 simp only [] at h
 split at h
 · cases h
 split at h
 · injection h with h;subst h;intro y hy;simp at hy
 split at h
 · injection h with h;subst h;intro y hy;simp at hy
 split at h
 · next h3 =>
   injection h with h;subst h;intro y hy h2;simp at hy;subst hy
   rw [h3.1] at h2;exact absurd h2 (by decide)
 split at h
 · injection h with h;subst h;intro y hy;simp at hy
 split at h
 · injection h with h;subst h;intro y hy;simp at hy
 · cases h
theorem Zth {c:List Ins} {n L:Nat} {f:Jn} (h:Zce c n L=some f):∀ y∈f.put,jmp y.1=true->False:=by
 unfold Zce at h
 split at h
 · injection h with h;subst h;intro y hy h2;simp at hy;subst hy;exact absurd h2 (by decide)
 · cases h
theorem Zdg {c:List Ins} {n L:Nat} {f:Jn} (h:Zaj c n L=some f):Zax c n=some f\/Zau c n L=some f\/Zek c n L=some f\/Zce c n L=some f:=by
 unfold Zaj at h
 cases h1:Zax c n with
 | some g=>rw [h1] at h;simp at h;subst h;exact Or.inl rfl
 | none =>
   rw [h1] at h
   cases h2:Zau c n L with
   | some g=>rw [h2] at h;simp at h;subst h;exact Or.inr (Or.inl rfl)
   | none =>
     rw [h2] at h
     cases h3:Zek c n L with
     | some g=>rw [h3] at h;simp at h;subst h;exact Or.inr (Or.inr (Or.inl rfl))
     | none =>
       rw [h3] at h
       simp at h
       exact Or.inr (Or.inr (Or.inr h))
theorem Yhx {c:List Ins} {n L:Nat} {f:Jn} (hj:Zeb c) (h:Zaj c n L=some f):∀ y∈f.put,jmp y.1=true->0<=y.2/\y.2<c.length:=by
 intro y hy h2
 rcases Zdg h with h|h|h|h
 · exact (Zwk h y hy h2).elim
 · exact Yhk hj h y hy h2
 · exact (Zzu h y hy h2).elim
 · exact (Zth h y hy h2).elim
theorem Zpi {c:List Ins} {n L:Nat} {f:Jn} (hL:1<=L) (h:Zaj c n L=some f):1<=f.long/\f.long<=L/\f.put.length<=1:=by
 rcases Zdg h with h|h|h|h
 · unfold Zax at h
   simp only [] at h
   repeat' split at h
   all_goals first
    | (cases h;done)
    | (injection h with h;subst h;exact ⟨Nat.le_refl _,hL,by simp⟩)
 · unfold Zau at h
   simp only [] at h
   split at h
   · cases h
   next h0 =>
    have h2:2<=L:=by omega
    split at h
    · split at h <;> (injection h with h;subst h;exact ⟨by simp,h2,by simp⟩)
    split at h
    · split at h
      · injection h with h;subst h;exact ⟨by simp,h2,by simp⟩
      · cases h
    split at h
    · next h4 =>
      split at h
      · injection h with h;subst h;exact ⟨by simp,h4.2.1,by simp⟩
      · cases h
    split at h
    · next h5=>injection h with h;subst h;exact ⟨by simp,h5.2.2.1,by simp⟩
    split at h
    · injection h with h;subst h;exact ⟨by simp,h2,by simp⟩
    split at h
    · injection h with h;subst h;exact ⟨by simp,h2,by simp⟩
    · cases h
 · unfold Zek at h
   simp only [] at h
   split at h
   · cases h
   next h0 =>
    have h2:2<=L:=by omega
    repeat' split at h
    all_goals first
     | (cases h;done)
     | (injection h with h;subst h;exact ⟨by simp,h2,by simp⟩)
 · unfold Zce at h
   split at h
   · next h0=>injection h with h;subst h;exact ⟨by simp,h0.1,by simp⟩
   · cases h
theorem Yae {c:List Ins} {n:Nat} (h:n<c.length):n+Zba c n<=c.length:=by
 unfold Zba
 by_cases a:n+1<c.length/\Zad c (n+1)=false
 · rw [if_pos a]
   by_cases b:n+2<c.length/\Zad c (n+2)=false
   · rw [if_pos b];omega
   · rw [if_neg b];omega
 · rw [if_neg a];omega
theorem Zpd {c:List Ins}:∀ {r n m:Nat} {x:Jn},Zqt c r n=some (m,x)->n<=m/\m<n+r/\Zaj c m (Zba c m)=some x
 | 0,n,m,x,h=>by cases h
 | r+1,n,m,x,h=>by
   rw [Zjz] at h
   cases hm:Zaj c n (Zba c n) with
   | some y =>
     rw [hm] at h
     simp only [Option.some.injEq,Prod.mk.injEq] at h
     obtain ⟨rfl,rfl⟩:=h
     exact ⟨Nat.le_refl _,by omega,hm⟩
   | none =>
     rw [hm] at h
     obtain ⟨h1,h2,h3⟩:=Zpd h
     exact ⟨by omega,by omega,h3⟩
theorem Zio:∀ {fs:List FnP} {i f m:Nat} {x:Jn},Zqs fs i=some (f,m,x)->∃ fn,i<=f/\fs[f - i]? = some fn/\m<fn.2.2.2.length/\Zaj fn.2.2.2 m (Zba fn.2.2.2 m)=some x
 | [],i,f,m,x,h=>by cases h
 | fn::r,i,f,m,x,h=>by
   rw [Zqs] at h
   cases hr:Zqt fn.2.2.2 fn.2.2.2.length 0 with
   | some p =>
     obtain ⟨n,y⟩:=p
     rw [hr] at h
     simp only [Option.some.injEq,Prod.mk.injEq] at h
     obtain ⟨rfl,rfl,rfl⟩:=h
     obtain ⟨_,h2,h3⟩:=Zpd hr
     exact ⟨fn,Nat.le_refl _,by simp,by omega,h3⟩
   | none =>
     rw [hr] at h
     obtain ⟨g,h1,h2,h3,h4⟩:=Zio h
     refine ⟨g,by omega,?_,h3,h4⟩
     rw [show f - i=(f - (i+1))+1 by omega,List.getElem?_cons_succ]
     exact h2
theorem Zjh {hs:Nat->List Int} {V:List Bool}:∀ {r i:Nat},Zbk hs V r i=none->∀ f,i<=f->f<i+r->V.getD f false=true/\∀ n,n<(hs f).length->0<=(hs f).getD n 0
 | 0,i,_,f,h1,h2=>by omega
 | r+1,i,h,f,h1,h2=>by
   rw [Zbk] at h
   by_cases hv:V.getD i false=false
   · rw [if_pos hv] at h;cases h
   · rw [if_neg hv] at h
     cases hf:(hs i).findIdx? (fun h=>decide (h<0)) with
     | some n=>rw [hf] at h;cases h
     | none =>
       rw [hf] at h
       by_cases e:f=i
       · subst e
         refine ⟨by cases e2:V.getD f false <;> simp_all,fun n hn => ?_⟩
         rw [List.findIdx?_eq_none_iff] at hf
         have:=hf ((hs f)[n]) (List.getElem_mem hn)
         rw [List.getD_eq_getElem?_getD,List.getElem?_eq_getElem hn]
         simpa using this
       · exact Zjh h f (by omega) (by omega)
theorem Jz {fs:List FnP} (P:Zjp fs) {fn:FnP} (hm:fn∈fs):Zeb fn.2.2.2:=fun x hx hj=>by
 refine (P.ins fn hm x hx).jump ?_
 simp only [jmp,Bool.or_eq_true,beq_iff_eq] at hj
 omega
theorem Yqn {fs:List FnP} (P:Zjp fs) {fn:FnP} (hm:fn∈fs):Ywy fs.length fn.2.2.2 :=
 ⟨(P.len fn hm).2,(P.len fn hm).1,Jz P hm,fun x hx e=>(P.ins fn hm x hx).ok.call e⟩
theorem Ymz {fs:List FnP} (P:Zjp fs) {fn:FnP} (hm:fn∈fs) (hr:Jl fn.2.2.2):Xbm fn.2.2.2 :=
 ⟨(P.len fn hm).2,(P.len fn hm).1,Jz P hm,hr⟩
theorem Ztl {fs:List FnP} (P:Zjp fs) {fn:FnP} (hm:fn∈fs) {s:HS} (r:HRun fs fn (hs0 fn.2.2.2.length) 0 s fn.2.2.2.length) (h:∀ n,n<fn.2.2.2.length->0<=s.h.getD n 0):Zew fn.2.2.2:=by
 obtain ⟨_,cl⟩:=Zbl P hm r
 intro a ha b hb
 have hn:=cl a ha (h a ha)
 obtain ⟨⟨op,v⟩,hx⟩:∃ x,fn.2.2.2[a]? = some x:=⟨_,List.getElem?_eq_getElem ha⟩
 have hia:Zn fn.2.2.2 a=(op,v):=by unfold Zn;rw [List.getD_eq_getElem?_getD,hx];rfl
 unfold Zap at hb
 rw [hia] at hb
 simp only [] at hb
 unfold Jc at hn
 rw [hx] at hn
 simp only [] at hn
 by_cases h0:op=0
 · subst h0
   rw [if_pos rfl] at hb
   injection hb with hb
   subst hb
   refine (hn (a+1) ?_).1
   simp [Yy]
 · rw [if_neg h0] at hb
   by_cases h14:op=14
   · subst h14
     rw [if_pos rfl] at hb
     injection hb with hb
     subst hb
     refine (hn v.toNat ?_).1
     simp [Yy]
   · rw [if_neg h14] at hb;cases hb
theorem Zvt {fs:List FnP} (P:Zjp fs) {fn:FnP} (hm:fn∈fs) (hs:Zew fn.2.2.2):Zhm fn.2.2.2:=⟨(P.len fn hm).2,(P.len fn hm).1,hs,Jz P hm⟩
theorem Zzq {fs:List FnP} (P:Zjp fs) {fn:FnP} (hm:fn∈fs) {n:Nat} {x:Jn} (hn:n<fn.2.2.2.length) (h:Zaj fn.2.2.2 n (Zba fn.2.2.2 n)=some x):Yqq fn.2.2.2 n x.long x.put:=by
 obtain ⟨h1,h2,h3⟩:=Zpi (Zrt _ _) h
 have h4:=Yae hn
 exact ⟨(P.len fn hm).2,hn,h1,by omega,by omega,Jz P hm,Yhx (Jz P hm) h⟩
theorem Ydm (mem:Int) (dl:List Int) (fs:List FnP) (pd pF:Option Addr) (cd cF B:Nat) (fv:Array Value) (gH cH gV:Nat) (gh:Nat->Nat) (hs:Nat->List Int) (V:List Bool) (w:World) (b1:Nat) (b2:Nat) (hBw:B<=w.heap.size) (hF:Yl w B pF fs) (hD:Rd w pd (dl.map (Value.int .u8))) (hd:dl.length<=4194304) (hn:fs.length<=64) (hok:∀ f∈fs,Ywy fs.length f.2.2.2) (hFA:Zhx w fs (.agg fv) gH cH gV gh hs V) (h2:w.heap[b2]? = some (.cells fv 35 (0,0)))
 (h1:w.heap[b1]? = some (.cells #[.int .i64 mem,.slice pd dl.length cd,.slice pF fs.length cF] 25 (0,0))) :
 Calls Try.prog 31 #[.pointer (some ⟨b1,0,none⟩),.pointer (some ⟨b2,0,none⟩)] w (Zfo w mem dl (Zam fs hs V)):=by
 have G0:=Ga w (.cells #[.int .i64 0,.slice none 0 0,.slice none 0 0] 25) none
 obtain ⟨q1,q2,m1,m2,j1,j2,ce,co,hfv⟩:=hFA.f
 injection hfv with hfv
 subst hfv
 have RP:=Hq (Ydy mem dl fs pd pF cd cF B _ gH cH gV gh hs V (w.alloc (.cells #[.int .i64 0,.slice none 0 0,.slice none 0 0] 25)) (Nat.le_trans hBw G0.size) (Zq hF G0 (by simp)) (Ys hD G0) hd hn hok (Zcj hFA G0))
 have XN:=Hq (heap_alloc_new w (.cells #[.int .i64 0,.slice none 0 0,.slice none 0 0] 25))
 have c0:=Cq _ _ 0 _ _ _ h1
 have c1:=Cq _ _ 1 _ _ _ h1
 have c2:=Cq _ _ 2 _ _ _ h1
 have d0:=Cq _ _ 0 _ _ _ h2
 have d1:=Cq _ _ 1 _ _ _ h2
 have d2:=Cq _ _ 2 _ _ _ h2
 have d3:=Cq _ _ 3 _ _ _ h2
 have d4:=Cq _ _ 4 _ _ _ h2
 have d5:=Cq _ _ 5 _ _ _ h2
 have l2:=(Gs h2)
 have l1:=(Gs h1)
 have GG:=Hq G0
 clear G0 hF hD h1 hok hFA h2
 go_enter Try.func31,Try.ntmps31
 go_wp2_with fail
 clear c0 c1 c2 l1 d0 d1 d2 d3 d4 d5 l2
 generalize hs9:w.heap.size=bs at *
 have HS:=Hq hs9
 clear hs9
 generalize w.alloc (.cells #[.int .i64 0,.slice none 0 0,.slice none 0 0] 25)=w2 at *
 refine RP.out.mono ?_
 rintro e w3 ⟨D,F,cv,rfl,g3,o3⟩
 obtain ⟨pD,pF3,cD,cF3,rfl,rfl⟩:=Xa o3
 have X3:=Zb XN.out g3 (by simp)
 have v0:=Cq _ _ 0 _ _ _ X3
 have v1:=Cq _ _ 1 _ _ _ X3
 have v2:=Cq _ _ 2 _ _ _ X3
 have z0:=frozen_of_row _ _ 0 _ _ X3
 have z1:=frozen_of_row _ _ 1 _ _ X3
 have z2:=frozen_of_row _ _ 2 _ _ X3
 have lv:=(Gs X3)
 have HX:=Hq X3
 have G3:=Hq (Za GG.out g3)
 have O3:=Hq (Jm o3 (show w.heap.size<=w2.heap.size from GG.out.size))
 have hbs:w.heap.size<=bs:=by rw [HS.out];exact Nat.le_refl _
 clear X3 g3 o3
 go_wp2
 refine bodyPost_ret (v := .agg #[.int .i64 mem,.slice pD dl.length cD,.slice pF3 (Zam fs hs V).length cF3]) ?_ rfl ⟨_,_,cv,rfl,Zd (Zd (Zd G3.out hbs) hbs) hbs,Jh (mem:=mem) O3.out HX.out⟩
 rw [Yq rfl]
 go_simp
theorem Ydl (mem:Int) (dl:List Int) (fs:List FnP) (pd pF:Option Addr) (cd cF B:Nat)  (w:World) (b1:Nat) (hBw:B<=w.heap.size) (hF:Yl w B pF fs) (hD:Rd w pd (dl.map (Value.int .u8))) (hd:dl.length<=4194304) (hn:fs.length<=64) (hok:∀ f∈fs,Zhm f.2.2.2)
 (h1:w.heap[b1]? = some (.cells #[.int .i64 mem,.slice pd dl.length cd,.slice pF fs.length cF] 25 (0,0))) :
 Calls Try.prog 34 #[.pointer (some ⟨b1,0,none⟩)] w (Zfo w mem dl (Xp fs)):=by
 have G0:=Ga w (.cells #[.int .i64 0,.slice none 0 0,.slice none 0 0] 25) none
 have RP:=Hq (Zti mem dl fs pd pF cd cF B (w.alloc (.cells #[.int .i64 0,.slice none 0 0,.slice none 0 0] 25)) (Nat.le_trans hBw G0.size) (Zq hF G0 (by simp)) (Ys hD G0) hd hn hok)
 have XN:=Hq (heap_alloc_new w (.cells #[.int .i64 0,.slice none 0 0,.slice none 0 0] 25))
 have c0:=Cq _ _ 0 _ _ _ h1
 have c1:=Cq _ _ 1 _ _ _ h1
 have c2:=Cq _ _ 2 _ _ _ h1
 have l1:=(Gs h1)
 have GG:=Hq G0
 clear G0 hF hD h1 hok
 go_enter Try.func34,Try.ntmps34
 go_wp2_with fail
 clear c0 c1 c2 l1
 generalize hs9:w.heap.size=bs at *
 have HS:=Hq hs9
 clear hs9
 generalize w.alloc (.cells #[.int .i64 0,.slice none 0 0,.slice none 0 0] 25)=w2 at *
 refine RP.out.mono ?_
 rintro e w3 ⟨D,F,cv,rfl,g3,o3⟩
 obtain ⟨pD,pF3,cD,cF3,rfl,rfl⟩:=Xa o3
 have X3:=Zb XN.out g3 (by simp)
 have v0:=Cq _ _ 0 _ _ _ X3
 have v1:=Cq _ _ 1 _ _ _ X3
 have v2:=Cq _ _ 2 _ _ _ X3
 have z0:=frozen_of_row _ _ 0 _ _ X3
 have z1:=frozen_of_row _ _ 1 _ _ X3
 have z2:=frozen_of_row _ _ 2 _ _ X3
 have lv:=(Gs X3)
 have HX:=Hq X3
 have G3:=Hq (Za GG.out g3)
 have O3:=Hq (Jm o3 (show w.heap.size<=w2.heap.size from GG.out.size))
 have hbs:w.heap.size<=bs:=by rw [HS.out];exact Nat.le_refl _
 clear X3 g3 o3
 go_wp2
 refine bodyPost_ret (v := .agg #[.int .i64 mem,.slice pD dl.length cD,.slice pF3 (Xp fs).length cF3]) ?_ rfl ⟨_,_,cv,rfl,Zd (Zd (Zd G3.out hbs) hbs) hbs,Jh (mem:=mem) O3.out HX.out⟩
 rw [Yq rfl]
 go_simp
end Go.Proofs.Ythlkflagancdfaa.OT
namespace Go.Proofs.Ythlkflagancdfaa.CK
open Go.RowKit Go.Great Go.Maps
structure RnB (w wr:World) (mem:Int) (pd:Option Addr) (nd cd:Nat) (pF:Option Addr) (cF:Nat) (fs:List FnP):Prop where
 gr:w.grownBy wr none
 pb:Yej wr w.heap.size mem (.slice pd nd cd) (.slice pF fs.length cF)
 f2:wr.heap[w.heap.size+1]? = some (.cells #[.slice none 0 0,.slice none 0 0,.slice none 0 0,.slice none 0 0,.int .i64 0,.int .i64 0] 35 (0,0))
 f3:wr.heap[w.heap.size+1+1]? = some (.cells #[.int .i64 0,.int .i64 0,.int .i64 0] 39 (0,0))
 sz:w.heap.size+3<=wr.heap.size
theorem Js {w wr wr':World} {mem:Int} {pd:Option Addr} {nd cd:Nat} {pF:Option Addr} {cF:Nat} {fs:List FnP} {r:Option Nat} (H:RnB w wr mem pd nd cd pF cF fs) (g:wr.grownBy wr' r) (hr:∀ k,r=some k->w.heap.size+3<=k):RnB w wr' mem pd nd cd pF cF fs:=by
 have nn:∀ b,b<w.heap.size+3->r≠some b:=fun b hb e=>by have:=hr b e;omega
 exact ⟨Yw H.gr g (fun k hk=>by have:=hr k hk;omega),Zb H.pb g (nn _ (by omega)),Zb H.f2 g (nn _ (by omega)),Zb H.f3 g (nn _ (by omega)),Nat.le_trans H.sz g.size⟩
theorem Zip {w wr:World} {mem:Int} {pd:Option Addr} {nd cd:Nat} {pF:Option Addr} {cF:Nat} {fs:List FnP} {F0 F1 F2 F3 F4 F5 G0 G1 G2:Value} (H:RnB w wr mem pd nd cd pF cF fs):w.grownBy (Zwq wr (w.heap.size+1) (w.heap.size+1+1) F0 F1 F2 F3 F4 F5 G0 G1 G2) none /\
 (Zwq wr (w.heap.size+1) (w.heap.size+1+1) F0 F1 F2 F3 F4 F5 G0 G1 G2).heap[w.heap.size+1]? = some (.cells #[F0,F1,F2,F3,F4,F5] 35 (0,0))/\(Zwq wr (w.heap.size+1) (w.heap.size+1+1) F0 F1 F2 F3 F4 F5 G0 G1 G2).heap[w.heap.size+1+1]? = some (.cells #[G0,G1,G2] 39 (0,0)) :=
 ⟨Zhc H.gr (by omega) (by omega),(Zgj H.f2 H.f3 (by omega)).1,(Zgj H.f2 H.f3 (by omega)).2⟩
def rnF (N:Nat) (t:Nat->Value):Act:=⟨#[t 0,.pointer (some ⟨N,0,none⟩),.pointer (some ⟨N+1,0,none⟩),.pointer (some ⟨N+1+1,0,none⟩),t 4,t 5,t 6,t 7,t 8,t 9,t 10,t 11,t 12,t 13,t 14,t 15,t 16,t 17,t 18,t 19,t 20,t 21,t 22,t 23,t 24,t 25,t 26,t 27,t 28,t 29,t 30,t 31,t 32,t 33,t 34,t 35,t 36,t 37,t 38,t 39,t 40,t 41,t 42,t 43,t 44,t 45,t 46,t 47,t 48,t 49,t 50,t 51,t 52,t 53,t 54,t 55,t 56,t 57,t 58,t 59,t 60,t 61,t 62,t 63,t 64,t 65,t 66,t 67,t 68,t 69,t 70,t 71,t 72,t 73,t 74,t 75,t 76,t 77,t 78,t 79,t 80,t 81,t 82,t 83,t 84,t 85,t 86,t 87,t 88,t 89],[]⟩
structure Xfh (N:Nat) (a:Act):Prop where
 sz:a.tmps.size=90
 df:a.defers=[]
 s1:a.tmps.getD 1 undef = .pointer (some ⟨N,0,none⟩)
 s2:a.tmps.getD 2 undef = .pointer (some ⟨N+1,0,none⟩)
 s3:a.tmps.getD 3 undef = .pointer (some ⟨N+1+1,0,none⟩)
theorem Yyo {N:Nat} {a:Act} (H:Xfh N a):a=rnF N (fun i=>a.tmps.getD i undef):=by
 refine Zki H.sz H.df fun j hj => ?_
 have hs:=H.sz
 rw [hs] at hj
 unfold tm
 iterate 1 (rcases j with _|j;· rfl)
 rcases j with _|j
 · exact H.s1
 rcases j with _|j
 · exact H.s2
 rcases j with _|j
 · exact H.s3
 iterate 86 (rcases j with _|j;· rfl)
 omega
def Zwr (fs:List FnP) (f:Nat):Nat:=match fs[f]? with|some fn=>fn.2.2.2.length|none=>0
def Yeu {α:Type} (g:Nat->α) (k:Nat) (v:α):Nat->α:=fun x=>if x=k then v else g x
theorem Jq {α:Type} (g:Nat->α) (k:Nat) (v:α):Yeu g k v k=v:=if_pos rfl
theorem Jx {α:Type} {g:Nat->α} {k x:Nat} {v:α} (h:x≠k):Yeu g k v x=g x:=if_neg h
theorem Zea {α:Type} (g:Nat->α) (k:Nat):(List.range (k+1)).map g=(List.range k).map g++[g k]:=by rw [List.range_succ,List.map_append];rfl
theorem Zff {α β:Type} (g:Nat->α) (k:Nat) (v:α) (φ:Nat->α->β):(List.range k).map (fun f=>φ f (Yeu g k v f))=(List.range k).map fun f=>φ f (g f):=by
 refine List.map_congr_left fun x hx => ?_
 rw [Jx (by have:=List.mem_range.1 hx;omega)]
structure RnW (w wr:World) (mem:Int) (pd:Option Addr) (nd cd:Nat) (pF:Option Addr) (cF:Nat) (fs:List FnP) (bx kH kT kL kR:Nat) (vH vT vL:Value) (gh:Nat->Nat) (tops:Nat->Int) (hs:Nat->List Int) (lv:Nat->Value) (ln:Nat->Nat):Prop where
 b:RnB w wr mem pd nd cd pF cF fs
 xb:wr.heap[bx]? = some (.cells #[vH,vT,vL,.slice none 0 0,.int .i64 0,.int .i64 0] 35 (0,0))
 bxl:w.heap.size+3<=bx
 oH:wr.ownsRow (bx+1) 32 1 vH kH ((List.range kH).map fun f=>Value.slice (some ⟨gh f,0,none⟩) (Zwr fs f) (Zwr fs f))
 oT:wr.ownsRow (bx+1) 3 1 vT kT ((List.range kT).map fun f=>Value.int .i64 (tops f))
 oL:wr.ownsRow (bx+1) 32 1 vL kL ((List.range kL).map fun f=>lv f)
 ap:∀ q,vH.ownBlock=some q->vL.ownBlock≠some q
 rows:∀ f,f<kR->wr.ownsRow (bx+1) 3 1 (.slice (some ⟨gh f,0,none⟩) (Zwr fs f) (Zwr fs f)) (Zwr fs f) ((hs f).map (Value.int .i64))
 rT:∀ f,f<kR->vT.ownBlock≠some (gh f)
 ht:∀ (f:Nat) (fn:FnP),f<kR->fs[f]? = some fn->∃ s,HRun fs fn (hs0 fn.2.2.2.length) 0 s fn.2.2.2.length/\Zzb fn.2.2.2.length s/\s.h=hs f/\s.top=tops f
 lp:∀ (f:Nat) (fn:FnP),f<kL->fs[f]? = some fn->∃ (p:Option Addr) (c:Nat),lv f = .slice p (ln f) c/\(ln f=0->Yxb (nxL fn.2.2.2 (hs f)))
section
variable {w wr wr' W3 W4:World} {mem:Int} {pd:Option Addr} {nd cd:Nat} {pF:Option Addr} {cF:Nat} {fs:List FnP} {bx k kH kT kL kR:Nat} {vH vT vL v':Value} {gh:Nat->Nat} {tops:Nat->Int} {hs:Nat->List Int} {lv:Nat->Value} {ln:Nat->Nat}
theorem Zrk {v:Value} {r:Option Nat} (h:∀ q,v.ownBlock=some q->r≠some q):v.ownBlock=none\/v.ownBlock≠r:=by
 cases e:v.ownBlock with
 | none=>exact Or.inl rfl
 | some q=>exact Or.inr (fun e2=>h q e e2.symm)
theorem Zei (H:RnW w wr mem pd nd cd pF cF fs bx kH kT kL kR vH vT vL gh tops hs lv ln) (g:wr.grownBy wr' none):RnW w wr' mem pd nd cd pF cF fs bx kH kT kL kR vH vT vL gh tops hs lv ln :=
 ⟨Js H.b g (fun k e=>by cases e),Zb H.xb g (by simp),H.bxl,H.oH.kept g (Classical.em _),H.oT.kept g (Classical.em _),H.oL.kept g (Classical.em _),H.ap,fun f hf=>(H.rows f hf).kept g (Classical.em _),H.rT,H.ht,H.lp⟩
theorem Ytv (H:RnW w wr mem pd nd cd pF cF fs bx k k k k vH vT vL gh tops hs lv ln) {g:Nat} {s:HS} {fn:FnP} (hfn:fs[k]? = some fn) (hr:HRun fs fn (hs0 fn.2.2.2.length) 0 s fn.2.2.2.length) (hi:Zzb fn.2.2.2.length s)
 (ho:wr.ownsRow (bx+1) 3 1 (.slice (some ⟨g,0,none⟩) (Zwr fs k) (Zwr fs k)) (Zwr fs k) (s.h.map (Value.int .i64))) (hg:vT.ownBlock≠some g) :
 RnW w wr mem pd nd cd pF cF fs bx k k k (k+1) vH vT vL (Yeu gh k g) (Yeu tops k s.top) (Yeu hs k s.h) lv ln:=by
 refine ⟨H.b,H.xb,H.bxl,?_,?_,H.oL,H.ap,fun f hf => ?_,fun f hf => ?_,fun f fn' hf hfn' => ?_,fun f fn' hf hfn' => ?_⟩
 · rw [Zff gh k g (fun f x=>Value.slice (some ⟨x,0,none⟩) (Zwr fs f) (Zwr fs f))];exact H.oH
 · rw [Zff tops k s.top (fun f x=>Value.int .i64 x)];exact H.oT
 · by_cases e:f=k
   · subst e;rw [Jq,Jq];exact ho
   · rw [Jx e,Jx e];exact H.rows f (by omega)
 · by_cases e:f=k
   · subst e;rw [Jq];exact hg
   · rw [Jx e];exact H.rT f (by omega)
 · by_cases e:f=k
   · subst e
     rw [hfn] at hfn'
     injection hfn' with hfn'
     subst hfn'
     rw [Jq,Jq]
     exact ⟨s,hr,hi,rfl,rfl⟩
   · rw [Jx e,Jx e];exact H.ht f fn' (by omega) hfn'
 · rw [Jx (by omega)];exact H.lp f fn' hf hfn'
theorem Ygd (H:RnB w W4 mem pd nd cd pF cF fs) (hb:w.heap.size+3<=bx) (o:Nat) (v:Value):RnB w (W4.setCell ⟨bx,o,none⟩ v) mem pd nd cd pF cF fs:=Js H (Zh W4 bx o v) (fun k e=>by injection e with e;omega)
theorem Zfs {e:TypeId} {size n:Nat} {v:Value} {xs:List Value} (h:W4.ownsRow (bx+1) e size v n xs) (o:Nat) (u:Value):(W4.setCell ⟨bx,o,none⟩ u).ownsRow (bx+1) e size v n xs:=Zdx h (Nat.lt_succ_self _)
theorem Xdn (H:RnW w wr mem pd nd cd pF cF fs bx kH kT kL kR vH vT vL gh tops hs lv ln) (g0:wr.grownBy W3 none) (hown:W4.ownsRow (bx+1) 32 1 v' (kH+1) (((List.range kH).map fun f=>Value.slice (some ⟨gh f,0,none⟩) (Zwr fs f) (Zwr fs f))++[.slice (some ⟨gh kH,0,none⟩) (Zwr fs kH) (Zwr fs kH)]))
 (hgr:W3.grownBy W4 vH.ownBlock) (hloc:v'.ownBlock=vH.ownBlock\/v'.ownBlock=some W3.heap.size):RnW w (W4.setCell ⟨bx,0,none⟩ v') mem pd nd cd pF cF fs bx (kH+1) kT kL kR v' vT vL gh tops hs lv ln:=by
 have H0:=Zei H g0
 have hlo:∀ q,vH.ownBlock=some q->w.heap.size+3<=q:=fun q hq=>by have:=(H0.oH.lt q hq).1;have:=H.bxl;omega
 have b4:=Js H0.b hgr hlo
 have x4:=Zb H0.xb hgr (Zfb H0.oH (Nat.lt_succ_self _))
 refine ⟨Ygd b4 H.bxl _ _,Zg x4,H.bxl,?_,?_,?_,fun q hq hq2 => ?_,fun f hf => ?_,H.rT,H.ht,H.lp⟩
 · rw [Zea];exact Zfs hown _ _
 · exact Zfs (H0.oT.kept hgr (Zrk fun q hq=>Yz H0.oT H0.oH (by decide) hq)) _ _
 · exact Zfs (H0.oL.kept hgr (Zrk fun q hq e=>H.ap q e hq)) _ _
 · rcases hloc with h|h
   · rw [h] at hq;exact H.ap q hq hq2
   · rw [h] at hq
     injection hq with hq
     have:=(H.oL.lt q hq2).2
     have:=g0.size
     omega
 · exact Zfs ((H0.rows f hf).kept hgr (Zrk fun q hq=>Yz (H0.rows f hf) H0.oH (by decide) hq)) _ _
theorem Xdl (H:RnW w wr mem pd nd cd pF cF fs bx kH kT kL kR vH vT vL gh tops hs lv ln) (g0:wr.grownBy W3 none) (hown:W4.ownsRow (bx+1) 3 1 v' (kT+1) (((List.range kT).map fun f=>Value.int .i64 (tops f))++[.int .i64 (tops kT)]))
 (hgr:W3.grownBy W4 vT.ownBlock) (hloc:v'.ownBlock=vT.ownBlock\/v'.ownBlock=some W3.heap.size):RnW w (W4.setCell ⟨bx,1,none⟩ v') mem pd nd cd pF cF fs bx kH (kT+1) kL kR vH v' vL gh tops hs lv ln:=by
 have H0:=Zei H g0
 have hlo:∀ q,vT.ownBlock=some q->w.heap.size+3<=q:=fun q hq=>by have:=(H0.oT.lt q hq).1;have:=H.bxl;omega
 have b4:=Js H0.b hgr hlo
 have x4:=Zb H0.xb hgr (Zfb H0.oT (Nat.lt_succ_self _))
 refine ⟨Ygd b4 H.bxl _ _,Zg x4,H.bxl,?_,?_,?_,H.ap,fun f hf => ?_,fun f hf => ?_,H.ht,H.lp⟩
 · exact Zfs (H0.oH.kept hgr (Zrk fun q hq=>Yz H0.oH H0.oT (by decide) hq)) _ _
 · rw [Zea];exact Zfs hown _ _
 · exact Zfs (H0.oL.kept hgr (Zrk fun q hq=>Yz H0.oL H0.oT (by decide) hq)) _ _
 · exact Zfs ((H0.rows f hf).kept hgr (Zrk fun q hq e=>by
    have e1:q=gh f:=by simpa [Value.ownBlock] using hq.symm
    subst e1
    exact H.rT f hf e)) _ _
 · rcases hloc with h|h
   · rw [h];exact H.rT f hf
   · rw [h]
     intro e
     injection e with e
     have:=((H.rows f hf).lt (gh f) rfl).2
     have:=g0.size
     omega
theorem Xdm {N6:Nat} {ws:Nat->World} {lvv v7:Value} {fn:FnP} (H:RnW w wr mem pd nd cd pF cF fs bx (k+1) (k+1) k (k+1) vH vT vL gh tops hs lv ln) (hfn:fs[k]? = some fn) (R:RkF wr.drew (bx+1) bx k fn.2.2.2 (hs k) vL ((List.range k).map fun f=>lv f) lvv v7 N6 ws) :
 ∃ n,RnW w (ws 4) mem pd nd cd pF cF fs bx (k+1) (k+1) (k+1) (k+1) vH vT v7 gh tops hs (Yeu lv k lvv) (Yeu ln k n):=by
 have H0:=Zei H (Ze (Zc wr none))
 obtain ⟨v,L,e,g1,o1,hL⟩:=R.lp
 injection e with e
 subst e
 obtain ⟨p,c,hv⟩:=Zp o1
 have hgr:=R.gr
 have hlo:∀ q,vL.ownBlock=some q->w.heap.size+3<=q:=fun q hq=>by have:=(H0.oL.lt q hq).1;have:=H.bxl;omega
 have b4:=Js H0.b hgr hlo
 have x4:=Zb H0.xb hgr (Zfb H0.oL (Nat.lt_succ_self _))
 refine ⟨L.length,?_⟩
 rw [R.e4]
 refine ⟨Ygd b4 H.bxl _ _,Zg x4,H.bxl,?_,?_,?_,fun q hq hq2 => ?_,fun f hf => ?_,H.rT,H.ht,fun f fn' hf hfn' => ?_⟩
 · exact Zfs (H0.oH.kept hgr (Zrk fun q hq=>H.ap q hq)) _ _
 · exact Zfs (H0.oT.kept hgr (Zrk fun q hq=>Yz H0.oT H0.oL (by decide) hq)) _ _
 · rw [Zea,Jq,Zff lv k lvv (fun _ x=>x)];exact Zfs R.own _ _
 · rcases R.loc with h|⟨q',h,h'⟩
   · rw [h] at hq2;exact H.ap q hq hq2
   · rw [h] at hq2
     injection hq2 with hq2
     have:=(H0.oH.lt q hq).2
     omega
 · exact Zfs ((H0.rows f hf).kept hgr (Zrk fun q hq=>Yz (H0.rows f hf) H0.oL (by decide) hq)) _ _
 · by_cases e:f=k
   · subst e
     rw [hfn] at hfn'
     injection hfn' with hfn'
     subst hfn'
     rw [Jq,Jq]
     exact ⟨p,c,hv,fun h=>hL (List.length_eq_zero_iff.1 h)⟩
   · rw [Jx e,Jx e];exact H.lp f fn' (by omega) hfn'
end
end Go.Proofs.Ythlkflagancdfaa.CK
