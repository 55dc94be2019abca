/-
  Part of a proof: contracts of functions and lemmas, each stated by its own theorem. Conditions: as each theorem states.
-/
import Derived.Test.YthlkflagancdfaaML02
import Derived.Test.YthlkflagancdfaaML11
import Derived.Deep.RegionHeld3
import Derived.Outline
import Derived.Test.YthlkflagancdfaaProg
import Derived.Test.YthlkflagancdfaaML03
set_option linter.unusedSimpArgs false
set_option linter.unusedVariables false
set_option maxRecDepth 100000
set_option maxHeartbeats 16000000
namespace Go.Proofs.Ythlkflagancdfaa.CK
open Go.RowKit Go.Great
def Yyr (nf:Nat) (fn:FnP):Prop:=∀ x∈fn.2.2.2,opE nf fn.2.2.2.length fn.2.1 x=0
def Yag (fs:List FnP) (err:Int) (f n:Nat):Prop :=
 (err=0/\f=0/\n=0/\∀ fn∈fs,Yyr fs.length fn) \/
 (err≠0/\∃ fn x,fs[f]? = some fn/\fn.2.2.2[n]? = some x/\opE fs.length fn.2.2.2.length fn.2.1 x=err/\(∀ g:Nat,g<f->∀ fn',fs[g]? = some fn'->Yyr fs.length fn')/\∀ m:Nat,m<n->∀ y,fn.2.2.2[m]? = some y->opE fs.length fn.2.2.2.length fn.2.1 y=0)
def Yjj (w:World) (fs:List FnP) (e:Ending) (w':World):Prop:=w.grownBy w' none/\∃ err f n,e = .returned (.agg #[.int .i64 err,.int .i64 (f:Nat),.int .i64 (n:Nat)])/\Yag fs err f n
structure OpW (w0 wr:World) (mem:Int) (vd vF:Value):Prop where
 gr:w0.grownBy wr none
 pb:Ycv wr w0.heap.size mem vd vF
 fb:wr.heap[w0.heap.size+1]? = some (.cells #[.int .i64 0,.int .i64 0,.int .i64 0] 39 (0,0))
theorem Ztn {w0 wr w':World} {mem:Int} {vd vF:Value} (H:OpW w0 wr mem vd vF) (g:wr.grownBy w' none):OpW w0 w' mem vd vF :=
 ⟨Za H.gr g,Zcj H.pb g (by simp),Zb H.fb g (by simp)⟩
theorem Zqo {w wr:World} {mem:Int} {vd vF:Value} {fs:List FnP} (err:Int) (f n:Nat) (H:OpW w wr mem vd vF) (ho:Yag fs err f n) :
 Yjj w fs (.returned (.agg #[.int .i64 err,.int .i64 f,.int .i64 n])) (((wr.setCell ⟨w.heap.size+1,0,none⟩ (.int .i64 err)).setCell ⟨w.heap.size+1,1,none⟩ (.int .i64 f)).setCell ⟨w.heap.size+1,2,none⟩ (.int .i64 n)) :=
 ⟨Ze (Ze (Ze H.gr (by omega)) (by omega)) (by omega),err,f,n,rfl,ho⟩
theorem Ziv {fn:Func} {R:Ending->World->Prop} {a:Act} {wr:World} {b p:Nat} {e f n:Int} (hres:fn.results = #[.cell p 39]) (hp:a.tmps.getD p undef = .pointer (some ⟨b,0,none⟩)) (hd:a.defers=[])
 (hb:wr.heap[b]? = some (.cells #[.int .i64 0,.int .i64 0,.int .i64 0] 39 (0,0))) (hR:R (.returned (.agg #[.int .i64 e,.int .i64 f,.int .i64 n])) (((wr.setCell ⟨b,0,none⟩ (.int .i64 e)).setCell ⟨b,1,none⟩ (.int .i64 f)).setCell ⟨b,2,none⟩ (.int .i64 n))) :
 bodyPost Try.prog fn R Exit.ret a (((wr.setCell ⟨b,0,none⟩ (.int .i64 e)).setCell ⟨b,1,none⟩ (.int .i64 f)).setCell ⟨b,2,none⟩ (.int .i64 n)):=by
 refine bodyPost_ret (v := .agg #[.int .i64 e,.int .i64 f,.int .i64 n]) ?_ hd hR
 have hq:(((wr.setCell ⟨b,0,none⟩ (.int .i64 e)).setCell ⟨b,1,none⟩ (.int .i64 f)).setCell ⟨b,2,none⟩ (.int .i64 n)).heap[b]? = some (.cells #[.int .i64 e,.int .i64 f,.int .i64 n] 39 (0,0)):=by
  rw [Zi (Zi (Zi hb))];rfl
 have k0:=Cq _ _ 0 _ _ _ hq
 have k1:=Cq _ _ 1 _ _ _ hq
 have k2:=Cq _ _ 2 _ _ _ hq
 clear hq hR
 generalize ((wr.setCell ⟨b,0,none⟩ (.int .i64 e)).setCell ⟨b,1,none⟩ (.int .i64 f)).setCell ⟨b,2,none⟩ (.int .i64 n)=w9 at *
 rw [Ym hres,hp]
 go_simp
theorem Zwk (mem:Int) (vd:Value) (fs:List FnP) (pF:Option Addr) (cF B:Nat) (w:World) (hvd:∃ p n c,vd = .slice p n c) (hB:B<=w.heap.size) (hF:Yk w B pF fs) (hn:fs.length<=64) (hc:∀ fn∈fs,fn.2.2.2.length<=4096) :
 Calls Try.prog 23 #[.agg #[.int .i64 mem,vd,.slice pF fs.length cF]] w (Yjj w fs):=by
 obtain ⟨pd,nd,cd,rfl⟩:=hvd
 have FF:=Hq hF
 have HL:=Hq hc
 have hni:(fs.length:Int)<=64:=by omega
 clear hF hc
 go_enter Try.func23,Try.ntmps23
 go_wp2
 have hbx:=Zrw w mem (.slice pd nd cd) (.slice pF fs.length cF)
 have H0:=Hq (OpW.mk (Za (Ga _ _ _) (Ga _ _ _)) (Zcj hbx (Ga _ (.cells #[.int .i64 0,.int .i64 0,.int .i64 0] 39) none) (by simp)) (Yi w (.cells #[.int .i64 mem,.slice pd nd cd,.slice pF fs.length cF] 25) (.cells #[.int .i64 0,.int .i64 0,.int .i64 0] 39)))
 clear hbx
 generalize (w.alloc (.cells #[.int .i64 mem,.slice pd nd cd,.slice pF fs.length cF] 25)).alloc (.cells #[.int .i64 0,.int .i64 0,.int .i64 0] 39)=w1 at *
 go_loopw [11] (fun i wr=>∃ k:Nat,i = .int .i64 k/\k<=fs.length/\OpW w wr mem (.slice pd nd cd) (.slice pF fs.length cF)/\∀ g:Nat,g<k->∀ fn',fs[g]? = some fn'->Yyr fs.length fn') (fun i _=>fs.length - (intOf i).toNat)
 case atStart=>exact ⟨0,rfl,Nat.zero_le _,H0.out,fun g hg=>by omega⟩
 case round =>
  obtain ⟨k,rfl,hk,hH,hok⟩:=hrel
  have HH:=Hq hH
  have HO:=Hq hok
  by_cases hlt:(k:Int)<(fs.length:Int)
  · obtain ⟨⟨ar,lo,r,c⟩,hf⟩:∃ x,fs[k]? = some x:=⟨_,List.getElem?_eq_getElem (by omega)⟩
    obtain ⟨b,o,rfl,hb,hc⟩:=FF.out (by omega)
    obtain ⟨c0,c1,c2,pc,cc,c3,hcode⟩:=hc k ar lo r c hf
    have hlc:=HL.out _ (List.mem_of_getElem? hf)
    simp only [] at hlc
    have hlci:(c.length:Int)<=4096:=by omega
    replace c0:=Xw hH.gr (B:=B) (by simp) hb c0
    replace c1:=Xw hH.gr (B:=B) (by simp) hb c1
    replace c2:=Xw hH.gr (B:=B) (by simp) hb c2
    replace c3:=Xw hH.gr (B:=B) (by simp) hb c3
    have hb2:b<wr.heap.size:=by have:=hH.gr.size;omega
    have HCO:=Hq hcode
    have HFk:=Hq hf
    clear hc hcode hf hH hok
    go_wp2
    clear c0 c1 c2 c3
    have H1:=Hq (Ztn HH.out (Ga wr (.cells #[.int .i64 ar,.int .i64 lo,.int .i64 r,.slice pc c.length cc] 52) none))
    have HX:=Hq (heap_alloc_new wr (.cells #[.int .i64 ar,.int .i64 lo,.int .i64 r,.slice pc c.length cc] 52))
    obtain ⟨wo,hwo⟩:∃ wo,wo=wr:=⟨_,rfl⟩
    subst hwo
    generalize wo.alloc (.cells #[.int .i64 ar,.int .i64 lo,.int .i64 r,.slice pc c.length cc] 52)=w2 at *
    generalize wo.heap.size=g4 at *
    go_loopw [19] (fun i wr=>∃ j:Nat,i = .int .i64 j/\j<=c.length/\OpW w wr mem (.slice pd nd cd) (.slice (some ⟨b,o,none⟩) fs.length cF)/\wr.heap[g4]? = some (.cells #[.int .i64 ar,.int .i64 lo,.int .i64 r,.slice pc c.length cc] 52 (0,0))/\∀ m:Nat,m<j->∀ y,c[m]? = some y->opE fs.length c.length lo y=0) (fun i _=>c.length - (intOf i).toNat)
    case atStart=>exact ⟨0,rfl,Nat.zero_le _,H1.out,HX.out,fun m hm=>by omega⟩
    case round =>
     obtain ⟨j,rfl,hj,hH,hX,hok⟩:=hrel
     have HJ:=Hq hH
     have HXJ:=Hq hX
     have HOJ:=Hq hok
     have l0:=Cq _ _ 1 _ _ _ hX
     have l3:=Cq _ _ 3 _ _ _ hX
     have sX:=(Gs hX)
     have p2:=Cq _ _ 2 _ _ _ hH.pb
     have sp:=(Gs hH.pb)
     by_cases hlj:(j:Int)<(c.length:Int)
     · obtain ⟨⟨op,a⟩,hins⟩:∃ x,c[j]? = some x:=⟨_,List.getElem?_eq_getElem (by omega)⟩
       obtain ⟨b',o',rfl,hb',hc'⟩:=HCO.out (by omega)
       obtain ⟨d0,d1⟩:=hc' j op a hins
       replace d0:=Xw hH.gr (B:=B) (by simp) hb' d0
       replace d1:=Xw hH.gr (B:=B) (by simp) hb' d1
       have hb3:b'<wr.heap.size:=by have:=hH.gr.size;omega
       have HIN:=Hq hins
       have HB:=Hq (Ztn hH (Ga wr (.cells #[.int .i64 op,.int .i64 a] 49) none))
       have HXB:=Hq (Zb hX (Ga wr (.cells #[.int .i64 op,.int .i64 a] 49) none) (by simp))
       clear hc' hins hH hX hok
       have hsplit:((op=14\/op=15\/op=16)/\((c.length:Int)<=a/\opE fs.length c.length lo (op,a)=131\/a<(c.length:Int)/\opE fs.length c.length lo (op,a)=0)) \/
        ((op=7\/op=8)/\(lo<=a/\opE fs.length c.length lo (op,a)=132\/a<lo/\opE fs.length c.length lo (op,a)=0)) \/
        (op=17/\((fs.length:Int)<=a/\opE fs.length c.length lo (op,a)=133\/a<(fs.length:Int)/\opE fs.length c.length lo (op,a)=0)) \/
        ((op≠14/\op≠15/\op≠16/\op≠7/\op≠8/\op≠17)/\opE fs.length c.length lo (op,a)=0):=by
        unfold opE
        simp only []
        by_cases h1:op=14\/op=15\/op=16
        · left
          rw [if_pos h1]
          refine ⟨h1,?_⟩
          by_cases h:(c.length:Int)<=a
          · left;rw [if_pos h];exact ⟨h,rfl⟩
          · right;rw [if_neg h];exact ⟨by omega,rfl⟩
        · right
          rw [if_neg h1]
          by_cases h2:op=7\/op=8
          · left
            rw [if_pos h2]
            refine ⟨h2,?_⟩
            by_cases h:lo<=a
            · left;rw [if_pos h];exact ⟨h,rfl⟩
            · right;rw [if_neg h];exact ⟨by omega,rfl⟩
          · right
            rw [if_neg h2]
            by_cases h3:op=17
            · left
              rw [if_pos h3]
              refine ⟨h3,?_⟩
              by_cases h:(fs.length:Int)<=a
              · left;rw [if_pos h];exact ⟨h,rfl⟩
              · right;rw [if_neg h];exact ⟨by omega,rfl⟩
            · right
              rw [if_neg h3]
              exact ⟨by omega,rfl⟩
       have HSP:=Hq hsplit
       clear hsplit
       rcases HSP.out with ⟨h,⟨hc,he⟩|⟨hc,he⟩⟩|⟨h,⟨hc,he⟩|⟨hc,he⟩⟩|⟨h,⟨hc,he⟩|⟨hc,he⟩⟩|⟨h,he⟩
       · have HZ:=Hq he
         clear he HSP
         rcases h with rfl|rfl|rfl <;> (
          have hfb:=HB.out.fb
          have f0:=Cq _ _ 0 _ _ _ hfb
          have f1:=Cq _ _ 1 _ _ _ hfb
          have f2:=Cq _ _ 2 _ _ _ hfb
          have z0:=frozen_of_row _ _ 0 _ _ hfb
          have z1:=frozen_of_row _ _ 1 _ _ hfb
          have z2:=frozen_of_row _ _ 2 _ _ hfb
          have HF6:=Hq hfb
          have s6:=(Gs hfb)
          clear hfb
          go_wp2
          exact Ziv rfl rfl rfl HF6.out (Zqo _ k j HB.out (Or.inr ⟨by decide,_,_,HFk.out,HIN.out,HZ.out,HO.out,HOJ.out⟩)))
       · have HZ:=Hq he
         clear he HSP
         rcases h with rfl|rfl|rfl <;> (
          go_wp2
          refine ⟨⟨j+1,by go_num,by omega,HB.out,HXB.out,fun m hm y hy=>by
           by_cases e:m=j
           · subst e;rw [HIN.out] at hy;injection hy with hy;subst hy;exact HZ.out
           · exact HOJ.out m (by omega) y hy⟩,by simp [intOf];omega⟩)
       · have HZ:=Hq he
         clear he HSP
         rcases h with rfl|rfl <;> (
          have hfb:=HB.out.fb
          have f0:=Cq _ _ 0 _ _ _ hfb
          have f1:=Cq _ _ 1 _ _ _ hfb
          have f2:=Cq _ _ 2 _ _ _ hfb
          have z0:=frozen_of_row _ _ 0 _ _ hfb
          have z1:=frozen_of_row _ _ 1 _ _ hfb
          have z2:=frozen_of_row _ _ 2 _ _ hfb
          have HF6:=Hq hfb
          have s6:=(Gs hfb)
          clear hfb
          go_wp2
          exact Ziv rfl rfl rfl HF6.out (Zqo _ k j HB.out (Or.inr ⟨by decide,_,_,HFk.out,HIN.out,HZ.out,HO.out,HOJ.out⟩)))
       · have HZ:=Hq he
         clear he HSP
         rcases h with rfl|rfl <;> (
          go_wp2
          refine ⟨⟨j+1,by go_num,by omega,HB.out,HXB.out,fun m hm y hy=>by
           by_cases e:m=j
           · subst e;rw [HIN.out] at hy;injection hy with hy;subst hy;exact HZ.out
           · exact HOJ.out m (by omega) y hy⟩,by simp [intOf];omega⟩)
       · have HZ:=Hq he
         clear he HSP
         subst h
         (
           have hfb:=HB.out.fb
           have f0:=Cq _ _ 0 _ _ _ hfb
           have f1:=Cq _ _ 1 _ _ _ hfb
           have f2:=Cq _ _ 2 _ _ _ hfb
           have z0:=frozen_of_row _ _ 0 _ _ hfb
           have z1:=frozen_of_row _ _ 1 _ _ hfb
           have z2:=frozen_of_row _ _ 2 _ _ hfb
           have HF6:=Hq hfb
           have s6:=(Gs hfb)
           clear hfb
           go_wp2
           exact Ziv rfl rfl rfl HF6.out (Zqo _ k j HB.out (Or.inr ⟨by decide,_,_,HFk.out,HIN.out,HZ.out,HO.out,HOJ.out⟩)))
       · have HZ:=Hq he
         clear he HSP
         subst h
         (
           go_wp2
           refine ⟨⟨j+1,by go_num,by omega,HB.out,HXB.out,fun m hm y hy=>by
            by_cases e:m=j
            · subst e;rw [HIN.out] at hy;injection hy with hy;subst hy;exact HZ.out
            · exact HOJ.out m (by omega) y hy⟩,by simp [intOf];omega⟩)
       · have HZ:=Hq he
         obtain ⟨h1,h2,h3,h4,h5,h6⟩:=h
         have b1:(op == 14)=false:=beq_eq_false_iff_ne.2 h1
         have b2:(op == 15)=false:=beq_eq_false_iff_ne.2 h2
         have b3:(op == 16)=false:=beq_eq_false_iff_ne.2 h3
         have b4:(op == 7)=false:=beq_eq_false_iff_ne.2 h4
         have b5:(op == 8)=false:=beq_eq_false_iff_ne.2 h5
         have b6:(op == 17)=false:=beq_eq_false_iff_ne.2 h6
         clear he HSP h1 h2 h3 h4 h5 h6
         (
           go_wp2
           refine ⟨⟨j+1,by go_num,by omega,HB.out,HXB.out,fun m hm y hy=>by
            by_cases e:m=j
            · subst e;rw [HIN.out] at hy;injection hy with hy;subst hy;exact HZ.out
            · exact HOJ.out m (by omega) y hy⟩,by simp [intOf];omega⟩)
     · have hjn:j=c.length:=by omega
       clear hH hX hok
       go_wp2
       refine ⟨⟨k+1,by go_num,by omega,HJ.out,fun g hg fn' hfn'=>by
        by_cases e:g=k
        · subst e;rw [HFk.out] at hfn';injection hfn' with hfn';subst hfn'
          intro x hx
          obtain ⟨m,hm,hmx⟩:=List.getElem_of_mem hx
          exact HOJ.out m (by simp only [] at hm;omega) x (by rw [<- hmx];exact List.getElem?_eq_getElem hm)
        · exact HO.out g (by omega) fn' hfn'⟩,by simp [intOf];omega⟩
  · have hkn:k=fs.length:=by omega
    have hfb:=hH.fb
    have f0:=Cq _ _ 0 _ _ _ hfb
    have f1:=Cq _ _ 1 _ _ _ hfb
    have f2:=Cq _ _ 2 _ _ _ hfb
    have z0:=frozen_of_row _ _ 0 _ _ hfb
    have z1:=frozen_of_row _ _ 1 _ _ hfb
    have z2:=frozen_of_row _ _ 2 _ _ hfb
    have HF6:=Hq hfb
    clear hH hok hfb
    go_wp2
    exact Ziv rfl rfl rfl HF6.out (Zqo 0 0 0 HH.out (Or.inl ⟨rfl,rfl,rfl,fun fn hm=>by
     obtain ⟨g,hg,e⟩:=List.getElem_of_mem hm
     exact HO.out g (by omega) fn (by rw [<- e];exact List.getElem?_eq_getElem hg)⟩))
open Go.Maps
def Yow:Value := .agg #[.slice none 0 0,.slice none 0 0,.slice none 0 0,.slice none 0 0,.int .i64 0,.int .i64 0]
def Zdm (fs:List FnP):Prop:=∃ fn,fs[0]? = some fn/\fn.1=0/\fn.2.2.1=1
def Ycp (fs:List FnP):Prop:=∀ fn∈fs,Yyr fs.length fn
def Zhf (mem:Int) (nd:Nat) (fs:List FnP) (err:Int) (f n:Nat):Prop:=err≠0 /\
 (err=Zck mem nd fs\/(Zck mem nd fs=0/\¬ Zdm fs)\/(Zck mem nd fs=0/\Zdm fs/\Yag fs err f n) \/
  (Zck mem nd fs=0/\Zdm fs/\Ycp fs/\∃ fn s,fs[f]? = some fn/\HRun fs fn (hs0 fn.2.2.2.length) 0 s n/\Xbs fs fn s n err))
structure Ytk (w w':World) (fs:List FnP) (F:Value) (gH cH gT cT gL cL gV:Nat) (ce co:Int) (gh:Nat->Nat) (hs:Nat->List Int) (V:List Bool):Prop where
 f:F = .agg #[.slice (some ⟨gH,0,none⟩) fs.length cH,.slice (some ⟨gT,0,none⟩) fs.length cT,.slice (some ⟨gL,0,none⟩) fs.length cL,.slice (some ⟨gV,0,none⟩) fs.length fs.length,.int .i64 ce,.int .i64 co]
 h:∀ (f:Nat) (fn:FnP),fs[f]? = some fn->w.heap.size<=gh f/\w'.cell? ⟨gH,f,none⟩=some (.slice (some ⟨gh f,0,none⟩) fn.2.2.2.length fn.2.2.2.length)/\∀ i:Nat,i<fn.2.2.2.length->w'.cell? ⟨gh f,i,none⟩=some (.int .i64 ((hs f).getD i 0))
 r:∀ (f:Nat) (fn:FnP),fs[f]? = some fn->∃ s,HRun fs fn (hs0 fn.2.2.2.length) 0 s fn.2.2.2.length/\Yaj fn.2.2.2.length s/\s.h=hs f
 v:∀ f:Nat,f<fs.length->w'.cell? ⟨gV,f,none⟩=some (.bool (V.getD f false))
 l:Zsb fs (Zsh fs hs) V
 lo:w.heap.size<=gH/\w.heap.size<=gV
def Zjx (w:World) (mem:Int) (nd:Nat) (fs:List FnP) (e:Ending) (w':World):Prop:=w.grownBy w' none /\
 ((∃ err f n,e = .returned (.tuple #[Yow,.agg #[.int .i64 err,.int .i64 (f:Nat),.int .i64 (n:Nat)]])/\Zhf mem nd fs err f n) \/
  (Zck mem nd fs=0/\Zdm fs/\Ycp fs/\∃ F gH cH gT cT gL cL gV ce co gh hs V,e = .returned (.tuple #[F,Zun])/\Ytk w w' fs F gH cH gT cT gL cL gV ce co gh hs V))
theorem Zqe {fn:Func} {p q:Tmp} {ty ty':TypeId} (h:fn.results = #[.cell p ty,.cell q ty']) (tmps:Array Value) (P:Program) (w:World) :
 (results fn tmps).run P w =
   ((asAddr (tmps.getD p undef)).run P w).andThen fun a w₁=>((loadVar ty a).run P w₁).andThen fun x w₂=>((asAddr (tmps.getD q undef)).run P w₂).andThen fun b w₃=>((loadVar ty' b).run P w₃).andThen fun y w₄ => .ok (.tuple #[x,y]) w₄:=by
 simp only [results,h]
 simp [Sem.run_bind,Result.andThen]
theorem Zjt {R:Ending->World->Prop} {a:Act} {w9:World} {b2 b3:Nat} {F0 F1 F2 F3 F4 F5 G0 G1 G2:Value} (h2:a.tmps.getD 2 undef = .pointer (some ⟨b2,0,none⟩)) (h3:a.tmps.getD 3 undef = .pointer (some ⟨b3,0,none⟩)) (hd:a.defers=[])
 (x2:w9.heap[b2]? = some (.cells #[F0,F1,F2,F3,F4,F5] 35 (0,0))) (x3:w9.heap[b3]? = some (.cells #[G0,G1,G2] 39 (0,0)))
 (hR:R (.returned (.tuple #[.agg #[F0,F1,F2,F3,F4,F5],.agg #[G0,G1,G2]])) w9):bodyPost Try.prog Try.f9 R Exit.ret a w9:=by
 refine bodyPost_ret (v := .tuple #[.agg #[F0,F1,F2,F3,F4,F5],.agg #[G0,G1,G2]]) ?_ hd hR
 have k0:=Cq _ _ 0 _ _ _ x2
 have k1:=Cq _ _ 1 _ _ _ x2
 have k2:=Cq _ _ 2 _ _ _ x2
 have k3:=Cq _ _ 3 _ _ _ x2
 have k4:=Cq _ _ 4 _ _ _ x2
 have k5:=Cq _ _ 5 _ _ _ x2
 have j0:=Cq _ _ 0 _ _ _ x3
 have j1:=Cq _ _ 1 _ _ _ x3
 have j2:=Cq _ _ 2 _ _ _ x3
 clear x2 x3 hR
 rw [Zqe rfl,h2,h3]
 go_simp
def Zvr (w:World) (b2 b3:Nat) (F0 F1 F2 F3 F4 F5 G0 G1 G2:Value):World :=
 ((((((((w.setCell ⟨b2,0,none⟩ F0).setCell ⟨b2,1,none⟩ F1).setCell ⟨b2,2,none⟩ F2).setCell ⟨b2,3,none⟩ F3).setCell ⟨b2,4,none⟩ F4).setCell ⟨b2,5,none⟩ F5).setCell ⟨b3,0,none⟩ G0).setCell ⟨b3,1,none⟩ G1).setCell ⟨b3,2,none⟩ G2
theorem Zfv {w:World} {b2 b3:Nat} {z0 z1 z2 z3 z4 z5 y0 y1 y2 F0 F1 F2 F3 F4 F5 G0 G1 G2:Value} (h2:w.heap[b2]? = some (.cells #[z0,z1,z2,z3,z4,z5] 35 (0,0))) (h3:w.heap[b3]? = some (.cells #[y0,y1,y2] 39 (0,0))) (hne:b2≠b3) :
 (Zvr w b2 b3 F0 F1 F2 F3 F4 F5 G0 G1 G2).heap[b2]? = some (.cells #[F0,F1,F2,F3,F4,F5] 35 (0,0))/\(Zvr w b2 b3 F0 F1 F2 F3 F4 F5 G0 G1 G2).heap[b3]? = some (.cells #[G0,G1,G2] 39 (0,0)):=by
 have n2:∀ {X:World} {o:Nat} {v:Value} {obj:Obj},X.heap[b2]? = some obj->(X.setCell ⟨b3,o,none⟩ v).heap[b2]? = some obj:=fun h=>Zb h (Zg _ _ _ _) (by intro e;injection e with e;exact hne e.symm)
 have n3:∀ {X:World} {o:Nat} {v:Value} {obj:Obj},X.heap[b3]? = some obj->(X.setCell ⟨b2,o,none⟩ v).heap[b3]? = some obj:=fun h=>Zb h (Zg _ _ _ _) (by intro e;injection e with e;exact hne e)
 constructor
 · unfold Zvr
   refine n2 (n2 (n2 ?_))
   rw [Zi (Zi (Zi (Zi (Zi (Zi h2)))))];rfl
 · unfold Zvr
   rw [Zi (Zi (Zi (n3 (n3 (n3 (n3 (n3 (n3 h3))))))))];rfl
theorem Zgp {w0 w:World} {b2 b3:Nat} {F0 F1 F2 F3 F4 F5 G0 G1 G2:Value} (h:w0.grownBy w none) (h2:w0.heap.size<=b2) (h3:w0.heap.size<=b3):w0.grownBy (Zvr w b2 b3 F0 F1 F2 F3 F4 F5 G0 G1 G2) none :=
 Ze (Ze (Ze (Ze (Ze (Ze (Ze (Ze (Ze h h2) h2) h2) h2) h2) h2) h3) h3) h3
theorem Zoh {w:World} {b2 b3 k:Nat} {F0 F1 F2 F3 F4 F5 G0 G1 G2:Value} (h2:k≠b2) (h3:k≠b3):(Zvr w b2 b3 F0 F1 F2 F3 F4 F5 G0 G1 G2).heap[k]? = w.heap[k]? := by
 have s:∀ (X:World) (b o:Nat) (v:Value),k≠b->(X.setCell ⟨b,o,none⟩ v).heap[k]? = X.heap[k]? := fun X b o v hb=>heap_setCell_other X _ k v (by intro e;exact hb (by rw [e]))
 unfold Zvr
 rw [s _ _ _ _ h3,s _ _ _ _ h3,s _ _ _ _ h3,s _ _ _ _ h2,s _ _ _ _ h2,s _ _ _ _ h2,s _ _ _ _ h2,s _ _ _ _ h2,s _ _ _ _ h2]
theorem Yzy (mem:Int) (nd:Nat) (fs:List FnP) (pd pF:Option Addr) (cd cF B:Nat) (w:World) (hB:B<=w.heap.size) (hF:Yk w B pF fs) (hn:nd<=9223372036854775807) (hp:Zck mem nd fs≠0) :
 Calls Try.prog 9 #[.agg #[.int .i64 mem,.slice pd nd cd,.slice pF fs.length cF]] w (Zjx w mem nd fs):=by
 obtain ⟨t1,t2,t3⟩:=Xf w (.cells #[.int .i64 mem,.slice pd nd cd,.slice pF fs.length cF] 25) (.cells #[.slice none 0 0,.slice none 0 0,.slice none 0 0,.slice none 0 0,.int .i64 0,.int .i64 0] 35) (.cells #[.int .i64 0,.int .i64 0,.int .i64 0] 39)
 have g3:=Xg w (.cells #[.int .i64 mem,.slice pd nd cd,.slice pF fs.length cF] 25) (.cells #[.slice none 0 0,.slice none 0 0,.slice none 0 0,.slice none 0 0,.int .i64 0,.int .i64 0] 35) (.cells #[.int .i64 0,.int .i64 0,.int .i64 0] 39)
 have PC:=Hq (Zjl mem nd fs pd pF cd cF B _ (Nat.le_trans hB g3.size) (Zs hF g3 (by simp)) hn)
 have T1:=Hq t1
 have T2:=Hq t2
 have T3:=Hq t3
 have G3:=Hq g3
 have HP:=Hq hp
 have RB:=Hq (show Zhf mem nd fs (Zck mem nd fs) 0 0 from ⟨hp,Or.inl rfl⟩)
 have hpb:(Zck mem nd fs == 0)=false:=by simp [hp]
 clear t1 t2 t3 g3 hF hp
 generalize Zck mem nd fs=pe at *
 go_enter Try.func9,Try.ntmps9
 go_wp2_with (go_at_call 22;refine PC.out.mono ?_;rintro e w2 ⟨rfl,g2⟩;have X2:=Hq (Zb T2.out g2 (by simp));have X3:=Hq (Zb T3.out g2 (by simp));have G2:=Hq g2;have k0:=Cq _ _ 0 _ _ _ X2.out;have k1:=Cq _ _ 1 _ _ _ X2.out;have k2:=Cq _ _ 2 _ _ _ X2.out;have k3:=Cq _ _ 3 _ _ _ X2.out;have k4:=Cq _ _ 4 _ _ _ X2.out;have k5:=Cq _ _ 5 _ _ _ X2.out;have j0:=Cq _ _ 0 _ _ _ X3.out;have j1:=Cq _ _ 1 _ _ _ X3.out;have j2:=Cq _ _ 2 _ _ _ X3.out;have z0:=frozen_of_row _ _ 0 _ _ X2.out;have z1:=frozen_of_row _ _ 1 _ _ X2.out;have z2:=frozen_of_row _ _ 2 _ _ X2.out;have z3:=frozen_of_row _ _ 3 _ _ X2.out;have z4:=frozen_of_row _ _ 4 _ _ X2.out;have z5:=frozen_of_row _ _ 5 _ _ X2.out;have y0:=frozen_of_row _ _ 0 _ _ X3.out;have y1:=frozen_of_row _ _ 1 _ _ X3.out;have y2:=frozen_of_row _ _ 2 _ _ X3.out;have q2:=(Gs X2.out);have q3:=(Gs X3.out);clear g2)
 exact Zjt rfl rfl rfl (Zfv X2.out X3.out (by omega)).1 (Zfv X2.out X3.out (by omega)).2 ⟨Zgp (Za G3.out G2.out) (by omega) (by omega),Or.inl ⟨_,0,0,rfl,RB.out⟩⟩
theorem Zxf {fs:List FnP} (h:¬ Zdm fs) (hn:1<=fs.length):∃ ar lo r c,fs[0]? = some (ar,lo,r,c)/\(ar≠0\/(ar=0/\r≠1)):=by
 obtain ⟨⟨ar,lo,r,c⟩,hfn⟩:∃ fn,fs[0]? = some fn:=⟨_,List.getElem?_eq_getElem (by omega)⟩
 refine ⟨ar,lo,r,c,hfn,?_⟩
 by_cases e:ar=0
 · right
   exact ⟨e,fun e2=>h ⟨_,hfn,e,e2⟩⟩
 · exact Or.inl e
theorem Ztg {mem:Int} {nd:Nat} {fs:List FnP} (h:Zck mem nd fs=0):1<=fs.length/\fs.length<=64/\∀ fn∈fs,1<=fn.2.2.2.length/\fn.2.2.2.length<=4096:=by
 unfold Zck at h
 by_cases hb:mem<0\/65536<mem\/mem<nd\/fs.length<1\/64<fs.length
 · rw [if_pos hb] at h;cases h
 rw [if_neg hb] at h
 refine ⟨by omega,by omega,fun fn hm => ?_⟩
 have h1:=Zmz h fn hm
 unfold fnE at h1
 by_cases hc:fn.1<0\/16<fn.1\/fn.2.1<fn.1\/64<fn.2.1\/fn.2.2.1<0\/1<fn.2.2.1\/fn.2.2.2.length<1\/4096<fn.2.2.2.length
 · rw [if_pos hc] at h1;cases h1
 · omega
theorem Yzx (mem:Int) (nd:Nat) (fs:List FnP) (pd pF:Option Addr) (cd cF B:Nat) (w:World) (hB:B<=w.heap.size) (hF:Yk w B pF fs) (hn:nd<=9223372036854775807) (hp:Zck mem nd fs=0) (hfo:¬ Zdm fs) :
 Calls Try.prog 9 #[.agg #[.int .i64 mem,.slice pd nd cd,.slice pF fs.length cF]] w (Zjx w mem nd fs):=by
 obtain ⟨t1,t2,t3⟩:=Xf w (.cells #[.int .i64 mem,.slice pd nd cd,.slice pF fs.length cF] 25) (.cells #[.slice none 0 0,.slice none 0 0,.slice none 0 0,.slice none 0 0,.int .i64 0,.int .i64 0] 35) (.cells #[.int .i64 0,.int .i64 0,.int .i64 0] 39)
 have g3:=Xg w (.cells #[.int .i64 mem,.slice pd nd cd,.slice pF fs.length cF] 25) (.cells #[.slice none 0 0,.slice none 0 0,.slice none 0 0,.slice none 0 0,.int .i64 0,.int .i64 0] 35) (.cells #[.int .i64 0,.int .i64 0,.int .i64 0] 39)
 have PC:=Hq (Zjl mem nd fs pd pF cd cF B _ (Nat.le_trans hB g3.size) (Zs hF g3 (by simp)) hn)
 rw [hp] at PC
 have T1:=Hq t1
 have T2:=Hq t2
 have T3:=Hq t3
 have G3:=Hq g3
 have hz:(0:Int)<(fs.length:Int):=by have:=(Ztg hp).1;omega
 have RB:=Hq (show Zhf mem nd fs 139 0 0 from ⟨by decide,Or.inr (Or.inl ⟨hp,hfo⟩)⟩)
 obtain ⟨ar,lo,r,c,hfn,hcase⟩:=Zxf hfo (by omega)
 obtain ⟨bF,oF,hpF,hbF,hcF⟩:=hF (by omega)
 obtain ⟨e0,e1,e2,-⟩:=hcF 0 ar lo r c hfn
 simp only [Nat.zero_mul,Nat.add_zero] at e0 e1 e2
 subst hpF
 have f0:=g3.cell e0 (by simp)
 have f2:=g3.cell e2 (by simp)
 have E0:=Hq f0
 have E2:=Hq f2
 have hbF2:bF<w.heap.size:=by omega
 have hz2:=g3.size
 clear t1 t2 t3 g3 hF hp hcF hfn e0 e1 e2 f0 f2 hfo
 rcases hcase with h0|⟨rfl,h1⟩
 · have hb0:(ar != 0)=true:=by simp [h0]
   go_enter Try.func9,Try.ntmps9
   go_wp2_with (go_at_call 22;refine PC.out.mono ?_;rintro e w2 ⟨rfl,g2⟩;have X2:=Hq (Zb T2.out g2 (by simp));have X3:=Hq (Zb T3.out g2 (by simp));have G2:=Hq g2;have k0:=Cq _ _ 0 _ _ _ X2.out;have k1:=Cq _ _ 1 _ _ _ X2.out;have k2:=Cq _ _ 2 _ _ _ X2.out;have k3:=Cq _ _ 3 _ _ _ X2.out;have k4:=Cq _ _ 4 _ _ _ X2.out;have k5:=Cq _ _ 5 _ _ _ X2.out;have j0:=Cq _ _ 0 _ _ _ X3.out;have j1:=Cq _ _ 1 _ _ _ X3.out;have j2:=Cq _ _ 2 _ _ _ X3.out;have z0:=frozen_of_row _ _ 0 _ _ X2.out;have z1:=frozen_of_row _ _ 1 _ _ X2.out;have z2:=frozen_of_row _ _ 2 _ _ X2.out;have z3:=frozen_of_row _ _ 3 _ _ X2.out;have z4:=frozen_of_row _ _ 4 _ _ X2.out;have z5:=frozen_of_row _ _ 5 _ _ X2.out;have y0:=frozen_of_row _ _ 0 _ _ X3.out;have y1:=frozen_of_row _ _ 1 _ _ X3.out;have y2:=frozen_of_row _ _ 2 _ _ X3.out;have q2:=(Gs X2.out);have q3:=(Gs X3.out);have s1:=Zb T1.out g2 (by simp);have m2:=Cq _ _ 2 _ _ _ s1;have s1q:=(Gs s1);have n0:=g2.cell E0.out (by simp);have n2:=g2.cell E2.out (by simp);have nq:=Nat.lt_of_lt_of_le hbF2 (Nat.le_trans G3.out.size g2.size);clear g2 s1)
   exact Zjt rfl rfl rfl (Zfv X2.out X3.out (by omega)).1 (Zfv X2.out X3.out (by omega)).2 ⟨Zgp (Za G3.out G2.out) (by omega) (by omega),Or.inl ⟨_,0,0,rfl,RB.out⟩⟩
 · have hb1:(r != 1)=true:=by simp [h1]
   go_enter Try.func9,Try.ntmps9
   go_wp2_with (go_at_call 22;refine PC.out.mono ?_;rintro e w2 ⟨rfl,g2⟩;have X2:=Hq (Zb T2.out g2 (by simp));have X3:=Hq (Zb T3.out g2 (by simp));have G2:=Hq g2;have k0:=Cq _ _ 0 _ _ _ X2.out;have k1:=Cq _ _ 1 _ _ _ X2.out;have k2:=Cq _ _ 2 _ _ _ X2.out;have k3:=Cq _ _ 3 _ _ _ X2.out;have k4:=Cq _ _ 4 _ _ _ X2.out;have k5:=Cq _ _ 5 _ _ _ X2.out;have j0:=Cq _ _ 0 _ _ _ X3.out;have j1:=Cq _ _ 1 _ _ _ X3.out;have j2:=Cq _ _ 2 _ _ _ X3.out;have z0:=frozen_of_row _ _ 0 _ _ X2.out;have z1:=frozen_of_row _ _ 1 _ _ X2.out;have z2:=frozen_of_row _ _ 2 _ _ X2.out;have z3:=frozen_of_row _ _ 3 _ _ X2.out;have z4:=frozen_of_row _ _ 4 _ _ X2.out;have z5:=frozen_of_row _ _ 5 _ _ X2.out;have y0:=frozen_of_row _ _ 0 _ _ X3.out;have y1:=frozen_of_row _ _ 1 _ _ X3.out;have y2:=frozen_of_row _ _ 2 _ _ X3.out;have q2:=(Gs X2.out);have q3:=(Gs X3.out);have s1:=Zb T1.out g2 (by simp);have m2:=Cq _ _ 2 _ _ _ s1;have s1q:=(Gs s1);have n0:=g2.cell E0.out (by simp);have n2:=g2.cell E2.out (by simp);have nq:=Nat.lt_of_lt_of_le hbF2 (Nat.le_trans G3.out.size g2.size);clear g2 s1)
   exact Zjt rfl rfl rfl (Zfv X2.out X3.out (by omega)).1 (Zfv X2.out X3.out (by omega)).2 ⟨Zgp (Za G3.out G2.out) (by omega) (by omega),Or.inl ⟨_,0,0,rfl,RB.out⟩⟩
end Go.Proofs.Ythlkflagancdfaa.CK
namespace Go.Proofs.Ythlkflagancdfaa.OT
open Go.Proofs.Ythlkflagancdfaa.CK
structure Tk (mem:Int) (nd:Nat) (fs:List FnP):Prop where
 p:Zck mem nd fs=0
 f:Zdm fs
 o:Ycp fs
 h:∀ fn∈fs,∃ H,Yny fs fn H
theorem Ztj {fs:List FnP} (h:Ycp fs) {err:Int} {f n:Nat} (o:Yag fs err f n):err=0:=by
 rcases o with ⟨e,_⟩|⟨_,fn,x,hfn,hx,he,_⟩
 · exact e
 · rw [h fn (List.mem_of_getElem? hfn) x (List.mem_of_getElem? hx)] at he
   exact he.symm
theorem Ydg {mem:Int} {nd:Nat} {fs:List FnP} (T:Tk mem nd fs):Zkj fs:=Zqj T.p T.o
theorem Zpr {mem:Int} {nd:Nat} {fs:List FnP} (T:Tk mem nd fs) (err:Int) (f n:Nat):¬ Zhf mem nd fs err f n:=by
 rintro ⟨hne,h1|⟨_,h1⟩|⟨_,_,h1⟩|⟨_,_,_,fn,s,hfn,hrun,hbad⟩⟩
 · rw [T.p] at h1;exact hne h1
 · exact h1 T.f
 · exact hne (Ztj T.o h1)
 · have hm:=List.mem_of_getElem? hfn
   obtain ⟨H,F⟩:=T.h fn hm
   exact Yhs F ((Ydg T).len fn hm).1 hrun hbad
theorem Zoc {mem:Int} {nd:Nat} {fs:List FnP} {hs:Nat->List Int} (T:Tk mem nd fs) {f:Nat} {fn:FnP} (hfn:fs[f]? = some fn) {s:HS} (r:HRun fs fn (hs0 fn.2.2.2.length) 0 s fn.2.2.2.length) {H:Nat->Int} (F:Yny fs fn H) :
 ∀ x,x<fn.2.2.2.length->(Reach fn.2.2.2 x->s.h.getD x 0=H x/\0<=H x)/\(¬ Reach fn.2.2.2 x->s.h.getD x 0 = -1) :=
 Zuk F (Ydg T) (List.mem_of_getElem? hfn) r
abbrev Ins:=Int × Int
def Zu (c:List Ins) (i:Nat):Ins:=c.getD i (0,0)
def jmp (op:Int):Bool:=op == 14 || op == 15 || op == 16
def Zap (c:List Ins) (a:Nat):Option Nat:=if (Zu c a).1=0 then some (a+1) else if (Zu c a).1=14 then some (Zu c a).2.toNat else none
def Zhp (c:List Ins):Nat->List Nat->Nat->Nat
 | 0,_,a=>a
 | g+1,seen,a=>if a∈seen then a else match Zap c a with
   | none=>a
   | some b=>Zhp c g (a::seen) b
def Zfm (c:List Ins) (a:Nat):Nat:=Zhp c (c.length+1) [] a
def reJ (g:Int->Int) (c:List Ins):List Ins:=c.map fun x=>if jmp x.1=true then (x.1,g x.2) else x
def Xb (c:List Ins):List Ins:=reJ (fun a=>(Zfm c a.toNat:Nat)) c
def Zep (c:List Ins):Prop:=∀ a,a<c.length->∀ b,Zap c a=some b->b<c.length
def itE (c:List Ins):Nat->Nat->Option Nat
 | 0,a=>some a
 | m+1,a=>(Zap c a).bind (itE c m)
theorem Zxa (c:List Ins):∀ (m:Nat) (a:Nat),itE c (m+1) a=(itE c m a).bind (Zap c)
 | 0,a=>by
   simp only [itE]
   cases h:Zap c a <;> simp [h]
 | m+1,a=>by
   rw [itE]
   cases h:Zap c a with
   | none=>simp [itE,h]
   | some b =>
     rw [Option.bind_some,Zxa c m b,itE,h,Option.bind_some]
theorem Yor (c:List Ins) (k:Nat):∀ (m:Nat) (a:Nat),itE c (m+k) a=(itE c m a).bind (itE c k)
 | 0,a=>by rw [Nat.zero_add];rfl
 | m+1,a=>by
   rw [show m+1+k=(m+k)+1 by omega,itE,itE]
   cases h:Zap c a with
   | none=>rfl
   | some b=>rw [Option.bind_some,Option.bind_some,Yor c k m b]
def Per (c:List Ins) (a:Nat):Prop:=∃ m,itE c (m+1) a=some a
theorem Zql {c:List Ins} {a b:Nat} (h:Per c a) (hs:Zap c a=some b):Per c b:=by
 obtain ⟨m,h⟩:=h
 refine ⟨m,?_⟩
 rw [itE,hs,Option.bind_some] at h
 rw [Zxa,h,Option.bind_some,hs]
theorem Zqm {c:List Ins} {a:Nat} (h:Per c a):∃ b,Zap c a=some b:=by
 obtain ⟨m,h⟩:=h
 cases hs:Zap c a with
 | none=>rw [itE,hs] at h;cases h
 | some b=>exact ⟨b,rfl⟩
theorem Zrf {c:List Ins} {M a:Nat} (h:itE c M a=some a):∀ k,itE c (k*M) a=some a
 | 0=>by rw [Nat.zero_mul];rfl
 | k+1=>by rw [Nat.succ_mul,Yor,Zrf h k,Option.bind_some,h]
theorem Yqw {c:List Ins} {p q b:Nat} (hp:Per c p) (hq:Per c q) (h1:Zap c p=some b) (h2:Zap c q=some b):p=q:=by
 obtain ⟨m,hm⟩:=hp
 obtain ⟨k,hk⟩:=hq
 have a1:=Zrf hm (k+1)
 have a2:=Zrf hk (m+1)
 have e:(m+1)*(k+1)=(k+1)*(m+1):=Nat.mul_comm _ _
 obtain ⟨t,ht⟩:∃ t,(k+1)*(m+1)=t+1:=⟨(k+1)*(m+1) - 1,by have:0<(k+1)*(m+1):=Nat.mul_pos (by omega) (by omega);omega⟩
 rw [ht,itE,h1,Option.bind_some] at a1
 rw [e,ht,itE,h2,Option.bind_some,a1] at a2
 injection a2
theorem Zdq:∀ (n:Nat) (l:List Nat),l.Nodup->(∀ x∈l,x<n)->l.length<=n
 | 0,[],_,_=>Nat.le_refl _
 | 0,x::r,_,h=>absurd (h x (List.mem_cons_self ..)) (Nat.not_lt_zero _)
 | n+1,l,hd,h=>by
   by_cases hm:n∈l
   · have h1:=Zdq n (l.erase n) (hd.erase n) (fun x hx=>by
      have h2:=h x (List.mem_of_mem_erase hx)
      have h3:x≠n:=fun e=>by subst e;exact hd.not_mem_erase hx
      omega)
     have:=List.length_erase_of_mem hm
     have:=List.length_pos_of_mem hm
     omega
   · have:=Zdq n l hd (fun x hx=>by
      have h2:=h x hx
      have h3:x≠n:=fun e=>by subst e;exact hm hx
      omega)
     omega
theorem Zzu {c:List Ins} (hV:Zep c):∀ (g:Nat) (seen:List Nat) (a:Nat),seen.Nodup->(∀ s∈seen,s<c.length)->(∀ s∈seen,∃ m,itE c (m+1) s=some a)->a<c.length->c.length+1<=seen.length+g ->
 (Zhp c g seen a)<c.length/\(Zap c (Zhp c g seen a)=none\/Per c (Zhp c g seen a))
 | 0,seen,a,hd,hl,_,_,hg=>by
   have:=Zdq _ _ hd hl
   omega
 | g+1,seen,a,hd,hl,hs,ha,hg=>by
   unfold Zhp
   by_cases hm:a∈seen
   · rw [if_pos hm]
     exact ⟨ha,Or.inr (hs a hm)⟩
   · rw [if_neg hm]
     cases hst:Zap c a with
     | none=>exact ⟨ha,Or.inl hst⟩
     | some b =>
       simp only []
       refine Zzu hV g (a::seen) b (List.nodup_cons.2 ⟨hm,hd⟩) (fun s h => ?_) (fun s h => ?_) (hV a ha b hst) (by simp;omega)
       · rcases List.mem_cons.1 h with rfl|h
         · exact ha
         · exact hl s h
       · rcases List.mem_cons.1 h with rfl|h
         · exact ⟨0,by rw [itE,hst];rfl⟩
         · obtain ⟨m,hm2⟩:=hs s h
           exact ⟨m+1,by rw [Zxa,hm2,Option.bind_some,hst]⟩
theorem Zxi {c:List Ins} (hV:Zep c) {a:Nat} (ha:a<c.length):Zfm c a<c.length/\(Zap c (Zfm c a)=none\/Per c (Zfm c a)) :=
 Zzu hV _ [] a List.nodup_nil (fun s h=>by cases h) (fun s h=>by cases h) ha (by simp)
theorem Zzt {c:List Ins} {y:Nat} (hV:Zep c):∀ (g:Nat) (seen:List Nat) (a:Nat),seen.Nodup->(∀ s∈seen,s<c.length/\Per c s)->(∀ s∈seen,s≠y->∃ p∈seen.tail,Zap c p=some s)->(∀ h t,seen=h::t->Zap c h=some a)->(seen=[]->a=y)->Per c a->a<c.length->c.length+1<=seen.length+g ->
 Zhp c g seen a=y
 | 0,seen,a,hd,hl,_,_,_,_,_,hg=>by
   have:=Zdq _ _ hd (fun s h=>(hl s h).1)
   omega
 | g+1,seen,a,hd,hl,hc,hh,h0,hp,ha,hg=>by
   unfold Zhp
   by_cases hm:a∈seen
   · rw [if_pos hm]
     refine Classical.byContradiction fun hne => ?_
     cases seen with
     | nil=>cases hm
     | cons h t =>
       obtain ⟨p,hp1,hp2⟩:=hc a hm hne
       have e:=Yqw (hl p (List.mem_cons_of_mem _ hp1)).2 (hl h (List.mem_cons_self ..)).2 hp2 (hh h t rfl)
       exact (List.nodup_cons.1 hd).1 (e ▸ hp1)
   · rw [if_neg hm]
     obtain ⟨b,hst⟩:=Zqm hp
     rw [hst]
     simp only []
     refine Zzt hV g (a::seen) b (List.nodup_cons.2 ⟨hm,hd⟩) (fun s h => ?_) (fun s h hne => ?_) (fun h t e => ?_) (fun e=>by cases e) (Zql hp hst) (hV a ha b hst) (by simp;omega)
     · rcases List.mem_cons.1 h with rfl|h
       · exact ⟨ha,hp⟩
       · exact hl s h
     · rw [List.tail_cons]
       rcases List.mem_cons.1 h with rfl|h
       · cases seen with
         | nil=>exact absurd (h0 rfl) hne
         | cons q t=>exact ⟨q,List.mem_cons_self ..,hh q t rfl⟩
       · obtain ⟨p,hp1,hp2⟩:=hc s h hne
         exact ⟨p,List.mem_of_mem_tail hp1,hp2⟩
     · injection e with e1 e2
       subst e1
       exact hst
theorem Yhx {c:List Ins} (hV:Zep c) {y:Nat} (hp:Per c y) (hy:y<c.length):Zfm c y=y :=
 Zzt hV _ [] y List.nodup_nil (fun s h=>by cases h) (fun s h=>by cases h) (fun h t e=>by cases e) (fun _=>rfl) hp hy (by simp)
theorem Ynd {c:List Ins} {y:Nat} (h:Zap c y=none):Zfm c y=y:=by
 unfold Zfm
 rw [Zhp,if_neg (by simp),h]
theorem Zje (c:List Ins):(Xb c).length=c.length:=by simp [Xb,reJ]
theorem Zsp (c:List Ins) {a:Nat} (ha:a<c.length):Zu (Xb c) a=if jmp (Zu c a).1=true then ((Zu c a).1,((Zfm c (Zu c a).2.toNat:Nat):Int)) else Zu c a:=by
 unfold Zu Xb reJ
 rw [List.getD_eq_getElem?_getD,List.getElem?_map,List.getElem?_eq_getElem ha,List.getD_eq_getElem?_getD,List.getElem?_eq_getElem ha]
 rfl
theorem Ydj (c:List Ins) {a:Nat} (ha:a<c.length):(Zu (Xb c) a).1=(Zu c a).1:=by
 rw [Zsp c ha];split <;> rfl
theorem Zhi (c:List Ins) {a:Nat} (ha:a<c.length):Zap (Xb c) a=if (Zu c a).1=0 then some (a+1) else if (Zu c a).1=14 then some (Zfm c (Zu c a).2.toNat) else none:=by
 unfold Zap
 rw [Ydj c ha]
 by_cases h0:(Zu c a).1=0
 · rw [if_pos h0,if_pos h0]
 · rw [if_neg h0,if_neg h0]
   by_cases h1:(Zu c a).1=14
   · rw [if_pos h1,if_pos h1,Zsp c ha,if_pos (by rw [h1];rfl)];simp
   · rw [if_neg h1,if_neg h1]
theorem Ydk {c:List Ins} (hV:Zep c):Zep (Xb c):=by
 intro a ha b hb
 rw [Zje] at ha ⊢
 rw [Zhi c ha] at hb
 have hv:=hV a ha
 unfold Zap at hv
 by_cases h0:(Zu c a).1=0
 · rw [if_pos h0] at hb hv
   injection hb with hb
   subst hb
   exact hv _ rfl
 · rw [if_neg h0] at hb hv
   by_cases h1:(Zu c a).1=14
   · rw [if_pos h1] at hb hv
     injection hb with hb
     subst hb
     exact (Zxi hV (hv _ rfl)).1
   · rw [if_neg h1] at hb;cases hb
theorem Yaq {c:List Ins} (hV:Zep c) {a:Nat} (ha:a<c.length) (hp:Per c a):Zap (Xb c) a=Zap c a:=by
 rw [Zhi c ha]
 obtain ⟨b,hb⟩:=Zqm hp
 have hq:=Zql hp hb
 have hbl:=hV a ha b hb
 rw [hb]
 unfold Zap at hb
 by_cases h0:(Zu c a).1=0
 · rw [if_pos h0] at hb ⊢;exact hb
 · rw [if_neg h0] at hb ⊢
   by_cases h1:(Zu c a).1=14
   · rw [if_pos h1] at hb ⊢
     injection hb with hb
     rw [hb,Yhx hV hq hbl]
   · rw [if_neg h1] at hb;cases hb
theorem Zso {c:List Ins} (hV:Zep c):∀ (m:Nat) (a:Nat),a<c.length->Per c a->itE (Xb c) m a=itE c m a
 | 0,a,_,_=>rfl
 | m+1,a,ha,hp=>by
   rw [itE,itE,Yaq hV ha hp]
   obtain ⟨b,hb⟩:=Zqm hp
   rw [hb,Option.bind_some,Option.bind_some,Zso hV m b (hV a ha b hb) (Zql hp hb)]
theorem Yas {c:List Ins} (hV:Zep c) {a:Nat} (ha:a<c.length):Zfm (Xb c) (Zfm c a)=Zfm c a:=by
 obtain ⟨hl,h|h⟩:=Zxi hV ha
 · refine Ynd ?_
   rw [Zhi c hl]
   unfold Zap at h
   by_cases h0:(Zu c (Zfm c a)).1=0
   · rw [if_pos h0] at h;cases h
   · rw [if_neg h0] at h ⊢
     by_cases h1:(Zu c (Zfm c a)).1=14
     · rw [if_pos h1] at h;cases h
     · rw [if_neg h1]
 · refine Yhx (Ydk hV) ?_ (by rw [Zje];exact hl)
   obtain ⟨m,hm⟩:=h
   exact ⟨m,by rw [Zso hV _ _ hl ⟨m,hm⟩,hm]⟩
def Zhb:Nat->Nat->List Ins
 | _,0=>[]
 | k,m+1=>(3,(k:Int))::(20,0)::Zhb (k+1) m
def Zsf:Nat->Nat->Int
 | _,0=>0
 | k,m+1=>(k:Int)+Zsf (k+1) m
theorem Jn:∀ (m k:Nat),(Zhb k m).length=2*m
 | 0,_=>rfl
 | m+1,k=>by simp [Zhb,Jn m];omega
theorem Zeh:∀ (m k j:Nat),j<m->(Zhb k m)[2*j]? = some (3,((k+j:Nat):Int))/\(Zhb k m)[2*j+1]? = some (20,0)
 | 0,_,j,h=>absurd h (Nat.not_lt_zero _)
 | m+1,k,0,_=>by simp [Zhb]
 | m+1,k,j+1,h=>by
   have:=Zeh m (k+1) j (by omega)
   rw [show 2*(j+1)=2*j+1+1 by omega,Zhb,List.getElem?_cons_succ,List.getElem?_cons_succ,List.getElem?_cons_succ,List.getElem?_cons_succ,show k+(j+1)=k+1+j by omega]
   exact this
structure Lg (S:Int) (s:Int) (k m:Nat) (C:List Ins) (c:List Ins):Prop where
 e:c=(3,s)::(Zhb k m++C)
 sum:s+Zsf k m=S
 len:c.length<=4096
 ne:1<=C.length
 op:∀ (i:Nat) (x:Ins),C[i]? = some x->x=(0,0)\/(x.1=14/\(1+2*m+i:Nat)<x.2/\x.2<c.length)\/x=(18,0)\/x=(4,0)
 go:∀ (i:Nat) (x:Ins),C[i]? = some x->Reach c (1+2*m+i)->x.1≠4/\(x.1=0->1+2*m+i+1<c.length)
def hL (m x:Nat):Int:=if x<1+2*m then (if x=0 then 0 else if x % 2=1 then 1 else 2) else 1
section
variable {S s:Int} {k m:Nat} {C c:List Ins}
theorem Zpa (L:Lg S s k m C c):c.length=1+2*m+C.length:=by
 rw [L.e];simp [Jn];omega
theorem Xbj (L:Lg S s k m C c):c[0]? = some (3,s):=by rw [L.e];rfl
theorem Ztz (L:Lg S s k m C c) {j:Nat} (h:j<m):c[1+2*j]? = some (3,((k+j:Nat):Int))/\c[2+2*j]? = some (20,0):=by
 have q:=Zeh m k j h
 have hl:=Jn m k
 rw [L.e,show 1+2*j=2*j+1 by omega,show 2+2*j=(2*j+1)+1 by omega,List.getElem?_cons_succ,List.getElem?_cons_succ,List.getElem?_append_left (by omega),List.getElem?_append_left (by omega)]
 exact q
theorem Xbi (L:Lg S s k m C c) (i:Nat):c[1+2*m+i]? = C[i]? := by
 rw [L.e,show 1+2*m+i=(2*m+i)+1 by omega,List.getElem?_cons_succ,List.getElem?_append_right (by rw [Jn];omega),Jn]
 congr 1;omega
theorem Yry (L:Lg S s k m C c) {p:Nat} (hp:p<c.length):(p=0/\c[p]? = some (3,s))\/(∃ j,j<m/\p=1+2*j/\c[p]? = some (3,((k+j:Nat):Int)))\/(∃ j,j<m/\p=2+2*j/\c[p]? = some (20,0))\/(∃ i x,p=1+2*m+i/\C[i]? = some x/\c[p]? = some x):=by
 have hl:=Zpa L
 by_cases h0:p=0
 · subst h0;exact Or.inl ⟨rfl,Xbj L⟩
 · by_cases h1:p<1+2*m
   · right
     obtain ⟨j,hj⟩:∃ j,p=1+2*j\/p=2+2*j:=⟨(p - 1) / 2,by omega⟩
     rcases hj with e|e
     · exact Or.inl ⟨j,by omega,e,by rw [e];exact (Ztz L (by omega)).1⟩
     · exact Or.inr (Or.inl ⟨j,by omega,e,by rw [e];exact (Ztz L (by omega)).2⟩)
   · right;right;right
     obtain ⟨i,rfl⟩:∃ i,p=1+2*m+i:=⟨p - (1+2*m),by omega⟩
     exact ⟨i,C[i]'(by omega),rfl,List.getElem?_eq_getElem _,by rw [Xbi L];exact List.getElem?_eq_getElem _⟩
theorem Zhx (fs:List FnP) (fn:FnP) {p:Nat} {op a h t g:Int} (hc:fn.2.2.2[p]? = some (op,a)) (h18:op≠18) (h5:op≠5) (ht:Yp fs fn.2.2.1 op a=(t,g)) (h0:t<=h) (h1:h - t+g<=256) (hg:∀ n∈Xm op a p,n<(fn.2.2.2.length:Int)):Jw fs fn p h=(0,h - t+g):=by
 unfold Jw
 rw [hc]
 simp only []
 unfold Zff
 rw [if_neg h18,ht,if_neg h5]
 simp only []
 rw [if_neg (by omega),if_neg (by omega),if_neg]
 intro he
 obtain ⟨n,hn,hd⟩:=List.any_eq_true.1 he
 have:=hg n hn
 simp at hd
 omega
theorem Zhy (fs:List FnP) (fn:FnP) {p:Nat} {a h:Int} (hc:fn.2.2.2[p]? = some (3,a)) (h0:0<=h) (h1:h<=255) (hp:p+1<fn.2.2.2.length):Jw fs fn p h=(0,h+1)/\Jp fn.2.2.2 p=[p+1]:=by
 have hg:Xm 3 a p=[(p:Int)+1]:=by simp [Xm]
 have ht:Yp fs fn.2.2.1 3 a=(0,1):=rfl
 constructor
 · have:=Zhx fs fn (h:=h) hc (by decide) (by decide) ht (by omega) (by omega) (by rw [hg];simp;omega)
   rwa [show h - 0+1=h+1 by omega] at this
 · unfold Jp
   rw [hc]
   simp only []
   rw [hg]
   simp only [List.map_cons,List.map_nil]
   congr 1
theorem Ydy (fs:List FnP) (fn:FnP) {p:Nat} {a h:Int} (hc:fn.2.2.2[p]? = some (20,a)) (h0:2<=h) (h1:h<=256) (hp:p+1<fn.2.2.2.length):Jw fs fn p h=(0,h - 1)/\Jp fn.2.2.2 p=[p+1]:=by
 have hg:Xm 20 a p=[(p:Int)+1]:=by simp [Xm]
 have ht:Yp fs fn.2.2.1 20 a=(2,1):=rfl
 constructor
 · have:=Zhx fs fn (h:=h) hc (by decide) (by decide) ht (by omega) (by omega) (by rw [hg];simp;omega)
   rwa [show h - 2+1=h - 1 by omega] at this
 · unfold Jp
   rw [hc]
   simp only []
   rw [hg]
   simp only [List.map_cons,List.map_nil]
   congr 1
theorem Ydv (fs:List FnP) (fn:FnP) {p:Nat} {a h:Int} (hc:fn.2.2.2[p]? = some (0,a)) (h0:0<=h) (h1:h<=256) (hp:p+1<fn.2.2.2.length):Jw fs fn p h=(0,h)/\Jp fn.2.2.2 p=[p+1]:=by
 have hg:Xm 0 a p=[(p:Int)+1]:=by simp [Xm]
 have ht:Yp fs fn.2.2.1 0 a=(0,0):=rfl
 constructor
 · have:=Zhx fs fn (h:=h) hc (by decide) (by decide) ht (by omega) (by omega) (by rw [hg];simp;omega)
   rwa [show h - 0+0=h by omega] at this
 · unfold Jp
   rw [hc]
   simp only []
   rw [hg]
   simp only [List.map_cons,List.map_nil]
   congr 1
theorem Yav (fs:List FnP) (fn:FnP) {p:Nat} {a h:Int} (hc:fn.2.2.2[p]? = some (14,a)) (h0:0<=h) (h1:h<=256) (ha:a<fn.2.2.2.length):Jw fs fn p h=(0,h)/\Jp fn.2.2.2 p=[a.toNat]:=by
 have hg:Xm 14 a p=[a]:=by simp [Xm]
 have ht:Yp fs fn.2.2.1 14 a=(0,0):=rfl
 constructor
 · have:=Zhx fs fn (h:=h) hc (by decide) (by decide) ht (by omega) (by omega) (by rw [hg];simp;omega)
   rwa [show h - 0+0=h by omega] at this
 · unfold Jp
   rw [hc]
   simp only []
   rw [hg]
   rfl
theorem Zsr (fs:List FnP) (fn:FnP) {p:Nat} {a h:Int} (hc:fn.2.2.2[p]? = some (18,a)) (h0:h=fn.2.2.1):Jw fs fn p h=(0,0)/\Jp fn.2.2.2 p=[]:=by
 constructor
 · unfold Jw
   rw [hc]
   simp only []
   unfold Zff
   rw [if_pos rfl,if_pos h0]
 · unfold Jp
   rw [hc]
   rfl
theorem Ygl (L:Lg S s k m C c):Yny [(0,0,1,c)] (0,0,1,c) (hL m):=by
 have hl:=Zpa L
 have hne:=L.ne
 refine ⟨by unfold hL;rw [if_pos (by omega),if_pos rfl],fun p hp hr => ?_⟩
 simp only [] at hp hr ⊢
 rcases Yry L hp with ⟨rfl,hc⟩|⟨j,hj,e,hc⟩|⟨j,hj,e,hc⟩|⟨i,x,e,hx,hc⟩
 · have e0:hL m 0=0:=by unfold hL;rw [if_pos (by omega),if_pos rfl]
   obtain ⟨h1,h2⟩:=Zhy [(0,0,1,c)] (0,0,1,c) (h:=0) hc (by decide) (by decide) (by simp only [];omega)
   refine ⟨_,by rw [e0];exact h1,fun n hn => ?_⟩
   rw [show (0,0,1,c).2.2.2=c from rfl] at h2
   rw [h2] at hn
   simp at hn
   subst hn
   refine ⟨by omega,?_⟩
   unfold hL
   by_cases hm:1<1+2*m
   · rw [if_pos hm,if_neg (by decide),if_pos (by decide)];rfl
   · rw [if_neg hm];rfl
 · have e0:hL m p=1:=by unfold hL;rw [if_pos (by omega),if_neg (by omega),if_pos (by omega)]
   obtain ⟨h1,h2⟩:=Zhy [(0,0,1,c)] (0,0,1,c) (h:=1) hc (by decide) (by decide) (by simp only [];omega)
   refine ⟨_,by rw [e0];exact h1,fun n hn => ?_⟩
   rw [show (0,0,1,c).2.2.2=c from rfl] at h2
   rw [h2] at hn
   simp at hn
   subst hn
   refine ⟨by omega,?_⟩
   unfold hL
   rw [if_pos (by omega),if_neg (by omega),if_neg (by omega)];rfl
 · have e0:hL m p=2:=by unfold hL;rw [if_pos (by omega),if_neg (by omega),if_neg (by omega)]
   obtain ⟨h1,h2⟩:=Ydy [(0,0,1,c)] (0,0,1,c) (h:=2) hc (by decide) (by decide) (by simp only [];omega)
   refine ⟨_,by rw [e0];exact h1,fun n hn => ?_⟩
   rw [show (0,0,1,c).2.2.2=c from rfl] at h2
   rw [h2] at hn
   simp at hn
   subst hn
   refine ⟨by omega,?_⟩
   unfold hL
   by_cases hm:p+1<1+2*m
   · rw [if_pos hm,if_neg (by omega),if_pos (by omega)];rfl
   · rw [if_neg hm];rfl
 · have e1:∀ q,1+2*m<=q->hL m q=1:=fun q hq=>by unfold hL;rw [if_neg (by omega)]
   rw [e] at hr
   obtain ⟨g1,g2⟩:=L.go i x hx hr
   rw [e1 p (by omega)]
   rcases L.op i x hx with rfl|⟨q1,q2,q3⟩|rfl|rfl
   · have:=g2 rfl
     obtain ⟨h1,h2⟩:=Ydv [(0,0,1,c)] (0,0,1,c) (h:=1) hc (by decide) (by decide) (by simp only [];omega)
     refine ⟨_,h1,fun n hn => ?_⟩
     rw [show (0,0,1,c).2.2.2=c from rfl] at h2
     rw [h2] at hn
     simp at hn
     subst hn
     exact ⟨by omega,e1 _ (by omega)⟩
   · obtain ⟨op,a⟩:=x
     simp only [] at q1 q2 q3
     subst q1
     obtain ⟨h1,h2⟩:=Yav [(0,0,1,c)] (0,0,1,c) (h:=1) hc (by decide) (by decide) q3
     refine ⟨_,h1,fun n hn => ?_⟩
     rw [show (0,0,1,c).2.2.2=c from rfl] at h2
     rw [h2] at hn
     simp at hn
     subst hn
     exact ⟨by omega,e1 _ (by omega)⟩
   · obtain ⟨h1,h2⟩:=Zsr [(0,0,1,c)] (0,0,1,c) (h:=1) hc rfl
     refine ⟨_,h1,fun n hn => ?_⟩
     rw [show (0,0,1,c).2.2.2=c from rfl] at h2
     rw [h2] at hn
     cases hn
   · exact absurd rfl g1
end
end Go.Proofs.Ythlkflagancdfaa.OT
namespace Go.Proofs.Ythlkflagancdfaa.CK
open Go.RowKit Go.Great Go.Maps
def Yah (w:World) (bk m:Nat) (f:Nat->Int):Prop:=∃ (n:Nat) (D:DataW Unit),w.ownsMap Try.prog 3 (plainElem Try.prog 3) bk n D/\n<=m/\IsMap D /\
 ∀ x:Nat,x<1000000000->D.atKey (.int .i64 (x:Int)) (.lit (.int .i64 0)) = .lit (.int .i64 (f x))
theorem Ztu (w:World):Yah (w.alloc (.map #[] 0)) w.heap.size 0 fun _=>0 :=
 ⟨0,.map [],World.ownsMap_made _ _ _ _,Nat.zero_le _,⟨[],rfl⟩,fun x _=>Zos rfl _⟩
theorem Zml {w w':World} {bk m:Nat} {f:Nat->Int} {r:Option Nat} (h:Yah w bk m f) (g:w.grownBy w' r) (hr:some bk≠r):Yah w' bk m f:=by
 obtain ⟨n,D,h1,h2⟩:=h
 exact ⟨n,D,h1.kept g hr,h2⟩
theorem Yre {w:World} {bk m:Nat} {f:Nat->Int} (h:Yah w bk m f):bk<w.heap.size:=by
 obtain ⟨n,D,h1,_⟩:=h
 exact h1.lt
theorem Zej {w:World} {bk m:Nat} {f g:Nat->Int} (h:Yah w bk m f) (e:∀ x,f x=g x):Yah w bk m g:=by
 obtain ⟨n,D,h1,h2,h3,h4⟩:=h
 exact ⟨n,D,h1,h2,h3,fun x hx=>by rw [<- e x];exact h4 x hx⟩
theorem Zqu {w:World} {bk m x:Nat} {f:Nat->Int} (h:Yah w bk m f) (hx:x<1000000000) :
 (Instr.lookup 94 (.map (some bk)) (.int .i64 x) false).run Try.prog w = .ok (.int .i64 (f x)) w:=by
 obtain ⟨n,D,h1,h2,h3,h4⟩:=h
 obtain ⟨c,hrun,hc,_⟩:=h1.lookup_int Ymv Try.underlying94 Try.underlying3 (Ysg w) (Zmt (f:=x) hx)
 rw [h4 x hx] at hc
 rw [hrun,<- Zrc hc]
theorem Zyz {w:World} {bk m x:Nat} {v:Int} {f:Nat->Int} (h:Yah w bk m f) (hm:m<1000000000) (hx:x<1000000000) (hv : -1000000000000000000<=v/\v<=1000000000000000000) :
 ∃ w',(Instr.mapUpdate 94 (.map (some bk)) (.int .i64 x) (.int .i64 v)).run Try.prog w = .ok () w'/\Yah w' bk (m+1) (fun y=>if y=x then v else f y)/\w.grownBy w' (some bk):=by
 obtain ⟨n,D,h1,h2,h3,h4⟩:=h
 obtain ⟨w',hrun,h5,h6⟩:=h1.update Ymv Try.underlying94 (by unfold maxLen;omega) (Zmt (f:=x) hx) (plainElem_int Try.underlying3 (Ygf hv))
 refine ⟨w',hrun,⟨n+1,_,h5,by omega,h3.put _ _,fun y hy => ?_⟩,h6⟩
 show _=DataW.lit (.int .i64 (if y=x then v else f y))
 by_cases e:y=x
 · subst e
   rw [if_pos rfl]
   exact atKey_put_same h3 (by trivial) _ _
 · rw [if_neg e,atKey_put_other (fun h=>by injection h with _ h;omega)]
   exact h4 y hy
end Go.Proofs.Ythlkflagancdfaa.CK
