/-
  Part of a proof: contracts of functions and lemmas, each stated by its own theorem. Conditions: as each theorem states.
-/
import Derived.Test.YthlkflagancdfaaMK32
import Derived.Test.YthlkflagancdfaaMK30
import Derived.Test.YthlkflagancdfaaMK29
import Derived.Outline
import Derived.IntWalk
set_option linter.unusedSimpArgs false
set_option linter.unusedVariables false
set_option maxRecDepth 100000
set_option maxHeartbeats 16000000
namespace Go.Proofs.Ythlkflagancdfaa.OT
open Go.RowKit Go.Great
open Go.Proofs.Ythlkflagancdfaa.CK
def hdC:List Ins:=[(3,2),(3,3),(22,0),(18,0)]
def Xfl:List Ins:=[(3,6),(18,0)]
def hdF:List FnP:=[(0,0,1,hdC)]
def hdF1:List FnP:=[(0,0,1,Xfl)]
def hdH (x:Nat):Int:=if x=0 then 0 else if x=1 then 1 else if x=2 then 2 else 1
theorem Yfw (fs:List FnP) (fn:FnP) {p:Nat} {a h:Int} (hc:fn.2.2.2[p]? = some (22,a)) (h0:2<=h) (h1:h<=256) (hp:p+1<fn.2.2.2.length):Xe fs fn p h=(0,h - 1)/\Jc fn.2.2.2 p=[p+1]:=by
 have hg:Yy 22 a p=[(p:Int)+1]:=by simp [Yy]
 have ht:Zt fs fn.2.2.1 22 a=(2,1):=rfl
 constructor
 · have:=Zif fs fn (h:=h) hc (by decide) (by decide) ht (by omega) (by omega) (by rw [hg];simp;omega)
   rwa [show h - 2+1=h - 1 by omega] at this
 · unfold Jc
   rw [hc]
   simp only []
   rw [hg]
   simp only [List.map_cons,List.map_nil]
   congr 1
theorem Yji:Ylu hdF (0,0,1,hdC) hdH:=by
 refine ⟨rfl,fun p hp _ => ?_⟩
 have hp4:p<4:=hp
 rcases (by omega:p=0\/p=1\/p=2\/p=3) with rfl|rfl|rfl|rfl
 · obtain ⟨h1,h2⟩:=Zig hdF (0,0,1,hdC) (p:=0) (a:=2) (h:=0) rfl (by decide) (by decide) (by decide)
   exact ⟨_,h1,fun n hn=>by rw [h2] at hn;simp at hn;subst hn;exact ⟨by decide,rfl⟩⟩
 · obtain ⟨h1,h2⟩:=Zig hdF (0,0,1,hdC) (p:=1) (a:=3) (h:=1) rfl (by decide) (by decide) (by decide)
   exact ⟨_,h1,fun n hn=>by rw [h2] at hn;simp at hn;subst hn;exact ⟨by decide,rfl⟩⟩
 · obtain ⟨h1,h2⟩:=Yfw hdF (0,0,1,hdC) (p:=2) (a:=0) (h:=2) rfl (by decide) (by decide) (by decide)
   exact ⟨_,h1,fun n hn=>by rw [h2] at hn;simp at hn;subst hn;exact ⟨by decide,rfl⟩⟩
 · obtain ⟨h1,h2⟩:=Ztm hdF (0,0,1,hdC) (p:=3) (a:=0) (h:=1) rfl rfl
   exact ⟨_,h1,fun n hn=>by rw [h2] at hn;cases hn⟩
theorem Ypo:∀ p,p<4->Reach hdC p:=by
 have r0:Reach hdC 0:=Reach.z
 have r1:Reach hdC 1:=Reach.next r0 (by decide) (by decide)
 have r2:Reach hdC 2:=Reach.next r1 (by decide) (by decide)
 have r3:Reach hdC 3:=Reach.next r2 (by decide) (by decide)
 intro p hp
 rcases (by omega:p=0\/p=1\/p=2\/p=3) with rfl|rfl|rfl|rfl <;> assumption
theorem Yvs:Tk 0 0 hdF:=⟨by decide,⟨_,rfl,rfl,rfl⟩,fun fn hf=>by
 obtain rfl:fn=(0,0,1,hdC):=by simpa [hdF] using hf
 intro x hx
 simp [hdC] at hx
 rcases hx with rfl|rfl|rfl|rfl <;> rfl,fun fn hf=>by
 obtain rfl:fn=(0,0,1,hdC):=by simpa [hdF] using hf
 exact ⟨_,Yji⟩⟩
theorem Ykj {hs:Nat->List Int} {V:List Bool} (hv:V.getD 0 false=true) (h:∀ x∈hs 0,0<=x):Zbk hs V 1 0=none:=by
 unfold Zbk
 rw [if_neg (by rw [hv];decide)]
 have:(hs 0).findIdx? (fun h=>decide (h<0))=none:=by
  rw [List.findIdx?_eq_none_iff]
  intro x hx
  have:=h x hx
  simpa using this
 rw [this]
 rfl
theorem Zse {hs:Nat->List Int} {V:List Bool} (ho:OkP 0 0 hdF hs V):Jk hdF hs V=some ((0,0),4,hdF1):=by
 have hv:V.getD 0 false=true:=(ho.2.2.2.2.2 0 (by decide)).2 CRe.refl
 obtain ⟨st,hr,hi,e⟩:=ho.2.2.2.1 0 _ rfl
 have hh:=Zcv (hs:=hs) Yvs (f:=0) rfl hr Yji
 rw [e] at hh
 have hl:=Zxp ho 0 _ rfl
 have hd:Zbk hs V hdF.length 0=none:=Ykj hv fun x hx=>by
  obtain ⟨p,hp⟩:=List.getElem?_of_mem hx
  have hpl:=(List.getElem?_eq_some_iff.1 hp).1
  rw [hl] at hpl
  have:=(hh p hpl).1 (Ypo p hpl)
  rw [List.getD_eq_getElem?_getD,hp] at this
  simp at this
  omega
 unfold Jk
 rw [hd]
 have hu:Zed hdF 0=none:=by decide
 rw [hu]
 have hrow:Zqs hdF 0=some (0,0,⟨3,[(3,6)],4⟩):=by rfl
 rw [hrow]
 rfl
theorem Yvt:Lg 6 6 0 0 [(18,0)] Xfl:=by
 refine ⟨rfl,rfl,by decide,by decide,fun i x hx => ?_,fun i x hx _ => ?_⟩
 · match i,hx with
   | 0,hx=>simp at hx;exact Or.inr (Or.inr (Or.inl hx.symm))
 · match i,hx with
   | 0,hx=>simp at hx;subst hx;exact ⟨by decide,fun h=>absurd h (by decide)⟩
theorem Yjj {hs:Nat->List Int} {V:List Bool} (ho:OkP 0 0 hdF1 hs V):Jk hdF1 hs V=none:=by
 have hv:V.getD 0 false=true:=(ho.2.2.2.2.2 0 (by decide)).2 CRe.refl
 have hl:=Zxp ho 0 _ rfl
 have hd:Zbk hs V hdF1.length 0=none:=Ykj hv fun x hx=>by
  obtain ⟨p,hp⟩:=List.getElem?_of_mem hx
  have hpl:=(List.getElem?_eq_some_iff.1 hp).1
  rw [hl] at hpl
  have hpl2:p<2:=hpl
  have:=(Yoj Yvt ho p hpl).2 (Yaj Yvt p (by omega))
  unfold hB at this
  rw [List.getD_eq_getElem?_getD,hp] at this
  simpa using this
 unfold Jk
 rw [hd]
 have hu:Zed hdF1 0=none:=by decide
 rw [hu]
 have hrow:Zqs hdF1 0=none:=by rfl
 rw [hrow]
theorem Yjh {fs:List FnP} (h:Stps 0 0 hdF fs):fs=hdF\/fs=hdF1:=by
 induction h with
 | refl=>exact Or.inl rfl
 | step h st ih =>
   obtain ⟨hs,V,p,what,ho,hq⟩:=st
   rcases ih with rfl|rfl
   · rw [Zse ho] at hq
     simp only [Option.some.injEq,Prod.mk.injEq] at hq
     exact Or.inr hq.2.2.symm
   · rw [Yjj ho] at hq;cases hq
theorem Xat {w:World} {e:Ending} {w':World} (h:Zob w 0 [] hdF e w'):Zcu w 0 [] hdF1 e w':=by
 obtain ⟨fs',hst,h⟩:=h
 rcases h with ⟨_,err,f,n,_,hb⟩|⟨hs,V,ho,hq,hg⟩
 · rcases Yjh hst with rfl|rfl
   · exact absurd hb (Zjt Yvs err f n)
   · exact absurd hb (Zjt (Xao Yvt) err f n)
 · rcases Yjh hst with rfl|rfl
   · rw [Zse ho] at hq;cases hq
   · exact hg
theorem Xav (err:Int) (f n:Nat):¬ Zfx 0 0 hdF err f n:=Zjt Yvs err f n
theorem Yps {w w':World} {e:Ending} {S:Int} (h:Zcu w 0 [] [(0,0,1,[(3,S),(18,0)])] e w'):∃ (pD:Option Addr) (cD gF cF gC cC:Nat),e = .returned (.tuple #[.agg #[.int .i64 0,.slice pD 0 cD,.slice (some ⟨gF,0,none⟩) 1 cF],.int .i64 0])/\w.grownBy w' none /\
 w'.cell? ⟨gF,3,none⟩=some (.slice (some ⟨gC,0,none⟩) 2 cC)/\w'.cell? ⟨gC,0,none⟩=some (.int .i64 3)/\w'.cell? ⟨gC,1,none⟩=some (.int .i64 S)/\w.heap.size<=gF/\∃ cv,Zas w' w.heap.size (.slice pD 0 cD) (.slice (some ⟨gF,0,none⟩) 1 cF) [] [(0,0,1,[(3,S),(18,0)])] cv:=by
 obtain ⟨D,F,cv,rfl,g,o⟩:=h
 obtain ⟨pD,pF,cD,cF,rfl,rfl⟩:=Xa o
 obtain ⟨gF,c',e⟩:=Zan (n:=0) o.fr
 injection e with e1 _ _
 subst e1
 have hcl:=o.cl
 obtain ⟨v,rfl⟩:∃ v,cv=[v]:=by
  match cv,hcl with
  | [v],_=>exact ⟨v,rfl⟩
 have ho:=o.each 0 _ v rfl rfl
 obtain ⟨gC,cC,rfl⟩:=Zan (n:=1) ho
 refine ⟨pD,cD,gF,cF,gC,cC,rfl,g,?_,?_,?_,(o.fr.lt gF rfl).1,_,o⟩
 · exact (o.fr.cellAt 3 (by simp)).trans rfl
 · exact (ho.cellAt 0 (by simp)).trans rfl
 · exact (ho.cellAt 1 (by simp)).trans rfl
theorem Ygz {w:World} {bc bf n:Nat} {c:List Ins} (hc:∀ i op a,c[i]? = some (op,a)->w.cell? ⟨bc,i*2,none⟩=some (.int .i64 op)/\w.cell? ⟨bc,i*2+1,none⟩=some (.int .i64 a)) (hb:bc<w.heap.size)
 (hf:w.heap[bf]? = some (.cells #[.int .i64 0,.int .i64 0,.int .i64 1,.slice (some ⟨bc,0,none⟩) c.length n] 52 (0,0))):Yl w w.heap.size (some ⟨bf,0,none⟩) [(0,0,1,c)]:=fun _=>by
 refine ⟨bf,0,rfl,(Gs hf),fun i a l r c' hi => ?_⟩
 match i,hi with
 | 0,hi =>
   injection hi with hi
   injection hi with h1 hi;injection hi with h2 hi;injection hi with h3 h4
   subst h1;subst h2;subst h3;subst h4
   exact ⟨Cq _ _ 0 _ _ _ hf,Cq _ _ 1 _ _ _ hf,Cq _ _ 2 _ _ _ hf,_,_,Cq _ _ 3 _ _ _ hf,fun _=>⟨bc,0,rfl,hb,fun i op a hi=>by
    rw [Nat.zero_add];exact hc i op a hi⟩⟩
theorem Xau (w:World):Rd w none (([]:List Int).map (Value.int .u8)):=fun h=>absurd rfl h
theorem Yar:∀ f∈hdF,Jl f.2.2.2:=fun f hf=>by
 obtain rfl:f=(0,0,1,hdC):=by simpa [hdF] using hf
 intro x hx
 simp [hdC] at hx
 rcases hx with rfl|rfl|rfl|rfl <;> exact ⟨by decide,by decide⟩
theorem Yvi (pF:Option Addr) (cF B:Nat) (w:World) (hBw:B<=w.heap.size) (hF:Yl w B pF hdF) :
 Calls Try.prog 11 #[.agg #[.int .i64 0,.slice none 0 0,.slice pF 1 cF]] w fun e w'=>e = .returned (.tuple #[.agg #[.int .i64 0,.int .i64 0],.int .i64 4,.bool true])/\w.grownBy w' none:=by
 refine (Zrz 0 [] hdF none pF 0 cF B w hBw hF (Xau w) (by simp) (by decide) Yar).mono ?_
 rintro e w' ⟨g,h⟩
 rcases h with ⟨err,f,n,_,hb⟩|⟨hs,V,ho,hm⟩
 · exact absurd hb (Xav err f n)
 · rw [Zse ho] at hm
   exact ⟨hm,g⟩
theorem Yyg (pF:Option Addr) (cF B:Nat) (w:World) (hBw:B<=w.heap.size) (hF:Yl w B pF hdF) :
 Calls Try.prog 6 #[.agg #[.int .i64 0,.slice none 0 0,.slice pF 1 cF]] w (Zcu w 0 [] [(0,0,1,[(3,6),(18,0)])]) :=
 (Zqr 0 [] hdF none pF 0 cF B w hBw hF (Xau w) (by simp) (by decide) Yar (fun f hf=>by
   obtain rfl:f=(0,0,1,hdC):=by simpa [hdF] using hf
   decide)).mono fun e w' h=>Xat h
theorem Zsd (w:World):Calls Try.prog 8 #[] w fun e w'=>e = .returned (.bool true)/\w.grownBy w' none:=by
 have GZ:=Xl w (.cells #[.int .i64 3,.int .i64 2,.int .i64 3,.int .i64 3,.int .i64 22,.int .i64 0,.int .i64 18,.int .i64 0] 49) (.cells #[.int .i64 0,.int .i64 0,.int .i64 1,.slice (some ⟨w.heap.size,0,none⟩) 4 4] 52) (.cells #[.int .i64 0,.slice none 0 0,.slice (some ⟨w.heap.size+1,0,none⟩) 1 1] 25)
 have G3:=Hq (Xm w (.cells #[.int .i64 3,.int .i64 2,.int .i64 3,.int .i64 3,.int .i64 22,.int .i64 0,.int .i64 18,.int .i64 0] 49) (.cells #[.int .i64 0,.int .i64 0,.int .i64 1,.slice (some ⟨w.heap.size,0,none⟩) 4 4] 52) (.cells #[.int .i64 0,.slice none 0 0,.slice (some ⟨w.heap.size+1,0,none⟩) 1 1] 25))
 have Z0:=Hq GZ.1
 have Z1:=Hq GZ.2.1
 have Z2:=Hq GZ.2.2
 clear GZ
 go_enter Try.func8,Try.ntmps8
 go_wp2_with fail
 generalize ((w.alloc (.cells #[.int .i64 3,.int .i64 2,.int .i64 3,.int .i64 3,.int .i64 22,.int .i64 0,.int .i64 18,.int .i64 0] 49)).alloc (.cells #[.int .i64 0,.int .i64 0,.int .i64 1,.slice (some ⟨w.heap.size,0,none⟩) 4 4] 52)).alloc (.cells #[.int .i64 0,.slice none 0 0,.slice (some ⟨w.heap.size+1,0,none⟩) 1 1] 25)=w3 at *
 have FB:Yl w3 w3.heap.size (some ⟨w.heap.size+1,0,none⟩) hdF:=Ygz (c:=hdC) (fun i op a hi=>by
  match i,hi with
  | 0,hi=>injection hi with hi;injection hi with h1 h2;subst h1;subst h2;exact ⟨Cq _ _ 0 _ _ _ Z0.out,Cq _ _ 1 _ _ _ Z0.out⟩
  | 1,hi=>injection hi with hi;injection hi with h1 h2;subst h1;subst h2;exact ⟨Cq _ _ 2 _ _ _ Z0.out,Cq _ _ 3 _ _ _ Z0.out⟩
  | 2,hi=>injection hi with hi;injection hi with h1 h2;subst h1;subst h2;exact ⟨Cq _ _ 4 _ _ _ Z0.out,Cq _ _ 5 _ _ _ Z0.out⟩
  | 3,hi=>injection hi with hi;injection hi with h1 h2;subst h1;subst h2;exact ⟨Cq _ _ 6 _ _ _ Z0.out,Cq _ _ 7 _ _ _ Z0.out⟩) (Gs Z0.out) Z1.out
 have FH:=Hq FB
 clear FB
 refine (Yvi _ _ _ w3 (Nat.le_refl _) FH.out).mono ?_
 rintro e w4 ⟨rfl,g4⟩
 have ga:=Za g4 (Ga w4 (.cells #[.int .i64 0,.int .i64 0] 37) none)
 have Y2:=Zb Z2.out ga (by simp)
 have v0:=Cq _ _ 0 _ _ _ Y2
 have v1:=Cq _ _ 1 _ _ _ Y2
 have v2:=Cq _ _ 2 _ _ _ Y2
 have vl:=(Gs Y2)
 have GA:=Hq ga
 have SP:=Hq (heap_alloc_new w4 (.cells #[.int .i64 0,.int .i64 0] 37))
 clear Y2 ga g4
 go_upto_region 3 with fail
 generalize w4.alloc (.cells #[.int .i64 0,.int .i64 0] 37)=w5 at *
 generalize w4.heap.size=b4 at *
 go_wp2_with fail
 refine (Yyg _ _ _ w5 GA.out.size (Zq FH.out GA.out (by simp))).mono ?_
 intro e w6 hp
 obtain ⟨pD,cD,gF,cF,gC,cC,rfl,g6,k3,k0,k1,hgF,-⟩:=Yps hp
 have gb:=Za g6 (Ga w6 (.cells #[.int .i64 0,.slice pD 0 cD,.slice (some ⟨gF,0,none⟩) 1 cF] 25) none)
 have QB:=heap_alloc_new w6 (.cells #[.int .i64 0,.slice pD 0 cD,.slice (some ⟨gF,0,none⟩) 1 cF] 25)
 have SB:=Zb SP.out gb (by simp)
 have m3:=(Ga w6 (.cells #[.int .i64 0,.slice pD 0 cD,.slice (some ⟨gF,0,none⟩) 1 cF] 25) none).cell k3 (by simp)
 have m0:=(Ga w6 (.cells #[.int .i64 0,.slice pD 0 cD,.slice (some ⟨gF,0,none⟩) 1 cF] 25) none).cell k0 (by simp)
 have m1:=(Ga w6 (.cells #[.int .i64 0,.slice pD 0 cD,.slice (some ⟨gF,0,none⟩) 1 cF] 25) none).cell k1 (by simp)
 have q2:=Cq _ _ 2 _ _ _ QB
 have ql:=(Gs QB)
 have s0:=Cq _ _ 0 _ _ _ SB
 have s1:=Cq _ _ 1 _ _ _ SB
 have sl:=(Gs SB)
 have lm:=World.block_lt_of_cell? _ _ m3
 have lc:=World.block_lt_of_cell? _ _ m0
 have GG:=Hq (Za G3.out (Za GA.out gb))
 clear QB SB k3 k0 k1 gb g6 v0 v1 v2 vl hp
 go_upto_region 4 with fail
 generalize w6.alloc (.cells #[.int .i64 0,.slice pD 0 cD,.slice (some ⟨gF,0,none⟩) 1 cF] 25)=w7 at *
 generalize w6.heap.size=b6 at *
 go_wp2
 go_ret
 exact ⟨rfl,GG.out⟩
theorem Ypi (mem:Int) (dl:List Int) (fs:List FnP) (pd pF:Option Addr) (cd cF B:Nat) (w:World) (hB:B<=w.heap.size) (hF:Yl w B pF fs) (hD:Rd w pd (dl.map (Value.int .u8))) (hn:dl.length<=9223372036854775807) (hr:∀ f∈fs,Jl f.2.2.2) :
 Calls Try.prog 5 #[.agg #[.int .i64 mem,.slice pd dl.length cd,.slice pF fs.length cF]] w fun e w'=>e = .returned (.bool true)/\w.grownBy w' none:=by
 have FF:=Hq hF
 have DD:=Hq hD
 have RR:=Hq hr
 have G0:=Hq (Ga w (.cells #[.int .i64 mem,.slice pd dl.length cd,.slice pF fs.length cF] 25) none)
 have X1:=Hq (heap_alloc_new w (.cells #[.int .i64 mem,.slice pd dl.length cd,.slice pF fs.length cF] 25))
 clear hF hD hr
 go_enter Try.func5,Try.ntmps5
 go_wp2_with fail
 generalize w.alloc (.cells #[.int .i64 mem,.slice pd dl.length cd,.slice pF fs.length cF] 25)=w1 at *
 refine (Yfm mem dl.length fs pd pF cd cF B w1 (Nat.le_trans hB G0.out.size) (Zq FF.out G0.out (by simp)) hn).mono ?_
 rintro e w2 ⟨g2,⟨rfl,_⟩|⟨rfl,hs,V,ho⟩⟩
 · have G2:=Hq (Za G0.out g2)
   clear g2
   go_wp2_with fail
   refine (Zsd w2).mono ?_
   rintro e w3 ⟨rfl,g3⟩
   go_wp2
   go_ret
   exact ⟨rfl,Za G2.out g3⟩
 · have HO:=Hq ho
   obtain ⟨z1,z2,z3,z4⟩:=Zwx (Zen ho)
   have Z3:=Hq z3
   have G2:=Hq (Za G0.out g2)
   have X2:=Hq (Zb X1.out g2 (by simp))
   have x0:=Cq _ _ 0 _ _ _ X2.out
   have x1:=Cq _ _ 1 _ _ _ X2.out
   have x2:=Cq _ _ 2 _ _ _ X2.out
   have xl:=(Gs X2.out)
   clear g2 ho z3
   go_wp2_with fail
   refine (Yws mem (.slice pd dl.length cd) fs pF cF B w2 (Nat.le_trans hB G2.out.size) (Zq FF.out G2.out (by simp)) z2 (fun f hf=>(Z3.out f hf).2) ⟨_,_,_,rfl⟩).mono ?_
   rintro e w3 ⟨rfl,g3⟩
   have G3:=Hq (Za G2.out g3)
   have X3:=Hq (Zb X2.out g3 (by simp))
   clear g3 x0 x1 x2 xl X2 X1
   by_cases hall:(4000:Int)<(Ylk fs:Nat)
   · go_wp2_with fail
     refine (Zsd w3).mono ?_
     rintro e w4 ⟨rfl,g4⟩
     go_wp2
     go_ret
     exact ⟨rfl,Za G3.out g4⟩
   · have RO:=Hq (fun W (g:w.grownBy W none)=>Zqr mem dl fs pd pF cd cF B W (Nat.le_trans hB g.size) (Zq FF.out g (by simp)) (Ys DD.out g) (by omega) z2 RR.out (fun f hf=>by have:=(Z3.out f hf).2;omega))
     have ON:=Hq (fun W (g:w.grownBy W none)=>Ynx mem dl fs pd pF cd cF B W (Nat.le_trans hB g.size) (Zq FF.out g (by simp)) (Ys DD.out g) (by omega) z2 RR.out)
     have TW:=Hq (fun W (g:w.grownBy W none)=>Zmj mem dl fs pd pF cd cF B W (Nat.le_trans hB g.size) (Zq FF.out g (by simp)) (Ys DD.out g) (by omega) (by omega) (fun f hf=>by have:=(Z3.out f hf).2;omega))
     have IP:=Hq (show InP fs from ⟨z2,RR.out⟩)
     have L3:=Hq (show Yqr w3 w.heap.size mem dl fs pd cd pF cF from ⟨X3.out,Yav (Zq FF.out G3.out (by simp)) (Nat.le_trans hB G3.out.size),Ys DD.out G3.out⟩)
     clear FF DD RR X3
     obtain ⟨x0,x1,x2,xl,-,-,-⟩:=Ym L3.out
     go_wp2_with fail
     refine (RO.out w3 G3.out).mono ?_
     intro e w4 hp
     obtain ⟨fsE,st,en,tkE,gd⟩:=Ygw HO.out hp
     have SE:=Hq st
     have EN:=Hq en
     obtain ⟨e1,e2,e3,-⟩:=Zwx tkE
     have E3:=Hq e3
     obtain ⟨pQ,cQ,gQ,cR,cvQ,rfl,g4,o4⟩:=Zhu gd
     have L5:=Hq (Zdr mem o4)
     have A5:=Hq (Za g4 (Ga w4 (.cells #[.int .i64 mem,.slice pQ dl.length cQ,.slice gQ fsE.length cR] 25) none))
     have B4:=Hq (show w3.heap.size<=w4.heap.size from g4.size)
     clear g4 o4 x0 x1 x2 xl hp gd st en tkE e3
     go_upto_region 6 with fail
     generalize w4.alloc (.cells #[.int .i64 mem,.slice pQ dl.length cQ,.slice gQ fsE.length cR] 25)=w5 at *
     generalize w4.heap.size=b4 at *
     obtain ⟨x0,x1,x2,xl,-,-,-⟩:=Ym L5.out
     go_wp2_with fail
     refine (Zmj mem dl fsE pQ gQ cQ cR w5.heap.size w5 (Nat.le_refl _) L5.out.F L5.out.D (by omega) (by omega) (fun f hf=>by have:=(E3.out f hf).2;omega)).mono ?_
     intro e w6 hp
     obtain ⟨pW,cW,gW,cX,cvW,rfl,g6,o6⟩:=Zqh hp
     have l6:=Yg L5.out g6
     obtain ⟨k1,k2⟩:=Yai (mem:=mem) o6 (Za A5.out g6) B4.out xl l6.box
     have LW:=Hq k1
     have A7:=Hq k2
     clear x0 x1 x2 xl
     obtain ⟨x0,x1,x2,xl,z0,z1,z2⟩:=Ym l6
     clear hp g6 o6 k1 k2 l6 L5 A5 B4
     go_upto_region 7 with fail
     clear x0 x1 x2 xl z0 z1 z2
     generalize ((w6.setCell ⟨b4,0,none⟩ (.int .i64 mem)).setCell ⟨b4,1,none⟩ (.slice pW dl.length cW)).setCell ⟨b4,2,none⟩ (.slice gW fsE.length cX)=w7 at *
     have L7:=Hq (Yg L3.out A7.out)
     have G7:=Hq (Za G3.out A7.out)
     clear L3 A7 G3
     obtain ⟨x0,x1,x2,xl,-,-,-⟩:=Ym L7.out
     go_wp2_with fail
     refine (ON.out w7 G7.out).mono ?_
     intro e w8 hp
     obtain ⟨pO,cO,gO,cP,cvO,rfl,g8,o8⟩:=Zhu (Zup HO.out hp)
     obtain ⟨t1,t2,t3,-⟩:=Zwx (Yuk HO.out)
     have T3:=Hq t3
     have OQ:=Hq (fun (W W':World) (e:Ending) (h:Zsx W mem dl fs e W')=>Zup HO.out h)
     generalize Yny fs hs V=fsO at *
     have L9:=Hq (Zdr mem o8)
     have A9:=Hq (Za g8 (Ga w8 (.cells #[.int .i64 mem,.slice pO dl.length cO,.slice gO fsO.length cP] 25) none))
     have B8:=Hq (show w7.heap.size<=w8.heap.size from g8.size)
     clear g8 o8 hp x0 x1 x2 xl t3
     go_upto_region 8 with fail
     generalize w8.alloc (.cells #[.int .i64 mem,.slice pO dl.length cO,.slice gO fsO.length cP] 25)=w9 at *
     generalize w8.heap.size=b8 at *
     obtain ⟨x0,x1,x2,xl,-,-,-⟩:=Ym L9.out
     go_wp2_with fail
     refine (Zmj mem dl fsO pO gO cO cP w9.heap.size w9 (Nat.le_refl _) L9.out.F L9.out.D (by omega) (by omega) (fun f hf=>by have:=(T3.out f hf).2;omega)).mono ?_
     intro e w10 hp
     obtain ⟨pU,cU,gU,cY,cvU,rfl,g10,o10⟩:=Zqh hp
     have l10:=Yg L9.out g10
     obtain ⟨k1,k2⟩:=Yai (mem:=mem) o10 (Za A9.out g10) B8.out xl l10.box
     have LO:=Hq k1
     have A11:=Hq k2
     clear x0 x1 x2 xl
     obtain ⟨x0,x1,x2,xl,z0,z1,z2⟩:=Ym l10
     clear hp g10 o10 k1 k2 l10 L9 A9 B8
     go_upto_region 9 with fail
     clear x0 x1 x2 xl z0 z1 z2
     generalize ((w10.setCell ⟨b8,0,none⟩ (.int .i64 mem)).setCell ⟨b8,1,none⟩ (.slice pU dl.length cU)).setCell ⟨b8,2,none⟩ (.slice gU fsO.length cY)=w11 at *
     have L11:=Hq (Yg L7.out A11.out)
     have LW11:=Hq (Yg LW.out A11.out)
     have G11:=Hq (Za G7.out A11.out)
     clear L7 A11 G7 LW
     obtain ⟨x0,x1,x2,xl,-,-,-⟩:=Ym L11.out
     go_wp2_with fail
     refine (TW.out w11 G11.out).mono ?_
     intro e w12 hp
     obtain ⟨pS,cS,gS,cZ,cvS,rfl,g12,o12⟩:=Zqh hp
     have LS:=Hq (Zdr mem o12)
     have A13:=Hq (Za g12 (Ga w12 (.cells #[.int .i64 mem,.slice pS dl.length cS,.slice gS fs.length cZ] 25) none))
     clear x0 x1 x2 xl hp g12 o12
     go_upto_region 10 with fail
     generalize w12.alloc (.cells #[.int .i64 mem,.slice pS dl.length cS,.slice gS fs.length cZ] 25)=wL at *
     generalize w12.heap.size=b12 at *
     have LX:=Hq (Yg L11.out A13.out)
     have LW:=Hq (Yg LW11.out A13.out)
     have LU:=Hq (Yg LO.out A13.out)
     have GL:=Hq (Za G11.out A13.out)
     clear L11 LW11 LO A13 G11
     obtain ⟨pi,pi0,pi1,pi2,pi3⟩:=info_parts Ygq
     go_wp2
     go_loopw [8,9] (fun v i wr=>∃ (k:Nat) (rs:List Rec),i = .int .i64 k/\k<=3/\Yqp wL wr mem dl v k rs) (fun _ i _=>3 - (intOf i).toNat)
     case atStart=>exact ⟨0,[],rfl,by omega,Ybu wL mem dl⟩
     case round =>
      obtain ⟨k,rs,rfl,hk,hT⟩:=hrel
      obtain ⟨pv,cv,rfl⟩:=Zp hT.own
      have TT:=Hq hT
      have GR:=Hq (Za GL.out hT.gr)
      by_cases hlt:(k:Int)<3
      · obtain ⟨x0,x1,x2,xl,-,-,-⟩:=Ym (Yg LX.out hT.gr)
        clear hT
        go_wp2_with fail
        refine (RO.out wr GR.out).mono ?_
        intro e v1 hp
        obtain ⟨pA,cA,gA,cB,cv1,rfl,h1,o1⟩:=Zhu (Zlm HO.out IP.out SE.out EN.out hp)
        have O1:=Hq o1
        have H1:=Hq h1
        have M1:=Hq (Zdr mem o1)
        have A1:=Hq (Ga v1 (.cells #[.int .i64 mem,.slice pA dl.length cA,.slice gA fsE.length cB] 25) none)
        clear x0 x1 x2 xl hp h1 o1
        go_upto_region 15 with fail
        generalize v1.alloc (.cells #[.int .i64 mem,.slice pA dl.length cA,.slice gA fsE.length cB] 25)=v2 at *
        generalize v1.heap.size=bA at *
        have LX2:=Hq (Yg LX.out (Za TT.out.gr (Za H1.out A1.out)))
        obtain ⟨x0,x1,x2,xl,-,-,-⟩:=Ym LX2.out
        go_wp2_with fail
        refine (ON.out v2 (Za GR.out (Za H1.out A1.out))).mono ?_
        intro e v3 hp
        obtain ⟨pB,cC,gB,cD,cv2,rfl,h3,o3⟩:=Zhu (OQ.out _ _ _ hp)
        have O3:=Hq o3
        have H3:=Hq h3
        have M3:=Hq (Zdr mem o3)
        have A3:=Hq (Ga v3 (.cells #[.int .i64 mem,.slice pB dl.length cC,.slice gB fsO.length cD] 25) none)
        clear x0 x1 x2 xl hp h3 o3 LX2
        go_upto_region 16 with fail
        generalize v3.alloc (.cells #[.int .i64 mem,.slice pB dl.length cC,.slice gB fsO.length cD] 25)=v4 at *
        generalize v3.heap.size=bB at *
        have H4:=Hq (Za H3.out A3.out)
        have HL4:=Hq (Za TT.out.gr (Za H1.out (Za A1.out H4.out)))
        have M14:=Hq (Yg M1.out H4.out)
        have LW4:=Hq (Yg LW.out HL4.out)
        have LU4:=Hq (Yg LU.out HL4.out)
        obtain ⟨x0,x1,x2,xl,-,-,-⟩:=Ym M14.out
        obtain ⟨y0,y1,y2,yl,-,-,-⟩:=Ym LW4.out
        go_wp2_with fail
        refine (Zik mem dl fsE pA pW gA gW cA cW cB cX v4.heap.size v4.heap.size v4 (Nat.le_refl _) (Nat.le_refl _) (by omega) (fun f hf=>by have:=(E3.out f hf).2;omega) M14.out.D LW4.out.D M14.out.F LW4.out.F).mono ?_
        rintro e v5 ⟨rfl,h5⟩
        have M35:=Hq (Yg M3.out h5)
        have LU5:=Hq (Yg LU4.out h5)
        have M15:=Hq (Yg M14.out h5)
        have H5:=Hq h5
        clear x0 x1 x2 xl y0 y1 y2 yl h5 LW4 LU4 M14 HL4
        obtain ⟨x0,x1,x2,xl,-,-,-⟩:=Ym M35.out
        obtain ⟨y0,y1,y2,yl,-,-,-⟩:=Ym LU5.out
        go_wp2_with fail
        refine (Zik mem dl fsO pB pU gB gU cC cU cD cY v5.heap.size v5.heap.size v5 (Nat.le_refl _) (Nat.le_refl _) (by omega) (fun f hf=>by have:=(T3.out f hf).2;omega) M35.out.D LU5.out.D M35.out.F LU5.out.F).mono ?_
        rintro e v6 ⟨rfl,h6⟩
        have M16:=Yg M15.out h6
        have M36:=Yg M35.out h6
        have H6:=Hq h6
        clear x0 x1 x2 xl y0 y1 y2 yl h6 LU5 M35 M15
        obtain ⟨x0,x1,x2,xl,-,-,-⟩:=Ym M16
        obtain ⟨y0,y1,y2,yl,-,-,-⟩:=Ym M36
        clear M16 M36
        have OWN:=Hq (TT.out.own.kept (Za H1.out (Za A1.out (Za H4.out (Za H5.out (Za H6.out (Ga v6 (.cells #[.int .i64 mem,.slice pA dl.length cA,.slice gA fsE.length cB,.int .i64 mem,.slice pB dl.length cC,.slice gB fsO.length cD] 25) none)))))) (Classical.em _))
        have hbase:wL.heap.size<=v6.heap.size+1:=by
         have:=TT.out.gr.size;have:=H1.out.size;have:=A1.out.size;have:=H4.out.size;have:=H5.out.size;have:=H6.out.size;omega
        go_wp2_with (at_builtin;refine Zbs rfl _ _ 55 rfl wL.heap.size 25 pi (.agg #[.int .i64 0,.slice none 0 0,.slice none 0 0]) 3 56 Yni pi0 pi1 pi2 pi3 rfl (by decide) (.slice pv (2*k) cv) (2*k) (Zga mem rs) rfl OWN.out (some ⟨v6.heap.size,0,none⟩) 2 2 [.int .i64 mem,.slice pA dl.length cA,.slice gA fsE.length cB,.int .i64 mem,.slice pB dl.length cC,.slice gB fsO.length cD] rfl rfl (Ytz _ _ _ _ _ _ _ _) (Ytm _ _ _ _ _ _ _ _ _ _ _ _ _ _) (by unfold maxLen;omega) (by omega) (by simp;omega) ?_;intro p' c' w' o' g';have TN:=Hq (Yex TT.out H1.out O1.out A1.out H3.out O3.out (Za A3.out (Za H5.out (Za H6.out (Ga v6 (.cells #[.int .i64 mem,.slice pA dl.length cA,.slice gA fsE.length cB,.int .i64 mem,.slice pB dl.length cC,.slice gB fsO.length cD] 25) none)))) ⟨e2,E3.out⟩ ⟨t2,T3.out⟩ o' g');clear o' g')
        go_roundw
        case rel=>exact TN.out.elim fun rs' h=>⟨k+1,rs',by go_num,by omega,h⟩
        case measure=>simp [intOf];omega
      · have hk3:k=3:=by omega
        subst hk3
        clear hT
        obtain ⟨x0,x1,x2,xl,-,-,-⟩:=Ym (Yg LX.out TT.out.gr)
        go_wp2_with fail
        refine (RO.out wr GR.out).mono ?_
        intro e ya hp
        obtain ⟨pA,cA,gA,cB,cvA,rfl,h1,o1⟩:=Zhu (Zlm HO.out IP.out SE.out EN.out hp)
        have O1:=Hq o1
        have H1:=Hq h1
        have M1:=Hq (Zdr mem o1)
        have A1:=Hq (Ga ya (.cells #[.int .i64 mem,.slice pA dl.length cA,.slice gA fsE.length cB] 25) none)
        clear x0 x1 x2 xl hp h1 o1
        go_upto_region 20 with fail
        generalize ya.alloc (.cells #[.int .i64 mem,.slice pA dl.length cA,.slice gA fsE.length cB] 25)=yb at *
        have hBA:wr.heap.size<=ya.heap.size:=H1.out.size
        generalize ya.heap.size=bA at *
        have GB:=Hq (Za H1.out A1.out)
        have OWB:=TT.out.own.kept GB.out (Classical.em _)
        have TB:=Zic TT.out.told GB.out
        obtain ⟨A,cap,eA,hAl,-⟩:=Zx TT.out.own (by decide)
        injection eA with eA1 eA2 eA3
        subst eA1;subst eA3
        have hlen:=TT.out.len
        have OWB':yb.ownsRow wL.heap.size 25 3 (.slice (some ⟨A,0,none⟩) (2*3) cv) rs.length (Zga mem rs):=by rw [hlen];exact OWB
        obtain ⟨-,KA,GA,hGA⟩:=Ysv TB OWB'
        have OKA:=Ysu (dl:=dl) (rs:=rs) (by omega) (by omega) TT.out.ok
        have GP:=Hq (Zoi A cv KA rs.length GA (nth dl rs) yb (by omega) OKA hGA)
        have BL:=Hq (fun (k:Nat) (h:Yly A rs.length (nth dl rs) k)=>Ysw TT.out.told TT.out.own (Nat.le_refl _) h)
        have O1b:=Hq (Yv O1.out A1.out)
        clear OWB OWB' TB hGA OKA
        rw [hlen] at GP
        go_wp2_with fail
        refine GP.out.mono ?_
        rintro e yc ⟨rfl,sp⟩
        have M1c:=Hq (show Yqr yc bA mem dl fsE pA cA gA cB from by
         have o2:=Zxm O1b.out sp (fun k hk h=>by have:=(BL.out k (by rw [hlen];exact h)).2;omega)
         exact ⟨by rw [sp.block bA (Yvg M1.out) (fun h=>by have:=(BL.out bA (by rw [hlen];exact h)).2;omega)];exact M1.out.box,Zel o2,Zem o2⟩)
        have GC:=Hq (show wL.grownBy yc none from Zmi (Yo (Yf (P:=Yly A (2*3) (nth dl rs)) (Za TT.out.gr GB.out) (by simp)) sp (fun _ _ h=>h)) (fun k hk h=>by have:=(BL.out k (by rw [hlen];exact h)).1;omega))
        clear sp GP BL TT GB O1 O1b H1 A1 M1 GR
        have LWc:=Hq (Yg LW.out GC.out)
        obtain ⟨x0,x1,x2,xl,-,-,-⟩:=Ym M1c.out
        obtain ⟨y0,y1,y2,yl,-,-,-⟩:=Ym LWc.out
        go_wp2_with fail
        refine (Zik mem dl fsE pA pW gA gW cA cW cB cX yc.heap.size yc.heap.size yc (Nat.le_refl _) (Nat.le_refl _) (by omega) (fun f hf=>by have:=(E3.out f hf).2;omega) M1c.out.D LWc.out.D M1c.out.F LWc.out.F).mono ?_
        rintro e yd ⟨rfl,h5⟩
        have GD:=Hq (Za GC.out h5)
        clear x0 x1 x2 xl y0 y1 y2 yl h5 LWc M1c
        have LXd:=Hq (Yg LX.out GD.out)
        have LSd:=Hq (Yg LS.out GD.out)
        obtain ⟨x0,x1,x2,xl,-,-,-⟩:=Ym LXd.out
        obtain ⟨y0,y1,y2,yl,-,-,-⟩:=Ym LSd.out
        go_wp2_with fail
        refine (Zik mem dl fs pd pS pF gS cd cS cF cZ yd.heap.size yd.heap.size yd (Nat.le_refl _) (Nat.le_refl _) (by omega) (fun f hf=>by have:=(Z3.out f hf).2;omega) LXd.out.D LSd.out.D LXd.out.F LSd.out.F).mono ?_
        rintro e ye ⟨rfl,h6⟩
        have GE:=Hq (Za GD.out h6)
        clear x0 x1 x2 xl y0 y1 y2 yl h6 LXd LSd GC GD
        obtain ⟨x0,x1,x2,xl,-,-,-⟩:=Ym (Yg LX.out GE.out)
        go_wp2_with fail
        refine (TW.out ye (Za GL.out GE.out)).mono ?_
        intro e yf hp
        obtain ⟨pM,cM,gM,cN,cvM,rfl,h7,o7⟩:=Zqh hp
        have L7:=Hq (Zdr mem o7)
        have O7:=Hq (Yv o7 (Ga yf (.cells #[.int .i64 mem,.slice pM dl.length cM,.slice gM fs.length cN] 25) none))
        have G7:=Hq (Za GE.out (Za h7 (Ga yf (.cells #[.int .i64 mem,.slice pM dl.length cM,.slice gM fs.length cN] 25) none)))
        have hLE:wL.heap.size<=ye.heap.size:=GE.out.size
        clear x0 x1 x2 xl hp h7 o7 GE
        go_upto_region 23 with fail
        generalize yf.alloc (.cells #[.int .i64 mem,.slice pM dl.length cM,.slice gM fs.length cN] 25)=yg at *
        generalize yf.heap.size=bM at *
        obtain ⟨x0,x1,x2,xl,-,-,-⟩:=Ym L7.out
        go_wp2_with fail
        refine (Zqr mem dl fs pM gM cM cN yg.heap.size yg (Nat.le_refl _) L7.out.F L7.out.D (by omega) z2 IP.out.2 (fun f hf=>by have:=(Z3.out f hf).2;omega)).mono ?_
        intro e yh hp
        obtain ⟨pN,cO',gN,cP',cvN,rfl,h8,-⟩:=Zhu (Zlm HO.out IP.out SE.out EN.out hp)
        have L8:=Hq (Yg L7.out h8)
        have O8:=Hq (Yv O7.out h8)
        have G8:=Hq (Za G7.out h8)
        clear x0 x1 x2 xl hp h8 L7 O7 G7
        obtain ⟨x0,x1,x2,xl,-,-,-⟩:=Ym L8.out
        go_wp2_with fail
        refine (Zrz mem dl fs pM gM cM cN yh.heap.size yh (Nat.le_refl _) L8.out.F L8.out.D (by omega) z2 IP.out.2).mono ?_
        intro e yi hp
        obtain ⟨⟨v,rfl⟩,h9⟩:=Yph hp
        have L9:=Yg L8.out h9
        have O9:=Yv O8.out h9
        have G9:=Hq (Za G8.out h9)
        clear x0 x1 x2 xl hp h9 L8 O8 G8
        obtain ⟨f0,hf0⟩:∃ f,fs[0]? = some f:=⟨_,List.getElem?_eq_getElem (by omega)⟩
        obtain ⟨p1,p2,p3,p4⟩:=Zxl (mem:=mem) (nd:=dl.length) hf0 Z3.out IP.out.2
        obtain ⟨gF,gC,cC,px,py,eM,hgF,k3,hgC,hbC,k0,k1,q0,q1,qb,oJ⟩:=Ygu O9 hf0 (Z3.out f0 (List.mem_of_getElem? hf0)).1
        subst eM
        have sJ:Sp (fun k=>k=gC) yi ((yi.setCell ⟨gC,0,none⟩ (.int .i64 4)).setCell ⟨gC,1,none⟩ (.int .i64 0)):=Zih (Zih (Zez _ _) rfl) rfl
        have P2:=Hq p2
        have P3:=Hq p3
        have P4:=Hq p4
        have P1:=Hq p1
        have LJ:=Hq (show Yqr ((yi.setCell ⟨gC,0,none⟩ (.int .i64 4)).setCell ⟨gC,1,none⟩ (.int .i64 0)) bM mem dl (Zue fs f0) pM cM (some ⟨gF,0,none⟩) cN from ⟨by rw [p1];exact Xbk L9.box sJ (qb bM _ L9.box),Zel (by rw [p1];exact oJ),Zem oJ⟩)
        have GJ:=Hq (show wL.grownBy ((yi.setCell ⟨gC,0,none⟩ (.int .i64 4)).setCell ⟨gC,1,none⟩ (.int .i64 0)) none from Zd (Zd G9.out (by omega)) (by omega))
        obtain ⟨x0,x1,x2,xl,-,-,-⟩:=Ym L9
        have hc1:1<=f0.2.2.2.length:=(Z3.out f0 (List.mem_of_getElem? hf0)).1
        have hc2:(0:Int)<(f0.2.2.2.length:Int):=by omega
        have hc3:(0:Int)<(fs.length:Int):=by omega
        clear sJ oJ qb L9 O9 p2 p3 p4 p1 G9
        go_upto_region 26 with fail
        clear x0 x1 x2 xl k3 k0 k1 q0 q1 hgF hgC
        generalize (yi.setCell ⟨gC,0,none⟩ (.int .i64 4)).setCell ⟨gC,1,none⟩ (.int .i64 0)=yj at *
        have p1:=P1.out
        generalize Zue fs f0=fsJ at *
        obtain ⟨x0,x1,x2,xl,-,-,-⟩:=Ym LJ.out
        go_wp2_with fail
        have RJ:=Zqr mem dl fsJ pM (some ⟨gF,0,none⟩) cM cN yj.heap.size yj (Nat.le_refl _) LJ.out.F LJ.out.D (by omega) (by omega) P3.out (fun f hf=>by have:=P2.out f hf;omega)
        rw [p1] at RJ
        refine RJ.mono ?_
        intro e yk hp
        obtain ⟨rfl,h10⟩:=Ywk P4.out hp
        have A10:=Hq (Za h10 (Ga yk (.cells #[.int .i64 0,.slice none 0 0,.slice none 0 0] 25) none))
        clear x0 x1 x2 xl hp h10 RJ
        unfold Zud
        go_upto_region 27 with fail
        generalize yk.alloc (.cells #[.int .i64 0,.slice none 0 0,.slice none 0 0] 25)=yl at *
        have LL:=Hq (Yg LJ.out A10.out)
        obtain ⟨x0,x1,x2,xl,-,-,-⟩:=Ym LL.out
        go_wp2_with fail
        have RK:=Zrz mem dl fsJ pM (some ⟨gF,0,none⟩) cM cN yl.heap.size yl (Nat.le_refl _) LL.out.F LL.out.D (by omega) (by omega) P3.out
        rw [p1] at RK
        refine RK.mono ?_
        intro e ym hp
        obtain ⟨rfl,h11⟩:=Yqo P4.out hp
        have A11:=Hq (Za h11 (Ga ym (.cells #[.int .i64 0,.int .i64 0] 37) none))
        clear x0 x1 x2 xl hp h11 RK
        go_upto_region 28 with fail
        generalize ym.alloc (.cells #[.int .i64 0,.int .i64 0] 37)=yn at *
        have GN:=Hq (Za GJ.out (Za A10.out A11.out))
        obtain ⟨x0,x1,x2,xl,-,-,-⟩:=Ym (Yg LX.out GN.out)
        go_wp2_with fail
        refine (RO.out yn (Za GL.out GN.out)).mono ?_
        intro e yo hp
        obtain ⟨pT,cT,gT,cV,cvT,rfl,h12,o12⟩:=Zhu (Zlm HO.out IP.out SE.out EN.out hp)
        have L12:=Hq (Zdr mem o12)
        have A12:=Hq (Za h12 (Ga yo (.cells #[.int .i64 mem,.slice pT dl.length cT,.slice gT fsE.length cV] 25) none))
        clear x0 x1 x2 xl hp h12 o12
        go_upto_region 29 with fail
        generalize yo.alloc (.cells #[.int .i64 mem,.slice pT dl.length cT,.slice gT fsE.length cV] 25)=yp at *
        generalize yo.heap.size=bT at *
        have GP:=Hq (Za GN.out A12.out)
        have LWp:=Hq (Yg LW.out GP.out)
        obtain ⟨x0,x1,x2,xl,-,-,-⟩:=Ym L12.out
        obtain ⟨y0,y1,y2,yl,-,-,-⟩:=Ym LWp.out
        go_wp2_with fail
        refine (Zik mem dl fsE pT pW gT gW cT cW cV cX yp.heap.size yp.heap.size yp (Nat.le_refl _) (Nat.le_refl _) (by omega) (fun f hf=>by have:=(E3.out f hf).2;omega) L12.out.D LWp.out.D L12.out.F LWp.out.F).mono ?_
        rintro e yq ⟨rfl,h13⟩
        clear x0 x1 x2 xl y0 y1 y2 yl
        go_wp2_with fail
        refine (Zsd yq).mono ?_
        rintro e yr ⟨rfl,h14⟩
        go_wp2
        go_ret
        exact ⟨rfl,Za GL.out (Za GP.out (Za h13 h14))⟩
end Go.Proofs.Ythlkflagancdfaa.OT
