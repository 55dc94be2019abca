/-
  Part of a proof: contracts of functions and lemmas, each stated by its own theorem. Conditions: as each theorem states.
-/
import Derived.Test.YteciblfmgdlipaaGreatDoorMI09
import Derived.Test.YteciblfmgdlipaaGreatDoorMI06
import Derived.LaidEql
import Derived.Lib.IfaceEq
import Derived.WalkKit
set_option linter.unusedSimpArgs false
set_option linter.unusedVariables false
set_option maxRecDepth 100000
set_option maxHeartbeats 16000000
namespace Go.Proofs.YteciblfmgdlipaaGreatDoor.AS
open Go.RowKit Go.Great CK
def Zer (line:Int) (c:CS) (x:Option Int) (lab:Bool) (l:List Pc):Option (CS × Option Int) :=
 match l with
 | []=>some (c,x)
 | .word t::r =>
   if lab=false/\t=Jn then Yjz c x r
   else if lab=false/\t=Zey then Zhx c x r
   else if lab=false/\t=Zgf then Zhb c x r
   else Zli line c x (.word t::r)
 | _=>none
theorem Zoc (line:Int) (c:CS) (x:Option Int) (t:Txt) (r:List Pc):Zer line c x true (.word t::r)=Zli line c x (.word t::r):=by
 unfold Zer
 simp
def Zht (line:Int):CS->Option Int->Bool->List Pc->Option (CS × Option Int)
 | c,x,lab,.word t :: .colon::r=>if c.funcs.length=0 then none else Zht line (Zlf c x t).1 (Zlf c x t).2 true r
 | c,x,lab,l=>Zer line c x lab l
theorem Zfn (line:Int) (c:CS) (x:Option Int) (lab:Bool) (t:Txt) (r:List Pc):Zht line c x lab (.word t :: .colon::r)=if c.funcs.length=0 then none else Zht line (Zlf c x t).1 (Zlf c x t).2 true r:=by rw [Zht]
theorem Zam (line:Int) (c:CS) (x:Option Int) (lab:Bool) (l:List Pc) (h:∀ t r,l ≠ .word t :: .colon::r):Zht line c x lab l=Zer line c x lab l:=by
 unfold Zht
 split
 · exact absurd rfl (h _ _)
 · rfl
theorem Jf {w0 w:World} {p m:Nat} {r:Option (CS × Option Int)} {e:Ending} {w':World} (h:Yi w0 w p m r e w'):∃ v,e = .returned v:=by
 obtain ⟨h,_,_⟩:=h
 cases r with
 | none=>exact ⟨_,h⟩
 | some c=>exact ⟨_,h.1⟩
theorem Jw {w0 w wr w':World} {p m m':Nat} {r R:Option (CS × Option Int)} {e:Ending} (h:Yi w0 wr p m r e w') (f:Fr w wr) (hm:m<=m') (hr:R=r):Yi w0 w p m' R e w':=by
 subst hr
 obtain ⟨h1,h2,h3⟩:=h
 refine ⟨?_,Zz f h2,h3⟩
 cases R with
 | none=>exact h1
 | some c=>exact ⟨h1.1,Zkv h1.2 hm⟩
structure SaI (w0 w wr:World) (p m M:Nat) (line:Int) (R:Option (CS × Option Int)) (lab:Bool) (pp:Option Addr) (cc:Nat) (l:List Pc) (c:CS) (x:Option Int) (k:Nat):Prop where
 ps:PS w0 wr p k c (Zgw x)
 eq:R=Zht line c x lab l
 pt:Zkh wr pp l
 fr:Fr w wr
 hk:k+l.length<=m
 ws:∀ t,(Pc.word t∈l\/Pc.str t∈l)->t.length<=M
 cap:l.length<=cc
def slen:Value->Nat
 | .slice _ n _=>n
 | _=>0
theorem Ytk {q:Pc} (h:pcK q=3):q = .colon:=by cases q <;> simp [pcK] at h;rfl
theorem Zfy {t u:Txt} (h:t=u):((bs t).toList == u)=true:=by rw [Jk];exact beq_iff_eq.2 h
theorem Zfx {t u:Txt} (h:t≠u):((bs t).toList == u)=false:=by rw [Jk];exact beq_eq_false_iff_ne.2 h
theorem Ykx (w0 w:World) (p m M cc0:Nat) (line:Int) (c:CS) (x:Option Int) (ps:List Pc) (pp0:Option Addr) (h:PS w0 w p m c (Zgw x)) (hp:Zkh w pp0 ps) (hcc:ps.length<=cc0) (hl:ps.length<=70000)
 (hws:∀ t,(Pc.word t∈ps\/Pc.str t∈ps)->t.length<=M) (hm:m+ps.length+2+M<=1000000) :
 Calls Tryz.prog 57 #[.pointer (some ⟨p,0,none⟩),.int .i64 line,.slice pp0 ps.length cc0] w (Yi w0 w p (m+ps.length+2+M) (Zht line c x false ps)):=by
 have I0:=Hq (show SaI w0 w w p (m+ps.length) M line (Zht line c x false ps) false pp0 cc0 ps c x m from ⟨h,rfl,hp,Zlm _,Nat.le_refl _,hws,hcc⟩)
 obtain ⟨R,hR⟩:∃ R,Zht line c x false ps=R:=⟨_,rfl⟩
 obtain ⟨mm,hmm⟩:∃ mm,m+ps.length=mm:=⟨_,rfl⟩
 rw [hR,hmm] at I0
 rw [hR,hmm]
 have hL:ps.length<=mm:=by omega
 have hL7:mm+2+M<=1000000:=by omega
 clear h hp hws hm hR hmm
 go_enter Tryz.func57,Tryz.ntmps57
 go_wp2
 go_loopw [7,2] (fun lab sl wr=>∃ (lb:Bool) (pp:Option Addr) (l:List Pc) (cc:Nat) (c':CS) (x':Option Int) (k:Nat),lab = .bool lb/\sl = .slice pp l.length cc/\l.length<=ps.length/\SaI w0 w wr p mm M line R lb pp cc l c' x' k) (fun _ sl _=>slen sl)
 case atStart=>exact ⟨false,pp0,ps,cc0,c,x,m,rfl,rfl,Nat.le_refl _,I0.out⟩
 case round =>
  obtain ⟨lb,pp,l,cc,c',x',k,rfl,rfl,hll,hI⟩:=hrel
  have I:=Hq hI
  clear hI
  have hps7:=hl
  rcases l with _|⟨q,r⟩
  · have HE:=Hq (I.out.eq.trans (Zam line c' x' lb [] (by intro t r e;cases e)))
    go_wp2
    go_ret
    rw [HE.out]
    have hk:=I.out.hk
    exact ⟨⟨rfl,Zkv I.out.ps (by omega)⟩,I.out.fr,Zdg I.out.ps⟩
  · obtain ⟨b,o,e,hb,d0,d1,d2,d3⟩:=Jb I.out.pt (i:=0) (q:=q) rfl
    subst e
    simp only [Nat.zero_mul,Nat.add_zero] at d0 d1 d2 d3
    have hk:=I.out.hk
    have hcap:=I.out.cap
    simp only [List.length_cons] at hll hk hcap
    by_cases hq:pcK q=0
    · obtain ⟨t,rfl⟩:=Yeg hq
      simp only [pcK,pcT,pcN,pcF] at d0 d1 d2 d3
      have ht:=I.out.ws t (Or.inl (List.mem_cons_self ..))
      rcases r with _|⟨q1,r1⟩
      · have HE:=Hq (I.out.eq.trans (Zam line c' x' lb [.word t] (by intro t r e;injection e with _ e;cases e)))
        have IN:=Hq (Zuu w0 wr p k line c' x' t ([]:List Pc) b o cc I.out.ps I.out.pt (by simp only [List.length_cons,List.length_nil];omega) (by simp only [List.length_cons,List.length_nil];omega) (by omega))
        have ME:=Hq (fun pp c9 (hp9:Zkh wr pp ([]:List Pc))=>Zib w0 wr p k c' x' ([]:List Pc) pp c9 I.out.ps hp9 (by simp only [List.length_cons,List.length_nil];omega))
        have DA:=Hq (fun pp c9 (hp9:Zkh wr pp ([]:List Pc))=>Zmi w0 wr p k c' x' ([]:List Pc) pp c9 M I.out.ps hp9 (by simp only [List.length_cons,List.length_nil];omega) (fun u hu=>I.out.ws u (Or.inr (by rw [hu];simp))) (by omega))
        have FU:=Hq (fun pp c9 (hp9:Zkh wr pp ([]:List Pc)) (h9:([]:List Pc).length<=c9)=>Zme w0 wr p k c' x' ([]:List Pc) pp c9 I.out.ps hp9 (by simp only [List.length_cons,List.length_nil];omega) h9 (fun u hu=>by have:=I.out.ws u (Or.inl (List.mem_cons_of_mem _ hu));omega) (by omega))
        have PT:=Hq (show Zkh wr (some ⟨b,o+4,none⟩) ([]:List Pc) from Zry I.out.pt)
        simp only [List.length_cons,List.length_nil] at IN ME DA FU
        cases lb with
        | true =>
          have HL:=Hq (HE.out.trans (Zoc line c' x' t ([]:List Pc)))
          go_wp2_with (go_at_call 80;refine IN.out.mono ?_;rintro e w2 hp2;obtain ⟨v,rfl⟩:=Jf hp2;have LP:=Hq hp2;clear hp2)
          go_ret
          exact Jw LP.out I.out.fr (by omega) HL.out
        | false =>
          by_cases hm1:t=Jn
          · have g1:=Zfy hm1
            have HL:=Hq (HE.out.trans (show Zer line c' x' false (.word t::([]:List Pc))=Yjz c' x' ([]:List Pc) from if_pos ⟨rfl,hm1⟩))
            simp only [Jn] at g1
            clear hm1
            by_cases hc1:cc=1
            all_goals
             go_wp2_with (go_at_call 77;refine (ME.out _ _ (by first|exact PT.out|(intro h0;simp at h0;done)|(simp only [List.length_cons] at hcap;omega))).mono ?_;rintro e w2 hp2;obtain ⟨v,rfl⟩:=Jf hp2;have LP:=Hq hp2;clear hp2)
             go_ret
             exact Jw LP.out I.out.fr (by omega) HL.out
          · have g1:=Zfx hm1
            simp only [Jn] at g1
            by_cases hm2:t=Zey
            · have g2:=Zfy hm2
              have HL:=Hq (HE.out.trans (show Zer line c' x' false (.word t::([]:List Pc))=Zhx c' x' ([]:List Pc) from (if_neg (fun h=>hm1 h.2)).trans (if_pos ⟨rfl,hm2⟩)))
              simp only [Zey] at g2
              clear hm1 hm2
              by_cases hc1:cc=1
              all_goals
               go_wp2_with (go_at_call 78;refine (DA.out _ _ (by first|exact PT.out|(intro h0;simp at h0;done)|(simp only [List.length_cons] at hcap;omega))).mono ?_;rintro e w2 hp2;obtain ⟨v,rfl⟩:=Jf hp2;have LP:=Hq hp2;clear hp2)
               go_ret
               exact Jw LP.out I.out.fr (by omega) HL.out
            · have g2:=Zfx hm2
              simp only [Zey] at g2
              by_cases hm3:t=Zgf
              · have g3:=Zfy hm3
                have HL:=Hq (HE.out.trans (show Zer line c' x' false (.word t::([]:List Pc))=Zhb c' x' ([]:List Pc) from (if_neg (fun h=>hm1 h.2)).trans ((if_neg (fun h=>hm2 h.2)).trans (if_pos ⟨rfl,hm3⟩))))
                simp only [Zgf] at g3
                clear hm1 hm2 hm3
                by_cases hc1:cc=1
                all_goals
                 go_wp2_with (go_at_call 79;refine (FU.out _ _ (by first|exact PT.out|(intro h0;simp at h0;done)|(simp only [List.length_cons] at hcap;omega)) (by simp only [List.length_cons,List.length_nil] at *;omega)).mono ?_;rintro e w2 hp2;obtain ⟨v,rfl⟩:=Jf hp2;have LP:=Hq hp2;clear hp2)
                 go_ret
                 exact Jw LP.out I.out.fr (by omega) HL.out
              · have g3:=Zfx hm3
                have HL:=Hq (HE.out.trans (show Zer line c' x' false (.word t::([]:List Pc))=Zli line c' x' (.word t::([]:List Pc)) from (if_neg (fun h=>hm1 h.2)).trans ((if_neg (fun h=>hm2 h.2)).trans (if_neg (fun h=>hm3 h.2)))))
                simp only [Zgf] at g3
                clear hm1 hm2 hm3
                go_wp2_with (go_at_call 80;refine IN.out.mono ?_;rintro e w2 hp2;obtain ⟨v,rfl⟩:=Jf hp2;have LP:=Hq hp2;clear hp2)
                go_ret
                exact Jw LP.out I.out.fr (by omega) HL.out
      · obtain ⟨b',o',e,hb2,y0,y1,y2,y3⟩:=Jb I.out.pt (i:=1) (q:=q1) rfl
        injection e with e;injection e with e1 e2
        subst e1;subst e2
        simp only [Nat.one_mul] at y0 y1 y2 y3
        simp only [List.length_cons] at hll hk hcap
        by_cases h3:pcK q1=3
        · obtain rfl:=Ytk h3
          simp only [pcK,pcT,pcN,pcF] at y0 y1 y2 y3
          have HE:=Hq (I.out.eq.trans (Zfn line c' x' lb t r1))
          by_cases hf:c'.funcs.length=0
          · have HN:=Hq (HE.out.trans (if_pos hf))
            obtain ⟨vd,vF,vL,vB,bm,cv,lb',hA⟩:=I.out.ps
            obtain ⟨pF,cF,hvF⟩:=Zan hA
            subst hvF
            have c2:=Cq wr p 2 _ _ _ hA.box
            have hlt:p<wr.heap.size:=(Gs hA.box)
            have hfi:(c'.funcs.length:Int)=0:=by omega
            clear hA hf
            go_wp2
            go_ret
            rw [HN.out]
            exact ⟨rfl,I.out.fr,Zdg I.out.ps⟩
          · have HN:=Hq (HE.out.trans (if_neg hf))
            have LB:=Hq (Yhp w0 wr p k c' x' t I.out.ps (by omega) (by omega) (by omega))
            obtain ⟨vd,vF,vL,vB,bm,cv,lb',hA⟩:=I.out.ps
            obtain ⟨pF,cF,hvF⟩:=Zan hA
            subst hvF
            have c2:=Cq wr p 2 _ _ _ hA.box
            have hlt:p<wr.heap.size:=(Gs hA.box)
            have hfi:((c'.funcs.length:Int) == 0)=false:=by rw [beq_eq_false_iff_ne];omega
            clear hA hf
            by_cases hc2:cc=2
            all_goals
             go_wp2_with (go_at_call 76;refine LB.out.mono ?_;rintro e w2 ⟨rfl,hps2,hf2⟩;have S2:=Hq hps2;have F2:=Hq hf2;clear hps2 hf2)
             refine ⟨⟨true,_,r1,_,_,_,k+1,rfl,rfl,by omega,⟨S2.out,HN.out,?_,Zz I.out.fr F2.out,by omega,fun u hu=>I.out.ws u (hu.imp (fun h=>List.mem_cons_of_mem _ (List.mem_cons_of_mem _ h)) (fun h=>List.mem_cons_of_mem _ (List.mem_cons_of_mem _ h))),by omega⟩⟩,by simp only [slen,List.length_cons];omega⟩
             first
              | (intro h0;omega)
              | (have:=Zue (k:=2) (Zak I.out.pt F2.out);simpa using this)
        · have HE:=Hq (I.out.eq.trans (Zam line c' x' lb (.word t::q1::r1) (by intro t r e;injection e with _ e;injection e with e _;subst e;exact h3 rfl)))
          have b3:(pcK q1 == 3)=false:=beq_eq_false_iff_ne.2 h3
          generalize pcK q1=z0 at *
          generalize bs (pcT q1)=z1 at *
          generalize pcN q1=z2 at *
          generalize pcF q1=z3 at *
          have IN:=Hq (Zuu w0 wr p k line c' x' t (q1::r1) b o cc I.out.ps I.out.pt (by simp only [List.length_cons,List.length_nil];omega) (by simp only [List.length_cons,List.length_nil];omega) (by omega))
          have ME:=Hq (fun pp c9 (hp9:Zkh wr pp (q1::r1))=>Zib w0 wr p k c' x' (q1::r1) pp c9 I.out.ps hp9 (by simp only [List.length_cons,List.length_nil];omega))
          have DA:=Hq (fun pp c9 (hp9:Zkh wr pp (q1::r1))=>Zmi w0 wr p k c' x' (q1::r1) pp c9 M I.out.ps hp9 (by simp only [List.length_cons,List.length_nil];omega) (fun u hu=>I.out.ws u (Or.inr (by rw [hu];simp))) (by omega))
          have FU:=Hq (fun pp c9 (hp9:Zkh wr pp (q1::r1)) (h9:(q1::r1).length<=c9)=>Zme w0 wr p k c' x' (q1::r1) pp c9 I.out.ps hp9 (by simp only [List.length_cons,List.length_nil];omega) h9 (fun u hu=>by have:=I.out.ws u (Or.inl (List.mem_cons_of_mem _ hu));omega) (by omega))
          have PT:=Hq (show Zkh wr (some ⟨b,o+4,none⟩) (q1::r1) from Zry I.out.pt)
          simp only [List.length_cons,List.length_nil] at IN ME DA FU
          cases lb with
          | true =>
            have HL:=Hq (HE.out.trans (Zoc line c' x' t (q1::r1)))
            go_wp2_with (go_at_call 80;refine IN.out.mono ?_;rintro e w2 hp2;obtain ⟨v,rfl⟩:=Jf hp2;have LP:=Hq hp2;clear hp2)
            go_ret
            exact Jw LP.out I.out.fr (by omega) HL.out
          | false =>
            by_cases hm1:t=Jn
            · have g1:=Zfy hm1
              have HL:=Hq (HE.out.trans (show Zer line c' x' false (.word t::(q1::r1))=Yjz c' x' (q1::r1) from if_pos ⟨rfl,hm1⟩))
              simp only [Jn] at g1
              clear hm1
              have hc1:¬ cc=1:=by omega
              all_goals
               go_wp2_with (go_at_call 77;refine (ME.out _ _ (by first|exact PT.out|(intro h0;simp at h0;done)|(simp only [List.length_cons] at hcap;omega))).mono ?_;rintro e w2 hp2;obtain ⟨v,rfl⟩:=Jf hp2;have LP:=Hq hp2;clear hp2)
               go_ret
               exact Jw LP.out I.out.fr (by omega) HL.out
            · have g1:=Zfx hm1
              simp only [Jn] at g1
              by_cases hm2:t=Zey
              · have g2:=Zfy hm2
                have HL:=Hq (HE.out.trans (show Zer line c' x' false (.word t::(q1::r1))=Zhx c' x' (q1::r1) from (if_neg (fun h=>hm1 h.2)).trans (if_pos ⟨rfl,hm2⟩)))
                simp only [Zey] at g2
                clear hm1 hm2
                have hc1:¬ cc=1:=by omega
                all_goals
                 go_wp2_with (go_at_call 78;refine (DA.out _ _ (by first|exact PT.out|(intro h0;simp at h0;done)|(simp only [List.length_cons] at hcap;omega))).mono ?_;rintro e w2 hp2;obtain ⟨v,rfl⟩:=Jf hp2;have LP:=Hq hp2;clear hp2)
                 go_ret
                 exact Jw LP.out I.out.fr (by omega) HL.out
              · have g2:=Zfx hm2
                simp only [Zey] at g2
                by_cases hm3:t=Zgf
                · have g3:=Zfy hm3
                  have HL:=Hq (HE.out.trans (show Zer line c' x' false (.word t::(q1::r1))=Zhb c' x' (q1::r1) from (if_neg (fun h=>hm1 h.2)).trans ((if_neg (fun h=>hm2 h.2)).trans (if_pos ⟨rfl,hm3⟩))))
                  simp only [Zgf] at g3
                  clear hm1 hm2 hm3
                  have hc1:¬ cc=1:=by omega
                  all_goals
                   go_wp2_with (go_at_call 79;refine (FU.out _ _ (by first|exact PT.out|(intro h0;simp at h0;done)|(simp only [List.length_cons] at hcap;omega)) (by simp only [List.length_cons,List.length_nil] at *;omega)).mono ?_;rintro e w2 hp2;obtain ⟨v,rfl⟩:=Jf hp2;have LP:=Hq hp2;clear hp2)
                   go_ret
                   exact Jw LP.out I.out.fr (by omega) HL.out
                · have g3:=Zfx hm3
                  have HL:=Hq (HE.out.trans (show Zer line c' x' false (.word t::(q1::r1))=Zli line c' x' (.word t::(q1::r1)) from (if_neg (fun h=>hm1 h.2)).trans ((if_neg (fun h=>hm2 h.2)).trans (if_neg (fun h=>hm3 h.2)))))
                  simp only [Zgf] at g3
                  clear hm1 hm2 hm3
                  go_wp2_with (go_at_call 80;refine IN.out.mono ?_;rintro e w2 hp2;obtain ⟨v,rfl⟩:=Jf hp2;have LP:=Hq hp2;clear hp2)
                  go_ret
                  exact Jw LP.out I.out.fr (by omega) HL.out
    · have HE:=Hq (I.out.eq.trans (Zam line c' x' lb (q::r) (by intro t r e;injection e with e _;subst e;exact hq rfl)))
      have HN:=Hq (HE.out.trans (show Zer line c' x' lb (q::r)=none by cases q <;> first|rfl|exact absurd rfl hq))
      have b0:(pcK q == 0)=false:=beq_eq_false_iff_ne.2 hq
      have b1:(pcK q != 0)=true:=by rw [bne_iff_ne];exact hq
      generalize pcK q=z0 at *
      generalize bs (pcT q)=z1 at *
      generalize pcN q=z2 at *
      generalize pcF q=z3 at *
      rcases r with _|⟨q1,r1⟩
      · go_wp2
        go_ret
        rw [HN.out]
        exact ⟨rfl,I.out.fr,Zdg I.out.ps⟩
      · have hr1:(1:Int)<(r1.length:Int)+1+1:=by omega
        simp only [List.length_cons] at hll hk hcap
        go_wp2
        go_ret
        rw [HN.out]
        exact ⟨rfl,I.out.fr,Zdg I.out.ps⟩
open Go.Extern
theorem Yhx (v:Value) (w:World):(Extern.ReflectliteType.typeOf #[.iface 41 v]).run Tryz.prog w = .ok (.iface 204 (.agg #[.pointer (some ⟨8,41,none⟩)])) w:=by kernel_rfl
def Yyb:Array Value->Sem Value:=Extern.ReflectliteType.method fun t=>do Extern.Rtype.noPackHeld "Comparable" t;pure (.bool (<- typeInfo t).comparable)
theorem Zss (w:World):(Yyb #[.agg #[.pointer (some ⟨8,41,none⟩)]]).run Tryz.prog w = .ok (.bool true) w:=by kernel_rfl
theorem Yhy (v:Value) (w:World):(Go.method 405 204 v "Comparable").run Tryz.prog w = .ok (211,v) w:=by kernel_rfl
theorem Ysr (w:World):Calls Tryz.prog 58 #[Zwf 141,Zwf 141] w fun e w'=>e = .returned (.bool true)/\w'=w:=by
 have h8 := @run_callFunc_extern Tryz.prog 81 _ Extern.ReflectliteType.typeOf Tryz.func81 (by kernel_rfl) (by kernel_rfl) (by kernel_rfl) (by kernel_rfl)
 have h32 := @run_callFunc_extern Tryz.prog 211 _ Yyb Tryz.func211 (by kernel_rfl) (by kernel_rfl) (by kernel_rfl) (by kernel_rfl)
 have tT:=Yhx
 have cT:=Zss
 have mR:=Yhy
 have heq:=fun W=>Lib.run_eql_iface_int (P:=Tryz.prog) (k := .i64) W 141 141 Tryz.underlying28 (tx:=41) (by kernel_rfl) Tryz.underlying41
 go_enter Tryz.func58,Tryz.ntmps58
 go_wp2
 refine wp_loop_rounds 1 ?_
 rw [rounds_succ]
 go_wp2
 go_ret
 exact ⟨rfl,rfl⟩
theorem Yvg (w:World):Calls Tryz.prog 58 #[.nilIface,Zwf 141] w fun e w'=>e = .returned (.bool false)/\w'=w:=by
 have hn:=run_eql_iface_nil_left (P:=Tryz.prog) w 41 (.int .i64 141) Tryz.underlying28
 go_enter Tryz.func58,Tryz.ntmps58
 go_wp2
 go_ret
 exact ⟨rfl,rfl⟩
theorem Yqb:∀ (n:Nat) (l:Txt) (b:Txt) (k:Nat),l.length<=n->unq l=some (b,k)->b.length<=k:=by
 intro n
 induction n with
 | zero =>
   intro l b k hl h
   have:l=[]:=List.eq_nil_of_length_eq_zero (by omega)
   subst this;cases h
 | succ n ih =>
   intro l b k hl h
   cases l with
   | nil=>cases h
   | cons c r =>
     rw [unq.eq_def] at h
     simp only [] at h
     simp only [List.length_cons] at hl
     split at h
     · injection h with h;injection h with h1 h2;subst h1;simp
     · split at h
       · cases h
       · split at h
         · obtain ⟨x,hx,h⟩:=Option.map_eq_some_iff.1 h
           have:=ih r x.1 x.2 (by omega) hx
           injection h with h1 h2;subst h1;simp only [List.length_cons];omega
         · split at h
           · cases h
           · rename_i d r2
             simp only [List.length_cons] at hl
             split at h
             · obtain ⟨x,hx,h⟩:=Option.map_eq_some_iff.1 h
               have:=ih r2 x.1 x.2 (by omega) hx
               injection h with h1 h2;subst h1;simp only [List.length_cons];omega
             · split at h
               · split at h
                 · rename_i x y r3
                   simp only [List.length_cons] at hl
                   split at h
                   · obtain ⟨z,hz,h⟩:=Option.map_eq_some_iff.1 h
                     have:=ih r3 z.1 z.2 (by omega) hz
                     injection h with h1 h2;subst h1;simp only [List.length_cons];omega
                   · cases h
                 · cases h
               · cases h
def Yuh:Pc->Nat
 | .word t=>t.length
 | .str t=>t.length
 | _=>0
theorem Ymj {l:Txt} {p:Pc} {k:Nat} (h:Zmm l=some (p,k)):Yuh p<=l.length:=by
 cases l with
 | nil=>cases h
 | cons c r =>
   rw [Zmm] at h
   split at h
   · injection h with h;injection h with h1 h2
     subst h1
     simp only [Yuh,List.length_take]
     omega
   · split at h
     · obtain ⟨x,hx,h⟩:=Option.map_eq_some_iff.1 h
       have h1:=Zne r.length r x.1 x.2 (Nat.le_refl _) hx
       have h2:=Yqb r.length r x.1 x.2 (Nat.le_refl _) hx
       injection h with h3 h4;subst h3
       simp only [Yuh,List.length_cons];omega
     · split at h
       · obtain ⟨x,hx,h⟩:=Option.map_eq_some_iff.1 h
         injection h with h1 h2;subst h1
         simp [Yuh]
       · cases h
theorem Zmt:∀ (f:Nat) (ap:Bool) (l:Txt) (ps:List Pc),Zpr f ap l=some ps->ps.length<=l.length/\∀ p∈ps,Yuh p<=l.length
 | 0,_,_,_,h=>by cases h
 | f+1,ap,[],ps,h=>by rw [Zpr] at h;injection h with h;subst h;simp
 | f+1,ap,c::r,ps,h=>by
   rw [Zpr] at h
   split at h
   · injection h with h;subst h;simp
   · split at h
     · obtain ⟨h1,h2⟩:=Zmt f true r ps h
       simp only [List.length_cons]
       exact ⟨by omega,fun p hp=>by have:=h2 p hp;omega⟩
     · split at h
       · obtain ⟨x,hx,h⟩:=Option.map_eq_some_iff.1 h
         subst h
         obtain ⟨h1,h2⟩:=Zmt f true r x hx
         simp only [List.length_cons]
         refine ⟨by omega,fun p hp => ?_⟩
         rcases List.mem_cons.1 hp with rfl|hp
         · simp [Yuh]
         · have:=h2 p hp;omega
       · split at h
         · cases h
         · split at h
           · cases h
           · rename_i q k hq
             obtain ⟨x,hx,h⟩:=Option.map_eq_some_iff.1 h
             subst h
             obtain ⟨h1,h2⟩:=Zmt f false _ x hx
             have hb:=Zfe hq
             have hl:=Ymj hq
             simp only [List.length_cons,List.length_drop] at *
             refine ⟨by omega,fun p hp => ?_⟩
             rcases List.mem_cons.1 hp with rfl|hp
             · exact hl
             · have:=h2 p hp;omega
theorem Zms {l:Txt} {ps:List Pc} (h:Zpm l=some ps):ps.length<=l.length/\∀ t,(Pc.word t∈ps\/Pc.str t∈ps)->t.length<=l.length:=by
 obtain ⟨h1,h2⟩:=Zmt _ _ _ _ h
 refine ⟨h1,fun t ht => ?_⟩
 rcases ht with ht|ht
 · exact h2 _ ht
 · exact h2 _ ht
def lnC (line:Int) (c:CS) (t:Txt):Option (CS × Option Int):=(Zpm t).bind (Zht line c none false)
def Ywd (w0 w:World) (p m:Nat) (r:Option (CS × Option Int)) (e:Ending) (w':World):Prop :=
 (match r with
   | none=>e = .returned (Zwf 141)
   | some (c,none)=>e = .returned .nilIface/\PS w0 w' p m c .nilIface
   | some (_,some y)=>e = .returned (Zwf y))/\Fr w w'/\w0.grownBy w' none
theorem Znv {w:World} {E:Nat} {p:Option Addr} {c:Nat} {ps:List Pc} (h:Ydw w E (.slice p ps.length c) ps):ps.length<=c:=by
 rcases h.2 with ⟨e,h1⟩|⟨g,cap,cur,hv,_,hg,hn,hm,hs,ht⟩
 · injection e with _ e _;omega
 · injection hv with _ _ hv;omega
theorem Znq {w0 w:World} {p m:Nat} {c:CS} {pend pend':Value} (h:PS w0 w p m c pend):PS w0 (w.setCell ⟨p,7,none⟩ pend') p m c pend'/\w.grownBy (w.setCell ⟨p,7,none⟩ pend') (some p):=by
 obtain ⟨vd,vF,vL,vB,bm,cv,lb,hA⟩:=h
 exact Znt hA
theorem Zef {w0 w:World} {p m:Nat} {c:CS} {pend:Value} (h:PS w0 w p m c pend):w.cell? ⟨p,7,none⟩=some pend/\w.frozen? ⟨p,7,none⟩=false/\p<w.heap.size:=by
 obtain ⟨vd,vF,vL,vB,bm,cv,lb,hA⟩:=h
 exact ⟨Cq w p 7 _ _ _ hA.box,frozen_of_row w p 7 _ _ hA.box,(Gs hA.box)⟩
theorem Ymv (w0 w:World) (p m:Nat) (line:Int) (c:CS) (pend:Value) (t:Txt) (h:PS w0 w p m c pend) (hW:LibW w0) (hl:t.length<=65536) (hm:m+2*t.length+2<=1000000) :
 Calls Tryz.prog 28 #[.pointer (some ⟨p,0,none⟩),.int .i64 line,.string (bs t)] w (Ywd w0 w p (m+2*t.length+2) (lnC line c t)):=by
 have HS:=Hq h
 have PI0:=Ycg (bs t) (by rw [Zl];omega) w (Ym hW (Zdg h))
 rw [Xs] at PI0
 have c7:=(Zef h).1
 have IN:=Hq Yvg
 have IS:=Hq Ysr
 cases hp:Zpm t with
 | none =>
   have HR:=Hq (show lnC line c t=none by unfold lnC;rw [hp];rfl)
   rw [hp] at PI0
   have PI:=Hq PI0
   clear PI0 hp h c7
   go_enter Tryz.func28,Tryz.ntmps28
   go_wp2_with (first
    | (go_at_call 56;refine PI.out.mono ?_;rintro e w2 ⟨rfl,hg⟩;have G2:=Hq hg;have S2:=Hq (Zcb HS.out hg);obtain ⟨c7,z7,hlt⟩:=Zef S2.out;clear hg)
    | (go_at_call 58;refine (IS.out _).mono ?_;rintro e w3 ⟨rfl,rfl⟩))
   go_ret
   rw [HR.out]
   have Q:=Znq (pend' := .nilIface) S2.out
   exact ⟨rfl,Zz (Xg G2.out) (Zea S2.out Q.2),Zdg Q.1⟩
 | some ps =>
   rw [hp] at PI0
   have PI:=Hq PI0
   have hln:=Zms hp
   have HR:=Hq (show lnC line c t=Zht line c none false ps by unfold lnC;rw [hp];rfl)
   clear PI0 hp h c7
   rcases ps with _|⟨q,r⟩
   · go_enter Tryz.func28,Tryz.ntmps28
     go_wp2_with (first
      | (go_at_call 56;refine PI.out.mono ?_;rintro e w2 ⟨⟨pp,cc,rfl,-⟩,hg⟩;have G2:=Hq hg;have S2:=Hq (Zcb HS.out hg);obtain ⟨c7,z7,hlt⟩:=Zef S2.out;clear hg)
      | (go_at_call 58;refine (IN.out _).mono ?_;rintro e w3 ⟨rfl,rfl⟩))
     go_ret
     rw [HR.out]
     have Q:=Znq (pend' := .nilIface) S2.out
     exact ⟨⟨rfl,Zkv Q.1 (by omega)⟩,Zz (Xg G2.out) (Zea S2.out Q.2),Zdg Q.1⟩
   · have hln1:=hln.1
     have SA:=Hq (fun w3 pp cc h1 h2 h3=>Ykx w0 w3 p m t.length cc line c none (q::r) pp h1 h2 h3 (by omega) hln.2 (by omega))
     have hr1:(r.length:Int)+1>0:=by omega
     cases hs:Zht line c none false (q::r) with
     | none =>
       rw [hs] at HR
       rw [hs] at SA
       clear hs hln
       go_enter Tryz.func28,Tryz.ntmps28
       go_wp2_with (first
        | (go_at_call 56;refine PI.out.mono ?_;rintro e w2 ⟨⟨pp,cc,rfl,hrow⟩,hg⟩;have G2:=Hq hg;have S2:=Hq (Zcb HS.out hg);have HC:=Hq (Znv hrow);have PT:=Hq (Zsd hrow);obtain ⟨c7,z7,hlt⟩:=Zef S2.out;have QQ:=Hq (Znq (pend' := .nilIface) S2.out);clear hg hrow)
        | (go_at_call 57;refine (SA.out _ _ _ QQ.out.1 (Zak PT.out (Zea S2.out QQ.out.2)) HC.out).mono ?_;rintro e w4 ⟨rfl,hf4,hg4⟩;have F4:=Hq hf4;have G4:=Hq hg4;clear hf4 hg4)
        | (go_at_call 58;refine (IS.out _).mono ?_;rintro e w3 ⟨rfl,rfl⟩))
       go_ret
       rw [HR.out]
       exact ⟨rfl,Zz (Xg G2.out) (Zz (Zea S2.out QQ.out.2) F4.out),G4.out⟩
     | some r9 =>
       obtain ⟨c',x'⟩:=r9
       rw [hs] at HR
       rw [hs] at SA
       clear hs hln
       cases x' with
       | none =>
         go_enter Tryz.func28,Tryz.ntmps28
         go_wp2_with (first
          | (go_at_call 56;refine PI.out.mono ?_;rintro e w2 ⟨⟨pp,cc,rfl,hrow⟩,hg⟩;have G2:=Hq hg;have S2:=Hq (Zcb HS.out hg);have HC:=Hq (Znv hrow);have PT:=Hq (Zsd hrow);obtain ⟨c7,z7,hlt⟩:=Zef S2.out;have QQ:=Hq (Znq (pend' := .nilIface) S2.out);clear hg hrow)
          | (go_at_call 57;refine (SA.out _ _ _ QQ.out.1 (Zak PT.out (Zea S2.out QQ.out.2)) HC.out).mono ?_;rintro e w4 ⟨⟨rfl,hps4⟩,hf4,hg4⟩;have F4:=Hq hf4;have G4:=Hq hg4;have S4:=Hq hps4;obtain ⟨k7,-,hlt4⟩:=Zef S4.out;simp only [Zgw] at k7;clear hf4 hg4 hps4)
          | (go_at_call 58;refine (IN.out _).mono ?_;rintro e w3 ⟨rfl,rfl⟩))
         go_ret
         rw [HR.out]
         exact ⟨⟨rfl,Zkv S4.out (by simp only [List.length_cons] at *;omega)⟩,Zz (Xg G2.out) (Zz (Zea S2.out QQ.out.2) F4.out),G4.out⟩
       | some y =>
         go_enter Tryz.func28,Tryz.ntmps28
         go_wp2_with (first
          | (go_at_call 56;refine PI.out.mono ?_;rintro e w2 ⟨⟨pp,cc,rfl,hrow⟩,hg⟩;have G2:=Hq hg;have S2:=Hq (Zcb HS.out hg);have HC:=Hq (Znv hrow);have PT:=Hq (Zsd hrow);obtain ⟨c7,z7,hlt⟩:=Zef S2.out;have QQ:=Hq (Znq (pend' := .nilIface) S2.out);clear hg hrow)
          | (go_at_call 57;refine (SA.out _ _ _ QQ.out.1 (Zak PT.out (Zea S2.out QQ.out.2)) HC.out).mono ?_;rintro e w4 ⟨⟨rfl,hps4⟩,hf4,hg4⟩;have F4:=Hq hf4;have G4:=Hq hg4;have S4:=Hq hps4;obtain ⟨k7,-,hlt4⟩:=Zef S4.out;simp only [Zgw] at k7;clear hf4 hg4 hps4)
          | (go_at_call 58;refine (IN.out _).mono ?_;rintro e w3 ⟨rfl,rfl⟩))
         go_ret
         rw [HR.out]
         exact ⟨rfl,Zz (Xg G2.out) (Zz (Zea S2.out QQ.out.2) F4.out),G4.out⟩
theorem Zlp:∀ (l:List (Int × Int)) (k:Nat) (a d0 d:Int),l[k]? = some (a,d0)->(Xh l).set (k*2+1) (.int .i64 d)=Xh (l.set k (a,d))
 | [],k,a,d0,d,h=>by simp at h
 | x::r,0,a,d0,d,h=>by simp at h;subst h;simp [Xh]
 | x::r,k+1,a,d0,d,h=>by
   have ih:=Zlp r k a d0 d (by simpa using h)
   have e:(k+1)*2+1=(k*2+1)+1+1:=by omega
   rw [e]
   simp only [Xh,List.set_cons_succ,ih]
def Zsy (c:CS) (b:BlP):Option Int:=if b.call then c.fm b.word else (c.lm.getD b.fn.toNat fun _=>none) b.word
def Zhe (c:CS):List FnR->List BlP->Except Int (List FnR)
 | fs,[] => .ok fs
 | fs,b::r=>match Zsy c b with
   | none => .error b.line
   | some n=>Zhe c (Zpl fs b.fn.toNat b.pl.toNat n) r
def Zew (c:CS):Prop:=∀ b∈c.blk,∃ kf kp:Nat,∃ f,b.fn=kf/\b.pl=kp/\c.funcs[kf]? = some f/\kp<f.2.2.2.length/\b.word.length<=1000000
theorem Yfi {fs:List FnR} {kf kp:Nat} {a l r o x n:Int} {code:List (Int × Int)} (h:fs[kf]? = some (a,l,r,code)) (hp:code[kp]? = some (o,x)):Zpl fs kf kp n=fs.set kf (a,l,r,code.set kp (o,n)):=by
 unfold Zpl
 simp only [h,hp]
theorem Zwp (fs:List FnR) (kf kp:Nat) (n:Int):(Zpl fs kf kp n).length=fs.length:=by
 unfold Zpl
 split <;> simp
theorem Zub {w0 w:World} {p m kf kp gC cC:Nat} {c:CS} {pend vd vF vL vB:Value} {bm:Nat} {cv:List Value} {lb:List Nat} {a l r n:Int} {code:List (Int × Int)} (h:Zjb w0 w p m c pend vd vF vL vB bm cv lb)
 (hf:c.funcs[kf]? = some (a,l,r,code)) (hv:cv[kf]? = some (.slice (some ⟨gC,0,none⟩) code.length cC)) (hp:kp<code.length) :
 Zjb w0 (w.setCell ⟨gC,kp*2+1,none⟩ (.int .i64 n)) p m { c with funcs:=Zpl c.funcs kf kp n } pend vd vF vL vB bm cv lb/\Fr w (w.setCell ⟨gC,kp*2+1,none⟩ (.int .i64 n)):=by
 have I:=h.ins
 have ho:=I.own.each kf _ _ hf hv
 obtain ⟨⟨o,x⟩,hpx⟩:∃ z,code[kp]? = some z:=⟨_,List.getElem?_eq_getElem hp⟩
 rw [Yfi hf hpx]
 have hil:=(List.getElem?_eq_some_iff.1 hf).1
 obtain ⟨s1,g⟩:=ho.stored (kp*2+1) (.int .i64 n)
 simp only [] at s1
 rw [Zlp code kp o x n hpx] at s1
 have row:∀ {t:TypeId} {sz n':Nat} {v2:Value} {xs:List Value},w.ownsRow w0.heap.size t sz v2 n' xs->t≠58->(w.setCell ⟨gC,kp*2+1,none⟩ (.int .i64 n)).ownsRow w0.heap.size t sz v2 n' xs:=fun ho' t1=>ho'.kept g (Zh ho' ho t1)
 have map:∀ {b m':Nat} {f':Txt->Option Int},Zhs w b m' f'->Zhs (w.setCell ⟨gC,kp*2+1,none⟩ (.int .i64 n)) b m' f':=fun hm=>Yu hm g (Xf hm ho)
 have hb:=Zf h.box g (Zn ho h.box (by decide))
 have hfl:Yv c.funcs cv=Yv (c.funcs.set kf (a,l,r,code.set kp (o,n))) cv:=by
  refine Zhp _ _ _ (by simp) fun j a' b' ha hb => ?_
  by_cases e:j=kf
  · subst e
    rw [hf] at ha
    rw [List.getElem?_set_self hil] at hb
    injection ha with ha;injection hb with hb
    subst ha;subst hb
    exact ⟨rfl,rfl,rfl⟩
  · rw [List.getElem?_set_ne (Ne.symm e)] at hb
    rw [ha] at hb
    injection hb with hb
    subst hb
    exact ⟨rfl,rfl,rfl⟩
 refine ⟨⟨?_,h.ge,hb,⟨⟨row I.own.dt (by decide),by simp only [List.length_set];rw [<- hfl];exact row I.own.fr (by decide),by simp only [List.length_set];exact I.own.cl,fun j f v hj hjv => ?_,I.own.dis⟩,map I.fm,I.fmE,row I.lrow (by decide),I.len1,fun j b f' hj hf'=>⟨map (I.each j b f' hj hf').1,(I.each j b f' hj hf').2⟩,I.dis,I.apart,row I.brow (by decide),I.z1,by simp only [List.length_set];exact I.z2,fun q hq => ?_,I.z4⟩,by simp only [List.length_set];exact h.lens⟩,Zos ho (by decide) g⟩
 · exact Yf h.gr g (fun b hb=>(World.ownsRow.lt ho b hb).1)
 · by_cases e:j=kf
   · subst e
     rw [List.getElem?_set_self hil] at hj
     injection hj with hj
     rw [hv] at hjv
     injection hjv with hjv
     subst hj;subst hjv
     simp only [List.length_set]
     exact s1
   · rw [List.getElem?_set_ne (Ne.symm e)] at hj
     have h1:=I.own.each j f v hj hjv
     refine h1.kept g ?_
     cases hb:v.ownBlock with
     | none=>exact Or.inl rfl
     | some q=>exact Or.inr (fun e2=>I.own.dis j kf v _ q e hjv hv hb e2.symm)
 · rcases List.mem_or_eq_of_mem_set hq with hq|hq
   · exact I.z3 q hq
   · subst hq
     have:=I.z3 _ (List.mem_of_getElem? hf)
     simp only [List.length_set];exact this
theorem Yjn:∀ (l:List BlP) (i:Nat) (x:BlP),l[i]? = some x->(blV l)[i*5]? = some (.int .i64 x.line)/\(blV l)[i*5+1]? = some (.int .i64 x.fn)/\(blV l)[i*5+2]? = some (.int .i64 x.pl)/\(blV l)[i*5+3]? = some (.string (bs x.word))/\(blV l)[i*5+4]? = some (.bool x.call)
 | [],i,x,h=>by simp at h
 | y::r,0,x,h=>by simp at h;subst h;simp [blV,bl5]
 | y::r,i+1,x,h=>by
   obtain ⟨h0,h1,h2,h3,h4⟩:=Yjn r i x (by simpa using h)
   have e:(i+1)*5=i*5+1+1+1+1+1:=by omega
   rw [e]
   simp only [blV,bl5,List.cons_append,List.nil_append]
   exact ⟨by simpa using h0,by simpa using h1,by simpa using h2,by simpa using h3,by simpa using h4⟩
def Zvx (fs gs:List FnR):Prop:=fs.length=gs.length/\∀ (i:Nat) (f g:FnR),fs[i]? = some f->gs[i]? = some g->f.2.2.2.length=g.2.2.2.length
theorem Znm (fs:List FnR):Zvx fs fs:=⟨rfl,fun i f g hf hg=>by rw [hf] at hg;injection hg with hg;rw [hg]⟩
theorem Zfo {fs gs:List FnR} (h:Zvx fs gs) (kf kp:Nat) (n:Int):Zvx fs (Zpl gs kf kp n):=by
 refine ⟨by rw [Zwp];exact h.1,fun i f g hf hg => ?_⟩
 unfold Zpl at hg
 split at hg
 · exact h.2 i f g hf hg
 · rename_i x hx
   by_cases e:i=kf
   · subst e
     rw [List.getElem?_set_self (List.getElem?_eq_some_iff.1 hx).1] at hg
     injection hg with hg
     subst hg
     have:=h.2 i f x hf hx
     simp only []
     split <;> simp [this]
   · rw [List.getElem?_set_ne (Ne.symm e)] at hg
     exact h.2 i f g hf hg
def Yoo (w0 w:World) (p m:Nat) (c:CS) (r:Except Int (List FnR)) (e:Ending) (w':World):Prop :=
 (match r with
   | .ok fs=>e = .returned .nilIface/\∃ pend,PS w0 w' p m { c with funcs:=fs } pend
   | .error n=>∃ a,e = .returned (.iface 62 (.pointer (some ⟨a,0,none⟩)))/\w0.heap.size<=a/\w'.heap[a]? = some (.cells #[.int .i64 n,Zwf 142] 64 (0,0)))/\w0.grownBy w' none
theorem Zrd {c:CS} {fs:List FnR} {b:BlP} {r:List BlP} {n:Int} (h:Zsy c b=some n):Zhe c fs (b::r)=Zhe c (Zpl fs b.fn.toNat b.pl.toNat n) r:=by
 rw [Zhe]
 simp only [h]
theorem Zre {c:CS} {fs:List FnR} {b:BlP} {r:List BlP} (h:Zsy c b=none):Zhe c fs (b::r) = .error b.line:=by
 rw [Zhe]
 simp only [h]
def fi6:Nat->Nat
 | 0=>24
 | 1=>25
 | 2=>26
 | 3=>27
 | 4=>28
 | 5=>29
 | 6=>30
 | 7=>31
 | 8=>5
 | _=>5000
theorem Zie:∀ i,i<9->∀ j,j<9->j≠i->fi6 j≠fi6 i:=by decide
theorem Yvo (i:Nat) (h:i<9):i=0\/i=1\/i=2\/i=3\/i=4\/i=5\/i=6\/i=7\/i=8:=by omega
theorem Yit (j:Nat) (hj:j∈[0,4]):∀ i,i<9->fi6 i≠j:=by revert j;decide
def Yis (p b4 kf gL nL cL bq:Nat):Nat->Value
 | 0 => .pointer (some ⟨p,0,none⟩)
 | 1 => .pointer (some ⟨p,0,none⟩)
 | 2 => .pointer (some ⟨p,5,none⟩)
 | 3 => .slice (some ⟨gL,0,none⟩) nL cL
 | 4 => .pointer (some ⟨b4,1,none⟩)
 | 5 => .int .i64 (kf:Int)
 | 6 => .pointer (some ⟨gL,kf,none⟩)
 | 7 => .map (some bq)
 | 8 => .map (some bq)
 | _=>undef
def Yyk (p b4 kf gL nL cL bq:Nat)  : Nat->World->Prop
 | _=>fun _=>True
def Yth:Nat->Nat
 | 0=>47
 | 1=>48
 | 2=>49
 | 3=>50
 | 4=>51
 | 5=>52
 | 6=>53
 | 7=>54
 | 8=>55
 | 9=>56
 | 10=>57
 | 11=>58
 | 12=>59
 | 13=>60
 | 14=>61
 | 15=>1015
 | _=>5000
theorem Xd:∀ i,i<16->∀ j,j<16->j≠i->Yth j≠Yth i:=by decide
theorem Yiu (i:Nat) (h:i<16):i=0\/i=1\/i=2\/i=3\/i=4\/i=5\/i=6\/i=7\/i=8\/i=9\/i=10\/i=11\/i=12\/i=13\/i=14\/i=15:=by omega
theorem Zek (j:Nat) (hj:j∈[0,4,6]):∀ i,i<16->Yth i≠j:=by revert j;decide
def Zbf (p b4 kf kp gF nF cF gC lc cC:Nat) (nv:Int):Nat->Value
 | 0 => .pointer (some ⟨p,0,none⟩)
 | 1 => .pointer (some ⟨p,0,none⟩)
 | 2 => .pointer (some ⟨p,0,none⟩)
 | 3 => .pointer (some ⟨p,2,none⟩)
 | 4 => .slice (some ⟨gF,0,none⟩) nF cF
 | 5 => .pointer (some ⟨b4,1,none⟩)
 | 6 => .int .i64 (kf:Int)
 | 7 => .pointer (some ⟨gF,kf*4,none⟩)
 | 8 => .pointer (some ⟨gF,kf*4+3,none⟩)
 | 9 => .slice (some ⟨gC,0,none⟩) lc cC
 | 10 => .pointer (some ⟨b4,2,none⟩)
 | 11 => .int .i64 (kp:Int)
 | 12 => .int .i64 nv
 | 13 => .pointer (some ⟨gC,kp*2,none⟩)
 | 14 => .pointer (some ⟨gC,kp*2+1,none⟩)
 | 15=>undef
 | _=>undef
def Ynv (p b4 kf kp gF nF cF gC lc cC:Nat) (nv:Int)  : Nat->World->Prop
 | _=>fun _=>True
theorem Ynu (w0 w:World) (p m:Nat) (c:CS) (pend:Value) (h:PS w0 w p m c pend) (hok:Zew c) (hm:m<=1000000) :
 Calls Tryz.prog 29 #[.pointer (some ⟨p,0,none⟩)] w (Yoo w0 w p m c (Zhe c c.funcs c.blk)):=by
 obtain ⟨vd,vF,vL,vB,bm,cv,lb,hA⟩:=h
 obtain ⟨pB,cB,hvB⟩:=Zi hA.ins.brow
 obtain ⟨pF,cF,hvF⟩:=Zi hA.ins.own.fr
 obtain ⟨pL,cL,hvL⟩:=Zi hA.ins.lrow
 subst hvB;subst hvF;subst hvL
 have A0:=Hq hA
 have BO:=Hq hok
 have c6:=Cq w p 6 _ _ _ hA.box
 have hlt:p<w.heap.size:=(Gs hA.box)
 have hz4:=hA.ins.z4
 obtain ⟨R,hR⟩:∃ R,Zhe c c.funcs c.blk=R:=⟨_,rfl⟩
 have HR:=Hq hR
 rw [hR]
 have hbl:(c.blk.length:Int)<=1000000:=by omega
 clear hA hok hR
 go_enter Tryz.func29,Tryz.ntmps29
 go_wp2
 go_loopw [13] (fun i wr=>∃ (k:Nat) (fs:List FnR),i = .int .i64 k/\k<=c.blk.length/\Zhe c fs (c.blk.drop k)=R/\Zvx c.funcs fs/\Zjb w0 wr p m { c with funcs:=fs } pend vd (.slice pF c.funcs.length cF) (.slice pL lb.length cL) (.slice pB c.blk.length cB) bm cv lb) (fun i _=>c.blk.length - (intOf i).toNat)
 case atStart=>exact ⟨0,c.funcs,rfl,Nat.zero_le _,HR.out,Znm _,A0.out⟩
 case round =>
  obtain ⟨k,fs,rfl,hk,hf,hs,hA⟩:=hrel
  have AR:=Hq hA
  have FR:=Hq hf
  have SS:=Hq hs
  clear hA hf hs
  by_cases hkl:k<c.blk.length
  · obtain ⟨⟨bline,bfn,bpl,bw,bc⟩,hb⟩:∃ b,c.blk[k]? = some b:=⟨_,List.getElem?_eq_getElem hkl⟩
    obtain ⟨kf,kp,f0,e1,e2,hf0,hkp,hbw⟩:=BO.out _ (List.mem_of_getElem? hb)
    simp only [] at e1 e2 hbw
    subst e1;subst e2
    have hdr:c.blk.drop k=⟨bline,kf,kp,bw,bc⟩::c.blk.drop (k+1):=by rw [List.drop_eq_getElem_cons hkl];congr 1;exact (List.getElem?_eq_some_iff.1 hb).2
    obtain ⟨y0,y1,y2,y3,y4⟩:=Yjn c.blk k _ hb
    simp only [] at y0 y1 y2 y3 y4
    obtain ⟨gB,cB',hvB,hgB,hcB⟩:=Zv AR.out.ins.brow (by show 0<c.blk.length;omega)
    injection hvB with hvB h91 h92;clear h91 h92
    subst hvB
    have x0:=hcB _ _ y0 (by show k*5<c.blk.length*5;omega)
    have x1:=hcB _ _ y1 (by show k*5+1<c.blk.length*5;omega)
    have x2:=hcB _ _ y2 (by show k*5+2<c.blk.length*5;omega)
    have x3:=hcB _ _ y3 (by show k*5+3<c.blk.length*5;omega)
    have x4:=hcB _ _ y4 (by show k*5+4<c.blk.length*5;omega)
    have c4:=Cq wr p 4 _ _ _ AR.out.box
    have hltr:p<wr.heap.size:=(Gs AR.out.box)
    have hkf:kf<c.funcs.length:=(List.getElem?_eq_some_iff.1 hf0).1
    have HF0:=Hq hf0
    have FD:=Hq (show Zhe c fs (⟨bline,kf,kp,bw,bc⟩::c.blk.drop (k+1))=R by rw [<- hdr];exact FR.out)
    clear hcB y0 y1 y2 y3 y4 hb hdr hf0
    cases bc with
    | true =>
      have hfd:Zsy c ⟨bline,kf,kp,bw,true⟩=c.fm bw:=rfl
      go_upto_region 7 with fail
      have AQ:=Hq (Xp AR.out (Ga wr (.cells #[.int .i64 bline,.int .i64 kf,.int .i64 kp,.string (bs bw),.bool true] 131) none))
      have HB4:=heap_alloc_new wr (.cells #[.int .i64 bline,.int .i64 kf,.int .i64 kp,.string (bs bw),.bool true] 131)
      generalize wr.alloc (.cells #[.int .i64 bline,.int .i64 kf,.int .i64 kp,.string (bs bw),.bool true] 131)=w4 at *
      generalize wr.heap.size=b4 at *
      have hmok:=Zsm AQ.out.ins.fm bw hbw
      simp only [] at hmok
      clear c4 x0 x1 x2 x3 x4
      have y0:=Cq w4 b4 0 _ _ _ HB4
      have y1:=Cq w4 b4 1 _ _ _ HB4
      have y2:=Cq w4 b4 2 _ _ _ HB4
      have y3:=Cq w4 b4 3 _ _ _ HB4
      have hb4:b4<w4.heap.size:=(Gs HB4)
      have hlt4:p<w4.heap.size:=(Gs AQ.out.box)
      obtain ⟨q,hq⟩:∃ q,Zsy c ⟨bline,kf,kp,bw,true⟩=q:=⟨_,rfl⟩
      rw [<- hfd,hq] at hmok
      cases q with
      | none =>
        have HE:=Hq (FD.out.symm.trans (Zre hq))
        simp only [Option.getD_none,Option.isSome_none] at hmok
        clear hq hfd
        go_wp2
        go_ret
        rw [HE.out]
        exact ⟨⟨_,rfl,AQ.out.gr.size,heap_alloc_new w4 _⟩,Za AQ.out.gr (Ga _ _ none)⟩
      | some nv =>
        have HE:=Hq ((Zrd hq).symm.trans FD.out)
        simp only [Option.getD_some,Option.isSome_some] at hmok
        clear hq hfd
        go_upto_region 10 with fail
        (try rename_i K10 hK10)
        obtain ⟨⟨fa,fl,fr,code⟩,hfs⟩:∃ f,fs[kf]? = some f:=⟨_,List.getElem?_eq_getElem (by rw [<- SS.out.1];exact hkf)⟩
        have hcode:kp<code.length:=by have:=SS.out.2 kf _ _ HF0.out hfs;simp only [] at this;omega
        obtain ⟨vc,hvc⟩:∃ v,cv[kf]? = some v:=⟨_,List.getElem?_eq_getElem (by rw [AQ.out.ins.own.cl];show kf<fs.length;rw [<- SS.out.1];exact hkf)⟩
        have hoc:=AQ.out.ins.own.each kf _ vc hfs hvc
        obtain ⟨gC,cC,hvC,hgC,hcC⟩:=Zv hoc (by simp only [];omega)
        simp only [] at hvC
        subst hvC
        obtain ⟨gF,cF',hvF,hgF,hcF⟩:=Zv AQ.out.ins.own.fr (by show 0<fs.length;rw [<- SS.out.1];omega)
        injection hvF with hvF h91 h92;clear h91 h92
        subst hvF
        obtain ⟨-,-,-,q3⟩:=Zad fs cv kf _ _ hfs hvc
        have f3:=hcF _ _ q3 (by show kf*4+3<fs.length*4;rw [<- SS.out.1];omega)
        obtain ⟨⟨o9,a9⟩,hcp⟩:∃ z,code[kp]? = some z:=⟨_,List.getElem?_eq_getElem hcode⟩
        obtain ⟨-,k3⟩:=Zfg code kp o9 a9 hcp
        have f4:=hcC _ _ k3 (by simp only [];omega)
        have z4:=Zbe hoc (kp*2+1)
        have c2:=Cq w4 p 2 _ _ _ AQ.out.box
        have HP:=Hq (Zub (n:=nv) (Xp AQ.out (Ze (Zb w4 none))) hfs hvc hcode)
        clear hcF hcC q3 k3 hoc
        refine Yd (n:=16) (J:=fun a0 l a1 w1=>RJ a0 63 16 Yth (Zbf p b4 kf kp gF c.funcs.length cF gC code.length cC nv ) l a1/\Zas 15 16 0 [(1,0),(2,1),(3,2),(4,3),(6,5),(7,4),(7,6),(8,7),(9,8),(11,10),(13,9),(13,11),(14,13),(15,14),(15,12)] [] (fun w9=>w9=w4.drew) (fun _=>True) (Ynv p b4 kf kp gF c.funcs.length cF gC code.length cC nv ) (fun w9=>w9=w4.drew.setCell ⟨gC,kp*2+1,none⟩ (.int .i64 nv)) l w1) (by kernel_rfl) rfl (Yt (by kernel_rfl)) (fun l a1 w1 h=>by obtain ⟨h,_⟩:=h;exact h.sz) ⟨Yc rfl,Zu (rfl) (True.intro)⟩ ?step ?fin
        case step =>
         intro l a1 w' i hJJ hi hin
         obtain ⟨hJ,hW⟩:=hJJ
         have hun:l.getD i false=false:=getD_both (mem_ready.1 hi).1
         have hns:=Xe hW hin hun
         have hg:=hW.g hns
         have l0:p<w'.heap.size:=by rw [hg];exact hlt4
         have l1:b4<w'.heap.size:=by rw [hg];exact hb4
         have l2:gF<w'.heap.size:=by rw [hg];exact hgF
         have l3:gC<w'.heap.size:=by rw [hg];exact hgC
         rcases Yiu i hin with rfl|rfl|rfl|rfl|rfl|rfl|rfl|rfl|rfl|rfl|rfl|rfl|rfl|rfl|rfl|rfl
         · have e0:a1.tmps.getD 0 undef = .pointer (some ⟨p,0,none⟩):=hJ.un 0 (fun i hi _=>Zek 0 (by decide) i hi)
           exact Zd hJ hW hi hun (hne:=Xd _ (by decide)) (hrun:=by simp [execOp,Act.eval,e0,go_sem,Zbf])
         · have e47:a1.tmps.getD 47 undef = .pointer (some ⟨p,0,none⟩):=rjt hJ hi 0
           exact Zd hJ hW hi hun (hne:=Xd _ (by decide)) (hrun:=by simp [execOp,Act.eval,e47,go_sem,Zbf])
         · have e48:a1.tmps.getD 48 undef = .pointer (some ⟨p,0,none⟩):=rjt hJ hi 1
           exact Zd hJ hW hi hun (hne:=Xd _ (by decide)) (hrun:=by simp [execOp,Act.eval,e48,go_sem,Zbf])
         · have e49:a1.tmps.getD 49 undef = .pointer (some ⟨p,0,none⟩):=rjt hJ hi 2
           exact Zd hJ hW hi hun (hne:=Xd _ (by decide)) (hrun:=by simp [execOp,Act.eval,e49,go_sem,Zbf])
         · have e50:a1.tmps.getD 50 undef = .pointer (some ⟨p,2,none⟩):=rjt hJ hi 3
           have h0:=Xy c2 hg
           exact Zd hJ hW hi hun (hne:=Xd _ (by decide)) (hrun:=by simp [execOp,Act.eval,e50,h0,l0,l1,l2,l3,go_sem,Zbf])
         · have e4:a1.tmps.getD 4 undef = .pointer (some ⟨b4,0,none⟩):=hJ.un 4 (fun i hi _=>Zek 4 (by decide) i hi)
           exact Zd hJ hW hi hun (hne:=Xd _ (by decide)) (hrun:=by simp [execOp,Act.eval,e4,go_sem,Zbf])
         · have e52:a1.tmps.getD 52 undef = .pointer (some ⟨b4,1,none⟩):=rjt hJ hi 5
           have h0:=Xy y1 hg
           exact Zd hJ hW hi hun (hne:=Xd _ (by decide)) (hrun:=by simp [execOp,Act.eval,e52,h0,l0,l1,l2,l3,go_sem,Zbf])
         · have e51:a1.tmps.getD 51 undef = .slice (some ⟨gF,0,none⟩) c.funcs.length cF:=rjt hJ hi 4
           have e53:a1.tmps.getD 53 undef = .int .i64 (kf:Int):=rjt hJ hi 6
           exact Zd hJ hW hi hun (hne:=Xd _ (by decide)) (hrun:=by simp [execOp,Act.eval,e51,e53,l0,l1,l2,l3,go_sem,Zbf] <;> (intros;omega))
         · have e54:a1.tmps.getD 54 undef = .pointer (some ⟨gF,kf*4,none⟩):=rjt hJ hi 7
           exact Zd hJ hW hi hun (hne:=Xd _ (by decide)) (hrun:=by simp [execOp,Act.eval,e54,go_sem,Zbf])
         · have e55:a1.tmps.getD 55 undef = .pointer (some ⟨gF,kf*4+3,none⟩):=rjt hJ hi 8
           have h0:=Xy f3 hg
           exact Zd hJ hW hi hun (hne:=Xd _ (by decide)) (hrun:=by simp [execOp,Act.eval,e55,h0,l0,l1,l2,l3,go_sem,Zbf])
         · have e4:a1.tmps.getD 4 undef = .pointer (some ⟨b4,0,none⟩):=hJ.un 4 (fun i hi _=>Zek 4 (by decide) i hi)
           exact Zd hJ hW hi hun (hne:=Xd _ (by decide)) (hrun:=by simp [execOp,Act.eval,e4,go_sem,Zbf])
         · have e57:a1.tmps.getD 57 undef = .pointer (some ⟨b4,2,none⟩):=rjt hJ hi 10
           have h0:=Xy y2 hg
           exact Zd hJ hW hi hun (hne:=Xd _ (by decide)) (hrun:=by simp [execOp,Act.eval,e57,h0,l0,l1,l2,l3,go_sem,Zbf])
         · have e6:a1.tmps.getD 6 undef = .int .i64 nv:=hJ.un 6 (fun i hi _=>Zek 6 (by decide) i hi)
           exact Zd hJ hW hi hun (hne:=Xd _ (by decide)) (hrun:=by simp [execOp,Act.eval,e6,l0,l1,l2,l3,go_sem,Zbf])
         · have e56:a1.tmps.getD 56 undef = .slice (some ⟨gC,0,none⟩) code.length cC:=rjt hJ hi 9
           have e58:a1.tmps.getD 58 undef = .int .i64 (kp:Int):=rjt hJ hi 11
           exact Zd hJ hW hi hun (hne:=Xd _ (by decide)) (hrun:=by simp [execOp,Act.eval,e56,e58,l0,l1,l2,l3,go_sem,Zbf] <;> (intros;omega))
         · have e60:a1.tmps.getD 60 undef = .pointer (some ⟨gC,kp*2,none⟩):=rjt hJ hi 13
           exact Zd hJ hW hi hun (hne:=Xd _ (by decide)) (hrun:=by simp [execOp,Act.eval,e60,go_sem,Zbf])
         · have e61:a1.tmps.getD 61 undef = .pointer (some ⟨gC,kp*2+1,none⟩):=rjt hJ hi 14
           have e59:a1.tmps.getD 59 undef = .int .i64 nv:=rjt hJ hi 12
           have k1:=Xy f4 hg
           have j1:w'.frozen? ⟨gC,kp*2+1,none⟩=false:=by rw [hg];exact z4
           have lb2:gC<w'.heap.size:=by rw [hg];exact hgC
           have hall:∀ j,j<16->j≠15->l.getD j false=true:=Jp hi hW.cl (by kernel_rfl)
           exact Jo (WS:=fun l9 w9=>Zas 15 16 0 [(1,0),(2,1),(3,2),(4,3),(6,5),(7,4),(7,6),(8,7),(9,8),(11,10),(13,9),(13,11),(14,13),(15,14),(15,12)] [] (fun w9=>w9=w4.drew) (fun _=>True) (Ynv p b4 kf kp gF c.funcs.length cF gC code.length cC nv ) (fun w9=>w9=w4.drew.setCell ⟨gC,kp*2+1,none⟩ (.int .i64 nv)) l9 w9) hJ rfl rfl rfl (by decide) (by decide) (w':=w'.setCell ⟨gC,kp*2+1,none⟩ (.int .i64 nv)) (by simp [execOp,Act.eval,e61,e59,k1,j1,lb2,go_sem]) (Xa hW (by decide) (by decide) hall (Zg _ hi (by kernel_rfl)) (by rw [hg]))
        case fin =>
         intro l9 a1 w9 hJJ hl9
         obtain ⟨hJ,hW⟩:=hJJ
         have hq9:=hW.q (hl9 15 (by decide))
         have hput:=Ys hJ rfl hl9 (fun i j h1 h2 h3=>Xd j h2 i h1 h3)
         subst hput
         subst hq9
         clear hJ hW hl9 c2 f3 f4 y0 y1 y2 y3
         (try refine hK10 _ _ ?_)
         simp only [Ja,Yth,Zbf,Act.put,List.setIfInBounds_toArray,List.set_cons_zero,List.set_cons_succ]
         go_wp2
         go_roundw
         case rel=>exact ⟨k+1,Zpl fs kf kp nv,by go_num,by omega,HE.out,Zfo SS.out kf kp nv,HP.out.1⟩
         case measure=>simp [intOf];omega
    | false =>
      have hfd:Zsy c ⟨bline,kf,kp,bw,false⟩=(c.lm.getD kf fun _=>none) bw:=rfl
      go_upto_region 6 with fail
      have AQ0:=Hq (Xp AR.out (Ga wr (.cells #[.int .i64 bline,.int .i64 kf,.int .i64 kp,.string (bs bw),.bool false] 131) none))
      have HB0:=heap_alloc_new wr (.cells #[.int .i64 bline,.int .i64 kf,.int .i64 kp,.string (bs bw),.bool false] 131)
      generalize wr.alloc (.cells #[.int .i64 bline,.int .i64 kf,.int .i64 kp,.string (bs bw),.bool false] 131)=w3 at *
      generalize wr.heap.size=b4 at *
      clear c4 x0 x1 x2 x3 x4
      (try rename_i K6 hK6)
      have hlm:kf<c.lm.length:=by have:=AQ0.out.lens;have:=SS.out.1;simp only [] at *;omega
      have hlb:kf<lb.length:=by have:=AQ0.out.ins.len1;simp only [] at *;omega
      obtain ⟨bq,hbq⟩:∃ b,lb[kf]? = some b:=⟨_,List.getElem?_eq_getElem hlb⟩
      obtain ⟨fq,hfq⟩:∃ f,c.lm[kf]? = some f:=⟨_,List.getElem?_eq_getElem hlm⟩
      have hfd2:(c.lm.getD kf fun _=>none)=fq:=by rw [List.getD_eq_getElem?_getD,hfq];rfl
      rw [hfd2] at hfd
      have AQ:=Hq (Xp AQ0.out (Ze (Zb w3 none)))
      have HB4:=Zf HB0 (Ze (Zb w3 none)) (by simp)
      obtain ⟨gL,cL',hvL,hgL,hcL⟩:=Zv AQ0.out.ins.lrow (by omega)
      injection hvL with hvL h91 h92;clear h91 h92
      subst hvL
      have c5:=Cq w3 p 5 _ _ _ AQ0.out.box
      have e0:=hcL kf (.map (some bq)) (by rw [List.getElem?_map,hbq];rfl) (by omega)
      have x1:=Cq w3 b4 1 _ _ _ HB0
      have hlt3:p<w3.heap.size:=(Gs AQ0.out.box)
      have hb43:b4<w3.heap.size:=(Gs HB0)
      refine Yd (n:=9) (J:=fun a0 l a1 w1=>RJ a0 63 9 fi6 (Yis p b4 kf gL lb.length cL bq ) l a1/\Zas 9 9 0 [(1,0),(2,1),(3,2),(5,4),(6,3),(6,5),(7,6),(8,7)] [] (fun w9=>w9=w3.drew) (fun _=>True) (Yyk p b4 kf gL lb.length cL bq ) (fun _=>True) l w1) (by kernel_rfl) rfl (Yt (by kernel_rfl)) (fun l a1 w1 h=>by obtain ⟨h,_⟩:=h;exact h.sz) ⟨Yc rfl,Zu (rfl) (True.intro)⟩ ?step ?fin
      case step =>
       intro l a1 w' i hJJ hi hin
       obtain ⟨hJ,hW⟩:=hJJ
       have hun:l.getD i false=false:=getD_both (mem_ready.1 hi).1
       have hns:=Xe hW hin hun
       have hg:=hW.g hns
       have l0:p<w'.heap.size:=by rw [hg];exact hlt3
       have l1:b4<w'.heap.size:=by rw [hg];exact hb43
       have l2:gL<w'.heap.size:=by rw [hg];exact hgL
       rcases Yvo i hin with rfl|rfl|rfl|rfl|rfl|rfl|rfl|rfl|rfl
       · have e0:a1.tmps.getD 0 undef = .pointer (some ⟨p,0,none⟩):=hJ.un 0 (fun i hi _=>Yit 0 (by decide) i hi)
         exact Zd hJ hW hi hun (hne:=Zie _ (by decide)) (hrun:=by simp [execOp,Act.eval,e0,go_sem,Yis])
       · have e24:a1.tmps.getD 24 undef = .pointer (some ⟨p,0,none⟩):=rjt hJ hi 0
         exact Zd hJ hW hi hun (hne:=Zie _ (by decide)) (hrun:=by simp [execOp,Act.eval,e24,go_sem,Yis])
       · have e25:a1.tmps.getD 25 undef = .pointer (some ⟨p,0,none⟩):=rjt hJ hi 1
         exact Zd hJ hW hi hun (hne:=Zie _ (by decide)) (hrun:=by simp [execOp,Act.eval,e25,go_sem,Yis])
       · have e26:a1.tmps.getD 26 undef = .pointer (some ⟨p,5,none⟩):=rjt hJ hi 2
         have h0:=Xy c5 hg
         exact Zd hJ hW hi hun (hne:=Zie _ (by decide)) (hrun:=by simp [execOp,Act.eval,e26,h0,l0,l1,l2,go_sem,Yis])
       · have e4:a1.tmps.getD 4 undef = .pointer (some ⟨b4,0,none⟩):=hJ.un 4 (fun i hi _=>Yit 4 (by decide) i hi)
         exact Zd hJ hW hi hun (hne:=Zie _ (by decide)) (hrun:=by simp [execOp,Act.eval,e4,go_sem,Yis])
       · have e28:a1.tmps.getD 28 undef = .pointer (some ⟨b4,1,none⟩):=rjt hJ hi 4
         have h0:=Xy x1 hg
         exact Zd hJ hW hi hun (hne:=Zie _ (by decide)) (hrun:=by simp [execOp,Act.eval,e28,h0,l0,l1,l2,go_sem,Yis])
       · have e27:a1.tmps.getD 27 undef = .slice (some ⟨gL,0,none⟩) lb.length cL:=rjt hJ hi 3
         have e29:a1.tmps.getD 29 undef = .int .i64 (kf:Int):=rjt hJ hi 5
         exact Zd hJ hW hi hun (hne:=Zie _ (by decide)) (hrun:=by simp [execOp,Act.eval,e27,e29,l0,l1,l2,go_sem,Yis] <;> (intros;omega))
       · have e30:a1.tmps.getD 30 undef = .pointer (some ⟨gL,kf,none⟩):=rjt hJ hi 6
         have h0:=Xy e0 hg
         exact Zd hJ hW hi hun (hne:=Zie _ (by decide)) (hrun:=by simp [execOp,Act.eval,e30,h0,l0,l1,l2,go_sem,Yis])
       · have e31:a1.tmps.getD 31 undef = .map (some bq):=rjt hJ hi 7
         exact Zd hJ hW hi hun (hne:=Zie _ (by decide)) (hrun:=by simp [execOp,Act.eval,e31,l0,l1,l2,go_sem,Yis])
      case fin =>
       intro l9 a1 w4 hJJ hl9
       obtain ⟨hJ,hW⟩:=hJJ
       have hq9:w4=w3.drew:=hW.g (Ju hW)
       have hput:=Ys hJ rfl hl9 (fun i j h1 h2 h3=>Zie j h2 i h1 h3)
       subst hput
       rw [<- hq9] at AQ HB4
       clear hJ hW hl9 c5 e0 x1 HB0 hcL
       (try refine hK6 _ _ ?_)
       simp only [Ja,fi6,Yis,Act.put,List.setIfInBounds_toArray,List.set_cons_zero,List.set_cons_succ]
       have hmok:=Zsm (AQ.out.ins.each kf bq fq hbq hfq).1 bw hbw
       clear hq9
       have y0:=Cq w4 b4 0 _ _ _ HB4
       have y1:=Cq w4 b4 1 _ _ _ HB4
       have y2:=Cq w4 b4 2 _ _ _ HB4
       have y3:=Cq w4 b4 3 _ _ _ HB4
       have hb4:b4<w4.heap.size:=(Gs HB4)
       have hlt4:p<w4.heap.size:=(Gs AQ.out.box)
       obtain ⟨q,hq⟩:∃ q,Zsy c ⟨bline,kf,kp,bw,false⟩=q:=⟨_,rfl⟩
       rw [<- hfd,hq] at hmok
       cases q with
       | none =>
         have HE:=Hq (FD.out.symm.trans (Zre hq))
         simp only [Option.getD_none,Option.isSome_none] at hmok
         clear hq hfd
         go_wp2
         go_ret
         rw [HE.out]
         exact ⟨⟨_,rfl,AQ.out.gr.size,heap_alloc_new w4 _⟩,Za AQ.out.gr (Ga _ _ none)⟩
       | some nv =>
         have HE:=Hq ((Zrd hq).symm.trans FD.out)
         simp only [Option.getD_some,Option.isSome_some] at hmok
         clear hq hfd
         go_upto_region 10 with fail
         (try rename_i K10 hK10)
         obtain ⟨⟨fa,fl,fr,code⟩,hfs⟩:∃ f,fs[kf]? = some f:=⟨_,List.getElem?_eq_getElem (by rw [<- SS.out.1];exact hkf)⟩
         have hcode:kp<code.length:=by have:=SS.out.2 kf _ _ HF0.out hfs;simp only [] at this;omega
         obtain ⟨vc,hvc⟩:∃ v,cv[kf]? = some v:=⟨_,List.getElem?_eq_getElem (by rw [AQ.out.ins.own.cl];show kf<fs.length;rw [<- SS.out.1];exact hkf)⟩
         have hoc:=AQ.out.ins.own.each kf _ vc hfs hvc
         obtain ⟨gC,cC,hvC,hgC,hcC⟩:=Zv hoc (by simp only [];omega)
         simp only [] at hvC
         subst hvC
         obtain ⟨gF,cF',hvF,hgF,hcF⟩:=Zv AQ.out.ins.own.fr (by show 0<fs.length;rw [<- SS.out.1];omega)
         injection hvF with hvF h91 h92;clear h91 h92
         subst hvF
         obtain ⟨-,-,-,q3⟩:=Zad fs cv kf _ _ hfs hvc
         have f3:=hcF _ _ q3 (by show kf*4+3<fs.length*4;rw [<- SS.out.1];omega)
         obtain ⟨⟨o9,a9⟩,hcp⟩:∃ z,code[kp]? = some z:=⟨_,List.getElem?_eq_getElem hcode⟩
         obtain ⟨-,k3⟩:=Zfg code kp o9 a9 hcp
         have f4:=hcC _ _ k3 (by simp only [];omega)
         have z4:=Zbe hoc (kp*2+1)
         have c2:=Cq w4 p 2 _ _ _ AQ.out.box
         have HP:=Hq (Zub (n:=nv) (Xp AQ.out (Ze (Zb w4 none))) hfs hvc hcode)
         clear hcF hcC q3 k3 hoc
         refine Yd (n:=16) (J:=fun a0 l a1 w1=>RJ a0 63 16 Yth (Zbf p b4 kf kp gF c.funcs.length cF gC code.length cC nv ) l a1/\Zas 15 16 0 [(1,0),(2,1),(3,2),(4,3),(6,5),(7,4),(7,6),(8,7),(9,8),(11,10),(13,9),(13,11),(14,13),(15,14),(15,12)] [] (fun w9=>w9=w4.drew) (fun _=>True) (Ynv p b4 kf kp gF c.funcs.length cF gC code.length cC nv ) (fun w9=>w9=w4.drew.setCell ⟨gC,kp*2+1,none⟩ (.int .i64 nv)) l w1) (by kernel_rfl) rfl (Yt (by kernel_rfl)) (fun l a1 w1 h=>by obtain ⟨h,_⟩:=h;exact h.sz) ⟨Yc rfl,Zu (rfl) (True.intro)⟩ ?step ?fin
         case step =>
          intro l a1 w' i hJJ hi hin
          obtain ⟨hJ,hW⟩:=hJJ
          have hun:l.getD i false=false:=getD_both (mem_ready.1 hi).1
          have hns:=Xe hW hin hun
          have hg:=hW.g hns
          have l0:p<w'.heap.size:=by rw [hg];exact hlt4
          have l1:b4<w'.heap.size:=by rw [hg];exact hb4
          have l2:gF<w'.heap.size:=by rw [hg];exact hgF
          have l3:gC<w'.heap.size:=by rw [hg];exact hgC
          rcases Yiu i hin with rfl|rfl|rfl|rfl|rfl|rfl|rfl|rfl|rfl|rfl|rfl|rfl|rfl|rfl|rfl|rfl
          · have e0:a1.tmps.getD 0 undef = .pointer (some ⟨p,0,none⟩):=hJ.un 0 (fun i hi _=>Zek 0 (by decide) i hi)
            exact Zd hJ hW hi hun (hne:=Xd _ (by decide)) (hrun:=by simp [execOp,Act.eval,e0,go_sem,Zbf])
          · have e47:a1.tmps.getD 47 undef = .pointer (some ⟨p,0,none⟩):=rjt hJ hi 0
            exact Zd hJ hW hi hun (hne:=Xd _ (by decide)) (hrun:=by simp [execOp,Act.eval,e47,go_sem,Zbf])
          · have e48:a1.tmps.getD 48 undef = .pointer (some ⟨p,0,none⟩):=rjt hJ hi 1
            exact Zd hJ hW hi hun (hne:=Xd _ (by decide)) (hrun:=by simp [execOp,Act.eval,e48,go_sem,Zbf])
          · have e49:a1.tmps.getD 49 undef = .pointer (some ⟨p,0,none⟩):=rjt hJ hi 2
            exact Zd hJ hW hi hun (hne:=Xd _ (by decide)) (hrun:=by simp [execOp,Act.eval,e49,go_sem,Zbf])
          · have e50:a1.tmps.getD 50 undef = .pointer (some ⟨p,2,none⟩):=rjt hJ hi 3
            have h0:=Xy c2 hg
            exact Zd hJ hW hi hun (hne:=Xd _ (by decide)) (hrun:=by simp [execOp,Act.eval,e50,h0,l0,l1,l2,l3,go_sem,Zbf])
          · have e4:a1.tmps.getD 4 undef = .pointer (some ⟨b4,0,none⟩):=hJ.un 4 (fun i hi _=>Zek 4 (by decide) i hi)
            exact Zd hJ hW hi hun (hne:=Xd _ (by decide)) (hrun:=by simp [execOp,Act.eval,e4,go_sem,Zbf])
          · have e52:a1.tmps.getD 52 undef = .pointer (some ⟨b4,1,none⟩):=rjt hJ hi 5
            have h0:=Xy y1 hg
            exact Zd hJ hW hi hun (hne:=Xd _ (by decide)) (hrun:=by simp [execOp,Act.eval,e52,h0,l0,l1,l2,l3,go_sem,Zbf])
          · have e51:a1.tmps.getD 51 undef = .slice (some ⟨gF,0,none⟩) c.funcs.length cF:=rjt hJ hi 4
            have e53:a1.tmps.getD 53 undef = .int .i64 (kf:Int):=rjt hJ hi 6
            exact Zd hJ hW hi hun (hne:=Xd _ (by decide)) (hrun:=by simp [execOp,Act.eval,e51,e53,l0,l1,l2,l3,go_sem,Zbf] <;> (intros;omega))
          · have e54:a1.tmps.getD 54 undef = .pointer (some ⟨gF,kf*4,none⟩):=rjt hJ hi 7
            exact Zd hJ hW hi hun (hne:=Xd _ (by decide)) (hrun:=by simp [execOp,Act.eval,e54,go_sem,Zbf])
          · have e55:a1.tmps.getD 55 undef = .pointer (some ⟨gF,kf*4+3,none⟩):=rjt hJ hi 8
            have h0:=Xy f3 hg
            exact Zd hJ hW hi hun (hne:=Xd _ (by decide)) (hrun:=by simp [execOp,Act.eval,e55,h0,l0,l1,l2,l3,go_sem,Zbf])
          · have e4:a1.tmps.getD 4 undef = .pointer (some ⟨b4,0,none⟩):=hJ.un 4 (fun i hi _=>Zek 4 (by decide) i hi)
            exact Zd hJ hW hi hun (hne:=Xd _ (by decide)) (hrun:=by simp [execOp,Act.eval,e4,go_sem,Zbf])
          · have e57:a1.tmps.getD 57 undef = .pointer (some ⟨b4,2,none⟩):=rjt hJ hi 10
            have h0:=Xy y2 hg
            exact Zd hJ hW hi hun (hne:=Xd _ (by decide)) (hrun:=by simp [execOp,Act.eval,e57,h0,l0,l1,l2,l3,go_sem,Zbf])
          · have e6:a1.tmps.getD 6 undef = .int .i64 nv:=hJ.un 6 (fun i hi _=>Zek 6 (by decide) i hi)
            exact Zd hJ hW hi hun (hne:=Xd _ (by decide)) (hrun:=by simp [execOp,Act.eval,e6,l0,l1,l2,l3,go_sem,Zbf])
          · have e56:a1.tmps.getD 56 undef = .slice (some ⟨gC,0,none⟩) code.length cC:=rjt hJ hi 9
            have e58:a1.tmps.getD 58 undef = .int .i64 (kp:Int):=rjt hJ hi 11
            exact Zd hJ hW hi hun (hne:=Xd _ (by decide)) (hrun:=by simp [execOp,Act.eval,e56,e58,l0,l1,l2,l3,go_sem,Zbf] <;> (intros;omega))
          · have e60:a1.tmps.getD 60 undef = .pointer (some ⟨gC,kp*2,none⟩):=rjt hJ hi 13
            exact Zd hJ hW hi hun (hne:=Xd _ (by decide)) (hrun:=by simp [execOp,Act.eval,e60,go_sem,Zbf])
          · have e61:a1.tmps.getD 61 undef = .pointer (some ⟨gC,kp*2+1,none⟩):=rjt hJ hi 14
            have e59:a1.tmps.getD 59 undef = .int .i64 nv:=rjt hJ hi 12
            have k1:=Xy f4 hg
            have j1:w'.frozen? ⟨gC,kp*2+1,none⟩=false:=by rw [hg];exact z4
            have lb2:gC<w'.heap.size:=by rw [hg];exact hgC
            have hall:∀ j,j<16->j≠15->l.getD j false=true:=Jp hi hW.cl (by kernel_rfl)
            exact Jo (WS:=fun l9 w9=>Zas 15 16 0 [(1,0),(2,1),(3,2),(4,3),(6,5),(7,4),(7,6),(8,7),(9,8),(11,10),(13,9),(13,11),(14,13),(15,14),(15,12)] [] (fun w9=>w9=w4.drew) (fun _=>True) (Ynv p b4 kf kp gF c.funcs.length cF gC code.length cC nv ) (fun w9=>w9=w4.drew.setCell ⟨gC,kp*2+1,none⟩ (.int .i64 nv)) l9 w9) hJ rfl rfl rfl (by decide) (by decide) (w':=w'.setCell ⟨gC,kp*2+1,none⟩ (.int .i64 nv)) (by simp [execOp,Act.eval,e61,e59,k1,j1,lb2,go_sem]) (Xa hW (by decide) (by decide) hall (Zg _ hi (by kernel_rfl)) (by rw [hg]))
         case fin =>
          intro l9 a1 w9 hJJ hl9
          obtain ⟨hJ,hW⟩:=hJJ
          have hq9:=hW.q (hl9 15 (by decide))
          have hput:=Ys hJ rfl hl9 (fun i j h1 h2 h3=>Xd j h2 i h1 h3)
          subst hput
          subst hq9
          clear hJ hW hl9 c2 f3 f4 y0 y1 y2 y3
          (try refine hK10 _ _ ?_)
          simp only [Ja,Yth,Zbf,Act.put,List.setIfInBounds_toArray,List.set_cons_zero,List.set_cons_succ]
          go_wp2
          go_roundw
          case rel=>exact ⟨k+1,Zpl fs kf kp nv,by go_num,by omega,HE.out,Zfo SS.out kf kp nv,HP.out.1⟩
          case measure=>simp [intOf];omega
  · have hkn:k=c.blk.length:=by omega
    subst hkn
    have HE:=Hq (show R = .ok fs by have:=FR.out;rw [List.drop_length] at this;exact this.symm)
    clear hkl
    go_wp2
    go_ret
    rw [HE.out]
    exact ⟨⟨rfl,_,Ywz AR.out⟩,AR.out.gr⟩
end Go.Proofs.YteciblfmgdlipaaGreatDoor.AS
