/-
  Part of a proof: contracts of functions and lemmas, each stated by its own theorem. Conditions: as each theorem states.
-/
import Derived.Test.YteciblfmgdlipaaGreatDoorMR08
import Derived.Test.YteciblfmgdlipaaGreatDoorMR06
import Derived.LaidEql
import Derived.Lib.IfaceEq
import Derived.WalkKit
set_option linter.unusedSimpArgs false
set_option linter.unusedVariables false
set_option maxRecDepth 100000
set_option maxHeartbeats 16000000
namespace Go.Proofs.YteciblfmgdlipaaGreatDoor.AS
open Go.RowKit Go.Great CK
def slen:Value->Nat
 | .slice _ n _=>n
 | _=>0
theorem Ymn {q:Pc} (h:pcK q=3):q = .colon:=by cases q <;> simp [pcK] at h;rfl
theorem Ziu {t u:Txt} (h:t=u):((bs t).toList == u)=true:=by rw [Zep];exact beq_iff_eq.2 h
theorem Zis {t u:Txt} (h:t≠u):((bs t).toList == u)=false:=by rw [Zep];exact beq_eq_false_iff_ne.2 h
theorem Yfo (w0 w:World) (p m M cc0:Nat) (line:Int) (c:CS) (x:Option Int) (ps:List Pc) (pp0:Option Addr) (h:PS w0 w p m c (Zeg x)) (hp:Zhr w pp0 ps) (hcc:ps.length<=cc0) (hl:ps.length<=70000)
 (hws:∀ t,(Pc.word t∈ps\/Pc.str t∈ps)->t.length<=M) (hm:m+ps.length+2+M<=1000000) :
 Calls Tryz.prog 57 #[.pointer (some ⟨p,0,none⟩),.int .i64 line,.slice pp0 ps.length cc0] w (Zp w0 w p (m+ps.length+2+M) (Zfj line c x false ps)):=by
 have I0:=Hq (show SaI w0 w w p (m+ps.length) M line (Zfj line c x false ps) false pp0 cc0 ps c x m from ⟨h,rfl,hp,Zim _,Nat.le_refl _,hws,hcc⟩)
 obtain ⟨R,hR⟩:∃ R,Zfj line c x false ps=R:=⟨_,rfl⟩
 obtain ⟨mm,hmm⟩:∃ mm,m+ps.length=mm:=⟨_,rfl⟩
 rw [hR,hmm] at I0
 rw [hR,hmm]
 have hL:ps.length<=mm:=by omega
 have hL7:mm+2+M<=1000000:=by omega
 clear h hp hws hm hR hmm
 go_enter Tryz.func57,Tryz.ntmps57
 go_wp2
 go_loopw [7,2] (fun lab sl wr=>∃ (lb:Bool) (pp:Option Addr) (l:List Pc) (cc:Nat) (c':CS) (x':Option Int) (k:Nat),lab = .bool lb/\sl = .slice pp l.length cc/\l.length<=ps.length/\SaI w0 w wr p mm M line R lb pp cc l c' x' k) (fun _ sl _=>slen sl)
 case atStart=>exact ⟨false,pp0,ps,cc0,c,x,m,rfl,rfl,Nat.le_refl _,I0.out⟩
 case round =>
  obtain ⟨lb,pp,l,cc,c',x',k,rfl,rfl,hll,hI⟩:=hrel
  have I:=Hq hI
  clear hI
  have hps7:=hl
  rcases l with _|⟨q,r⟩
  · have HE:=Hq (I.out.eq.trans (Jb line c' x' lb [] (by intro t r e;cases e)))
    go_wp2
    go_ret
    rw [HE.out]
    have hk:=I.out.hk
    exact ⟨⟨rfl,Zia I.out.ps (by omega)⟩,I.out.fr,Zax I.out.ps⟩
  · obtain ⟨b,o,e,hb,d0,d1,d2,d3⟩:=Xb I.out.pt (i:=0) (q:=q) rfl
    subst e
    simp only [Nat.zero_mul,Nat.add_zero] at d0 d1 d2 d3
    have hk:=I.out.hk
    have hcap:=I.out.cap
    simp only [List.length_cons] at hll hk hcap
    by_cases hq:pcK q=0
    · obtain ⟨t,rfl⟩:=Yae hq
      simp only [pcK,pcT,pcN,pcF] at d0 d1 d2 d3
      have ht:=I.out.ws t (Or.inl (List.mem_cons_self ..))
      rcases r with _|⟨q1,r1⟩
      · have HE:=Hq (I.out.eq.trans (Jb line c' x' lb [.word t] (by intro t r e;injection e with _ e;cases e)))
        have IN:=Hq (Zqz w0 wr p k line c' x' t ([]:List Pc) b o cc I.out.ps I.out.pt (by simp only [List.length_cons,List.length_nil];omega) (by simp only [List.length_cons,List.length_nil];omega) (by omega))
        have ME:=Hq (fun pp c9 (hp9:Zhr wr pp ([]:List Pc))=>Zfn w0 wr p k c' x' ([]:List Pc) pp c9 I.out.ps hp9 (by simp only [List.length_cons,List.length_nil];omega))
        have DA:=Hq (fun pp c9 (hp9:Zhr wr pp ([]:List Pc))=>Zjj w0 wr p k c' x' ([]:List Pc) pp c9 M I.out.ps hp9 (by simp only [List.length_cons,List.length_nil];omega) (fun u hu=>I.out.ws u (Or.inr (by rw [hu];simp))) (by omega))
        have FU:=Hq (fun pp c9 (hp9:Zhr wr pp ([]:List Pc)) (h9:([]:List Pc).length<=c9)=>Zjg w0 wr p k c' x' ([]:List Pc) pp c9 I.out.ps hp9 (by simp only [List.length_cons,List.length_nil];omega) h9 (fun u hu=>by have:=I.out.ws u (Or.inl (List.mem_cons_of_mem _ hu));omega) (by omega))
        have PT:=Hq (show Zhr wr (some ⟨b,o+4,none⟩) ([]:List Pc) from Zog I.out.pt)
        simp only [List.length_cons,List.length_nil] at IN ME DA FU
        cases lb with
        | true =>
          have HL:=Hq (HE.out.trans (Zkz line c' x' t ([]:List Pc)))
          go_wp2_with (go_at_call 80;refine IN.out.mono ?_;rintro e w2 hp2;obtain ⟨v,rfl⟩:=Xe hp2;have LP:=Hq hp2;clear hp2)
          go_ret
          exact Xq LP.out I.out.fr (by omega) HL.out
        | false =>
          by_cases hm1:t=Xn
          · have g1:=Ziu hm1
            have HL:=Hq (HE.out.trans (show Zcm line c' x' false (.word t::([]:List Pc))=Yex c' x' ([]:List Pc) from if_pos ⟨rfl,hm1⟩))
            simp only [Xn] at g1
            clear hm1
            by_cases hc1:cc=1
            all_goals
             go_wp2_with (go_at_call 77;refine (ME.out _ _ (by first|exact PT.out|(intro h0;simp at h0;done)|(simp only [List.length_cons] at hcap;omega))).mono ?_;rintro e w2 hp2;obtain ⟨v,rfl⟩:=Xe hp2;have LP:=Hq hp2;clear hp2)
             go_ret
             exact Xq LP.out I.out.fr (by omega) HL.out
          · have g1:=Zis hm1
            simp only [Xn] at g1
            by_cases hm2:t=Zdm
            · have g2:=Ziu hm2
              have HL:=Hq (HE.out.trans (show Zcm line c' x' false (.word t::([]:List Pc))=Zfk c' x' ([]:List Pc) from (if_neg (fun h=>hm1 h.2)).trans (if_pos ⟨rfl,hm2⟩)))
              simp only [Zdm] at g2
              clear hm1 hm2
              by_cases hc1:cc=1
              all_goals
               go_wp2_with (go_at_call 78;refine (DA.out _ _ (by first|exact PT.out|(intro h0;simp at h0;done)|(simp only [List.length_cons] at hcap;omega))).mono ?_;rintro e w2 hp2;obtain ⟨v,rfl⟩:=Xe hp2;have LP:=Hq hp2;clear hp2)
               go_ret
               exact Xq LP.out I.out.fr (by omega) HL.out
            · have g2:=Zis hm2
              simp only [Zdm] at g2
              by_cases hm3:t=Zdy
              · have g3:=Ziu hm3
                have HL:=Hq (HE.out.trans (show Zcm line c' x' false (.word t::([]:List Pc))=Zek c' x' ([]:List Pc) from (if_neg (fun h=>hm1 h.2)).trans ((if_neg (fun h=>hm2 h.2)).trans (if_pos ⟨rfl,hm3⟩))))
                simp only [Zdy] at g3
                clear hm1 hm2 hm3
                by_cases hc1:cc=1
                all_goals
                 go_wp2_with (go_at_call 79;refine (FU.out _ _ (by first|exact PT.out|(intro h0;simp at h0;done)|(simp only [List.length_cons] at hcap;omega)) (by simp only [List.length_cons,List.length_nil] at *;omega)).mono ?_;rintro e w2 hp2;obtain ⟨v,rfl⟩:=Xe hp2;have LP:=Hq hp2;clear hp2)
                 go_ret
                 exact Xq LP.out I.out.fr (by omega) HL.out
              · have g3:=Zis hm3
                have HL:=Hq (HE.out.trans (show Zcm line c' x' false (.word t::([]:List Pc))=Zii line c' x' (.word t::([]:List Pc)) from (if_neg (fun h=>hm1 h.2)).trans ((if_neg (fun h=>hm2 h.2)).trans (if_neg (fun h=>hm3 h.2)))))
                simp only [Zdy] at g3
                clear hm1 hm2 hm3
                go_wp2_with (go_at_call 80;refine IN.out.mono ?_;rintro e w2 hp2;obtain ⟨v,rfl⟩:=Xe hp2;have LP:=Hq hp2;clear hp2)
                go_ret
                exact Xq LP.out I.out.fr (by omega) HL.out
      · obtain ⟨b',o',e,hb2,y0,y1,y2,y3⟩:=Xb I.out.pt (i:=1) (q:=q1) rfl
        injection e with e;injection e with e1 e2
        subst e1;subst e2
        simp only [Nat.one_mul] at y0 y1 y2 y3
        simp only [List.length_cons] at hll hk hcap
        by_cases h3:pcK q1=3
        · obtain rfl:=Ymn h3
          simp only [pcK,pcT,pcN,pcF] at y0 y1 y2 y3
          have HE:=Hq (I.out.eq.trans (Zdn line c' x' lb t r1))
          by_cases hf:c'.funcs.length=0
          · have HN:=Hq (HE.out.trans (if_pos hf))
            obtain ⟨vd,vF,vL,vB,bm,cv,lb',hA⟩:=I.out.ps
            obtain ⟨pF,cF,hvF⟩:=Jc hA
            subst hvF
            have c2:=Cq wr p 2 _ _ _ hA.box
            have hlt:p<wr.heap.size:=(Gs hA.box)
            have hfi:(c'.funcs.length:Int)=0:=by omega
            clear hA hf
            go_wp2
            go_ret
            rw [HN.out]
            exact ⟨rfl,I.out.fr,Zax I.out.ps⟩
          · have HN:=Hq (HE.out.trans (if_neg hf))
            have LB:=Hq (Ycp w0 wr p k c' x' t I.out.ps (by omega) (by omega) (by omega))
            obtain ⟨vd,vF,vL,vB,bm,cv,lb',hA⟩:=I.out.ps
            obtain ⟨pF,cF,hvF⟩:=Jc hA
            subst hvF
            have c2:=Cq wr p 2 _ _ _ hA.box
            have hlt:p<wr.heap.size:=(Gs hA.box)
            have hfi:((c'.funcs.length:Int) == 0)=false:=by rw [beq_eq_false_iff_ne];omega
            clear hA hf
            by_cases hc2:cc=2
            all_goals
             go_wp2_with (go_at_call 76;refine LB.out.mono ?_;rintro e w2 ⟨rfl,hps2,hf2⟩;have S2:=Hq hps2;have F2:=Hq hf2;clear hps2 hf2)
             refine ⟨⟨true,_,r1,_,_,_,k+1,rfl,rfl,by omega,⟨S2.out,HN.out,?_,Zn I.out.fr F2.out,by omega,fun u hu=>I.out.ws u (hu.imp (fun h=>List.mem_cons_of_mem _ (List.mem_cons_of_mem _ h)) (fun h=>List.mem_cons_of_mem _ (List.mem_cons_of_mem _ h))),by omega⟩⟩,by simp only [slen,List.length_cons];omega⟩
             first
              | (intro h0;omega)
              | (have:=Zqm (k:=2) (Xz I.out.pt F2.out);simpa using this)
        · have HE:=Hq (I.out.eq.trans (Jb line c' x' lb (.word t::q1::r1) (by intro t r e;injection e with _ e;injection e with e _;subst e;exact h3 rfl)))
          have b3:(pcK q1 == 3)=false:=beq_eq_false_iff_ne.2 h3
          generalize pcK q1=z0 at *
          generalize bs (pcT q1)=z1 at *
          generalize pcN q1=z2 at *
          generalize pcF q1=z3 at *
          have IN:=Hq (Zqz w0 wr p k line c' x' t (q1::r1) b o cc I.out.ps I.out.pt (by simp only [List.length_cons,List.length_nil];omega) (by simp only [List.length_cons,List.length_nil];omega) (by omega))
          have ME:=Hq (fun pp c9 (hp9:Zhr wr pp (q1::r1))=>Zfn w0 wr p k c' x' (q1::r1) pp c9 I.out.ps hp9 (by simp only [List.length_cons,List.length_nil];omega))
          have DA:=Hq (fun pp c9 (hp9:Zhr wr pp (q1::r1))=>Zjj w0 wr p k c' x' (q1::r1) pp c9 M I.out.ps hp9 (by simp only [List.length_cons,List.length_nil];omega) (fun u hu=>I.out.ws u (Or.inr (by rw [hu];simp))) (by omega))
          have FU:=Hq (fun pp c9 (hp9:Zhr wr pp (q1::r1)) (h9:(q1::r1).length<=c9)=>Zjg w0 wr p k c' x' (q1::r1) pp c9 I.out.ps hp9 (by simp only [List.length_cons,List.length_nil];omega) h9 (fun u hu=>by have:=I.out.ws u (Or.inl (List.mem_cons_of_mem _ hu));omega) (by omega))
          have PT:=Hq (show Zhr wr (some ⟨b,o+4,none⟩) (q1::r1) from Zog I.out.pt)
          simp only [List.length_cons,List.length_nil] at IN ME DA FU
          cases lb with
          | true =>
            have HL:=Hq (HE.out.trans (Zkz line c' x' t (q1::r1)))
            go_wp2_with (go_at_call 80;refine IN.out.mono ?_;rintro e w2 hp2;obtain ⟨v,rfl⟩:=Xe hp2;have LP:=Hq hp2;clear hp2)
            go_ret
            exact Xq LP.out I.out.fr (by omega) HL.out
          | false =>
            by_cases hm1:t=Xn
            · have g1:=Ziu hm1
              have HL:=Hq (HE.out.trans (show Zcm line c' x' false (.word t::(q1::r1))=Yex c' x' (q1::r1) from if_pos ⟨rfl,hm1⟩))
              simp only [Xn] at g1
              clear hm1
              have hc1:¬ cc=1:=by omega
              all_goals
               go_wp2_with (go_at_call 77;refine (ME.out _ _ (by first|exact PT.out|(intro h0;simp at h0;done)|(simp only [List.length_cons] at hcap;omega))).mono ?_;rintro e w2 hp2;obtain ⟨v,rfl⟩:=Xe hp2;have LP:=Hq hp2;clear hp2)
               go_ret
               exact Xq LP.out I.out.fr (by omega) HL.out
            · have g1:=Zis hm1
              simp only [Xn] at g1
              by_cases hm2:t=Zdm
              · have g2:=Ziu hm2
                have HL:=Hq (HE.out.trans (show Zcm line c' x' false (.word t::(q1::r1))=Zfk c' x' (q1::r1) from (if_neg (fun h=>hm1 h.2)).trans (if_pos ⟨rfl,hm2⟩)))
                simp only [Zdm] at g2
                clear hm1 hm2
                have hc1:¬ cc=1:=by omega
                all_goals
                 go_wp2_with (go_at_call 78;refine (DA.out _ _ (by first|exact PT.out|(intro h0;simp at h0;done)|(simp only [List.length_cons] at hcap;omega))).mono ?_;rintro e w2 hp2;obtain ⟨v,rfl⟩:=Xe hp2;have LP:=Hq hp2;clear hp2)
                 go_ret
                 exact Xq LP.out I.out.fr (by omega) HL.out
              · have g2:=Zis hm2
                simp only [Zdm] at g2
                by_cases hm3:t=Zdy
                · have g3:=Ziu hm3
                  have HL:=Hq (HE.out.trans (show Zcm line c' x' false (.word t::(q1::r1))=Zek c' x' (q1::r1) from (if_neg (fun h=>hm1 h.2)).trans ((if_neg (fun h=>hm2 h.2)).trans (if_pos ⟨rfl,hm3⟩))))
                  simp only [Zdy] at g3
                  clear hm1 hm2 hm3
                  have hc1:¬ cc=1:=by omega
                  all_goals
                   go_wp2_with (go_at_call 79;refine (FU.out _ _ (by first|exact PT.out|(intro h0;simp at h0;done)|(simp only [List.length_cons] at hcap;omega)) (by simp only [List.length_cons,List.length_nil] at *;omega)).mono ?_;rintro e w2 hp2;obtain ⟨v,rfl⟩:=Xe hp2;have LP:=Hq hp2;clear hp2)
                   go_ret
                   exact Xq LP.out I.out.fr (by omega) HL.out
                · have g3:=Zis hm3
                  have HL:=Hq (HE.out.trans (show Zcm line c' x' false (.word t::(q1::r1))=Zii line c' x' (.word t::(q1::r1)) from (if_neg (fun h=>hm1 h.2)).trans ((if_neg (fun h=>hm2 h.2)).trans (if_neg (fun h=>hm3 h.2)))))
                  simp only [Zdy] at g3
                  clear hm1 hm2 hm3
                  go_wp2_with (go_at_call 80;refine IN.out.mono ?_;rintro e w2 hp2;obtain ⟨v,rfl⟩:=Xe hp2;have LP:=Hq hp2;clear hp2)
                  go_ret
                  exact Xq LP.out I.out.fr (by omega) HL.out
    · have HE:=Hq (I.out.eq.trans (Jb line c' x' lb (q::r) (by intro t r e;injection e with e _;subst e;exact hq rfl)))
      have HN:=Hq (HE.out.trans (show Zcm line c' x' lb (q::r)=none by cases q <;> first|rfl|exact absurd rfl hq))
      have b0:(pcK q == 0)=false:=beq_eq_false_iff_ne.2 hq
      have b1:(pcK q != 0)=true:=by rw [bne_iff_ne];exact hq
      generalize pcK q=z0 at *
      generalize bs (pcT q)=z1 at *
      generalize pcN q=z2 at *
      generalize pcF q=z3 at *
      rcases r with _|⟨q1,r1⟩
      · go_wp2
        go_ret
        rw [HN.out]
        exact ⟨rfl,I.out.fr,Zax I.out.ps⟩
      · have hr1:(1:Int)<(r1.length:Int)+1+1:=by omega
        simp only [List.length_cons] at hll hk hcap
        go_wp2
        go_ret
        rw [HN.out]
        exact ⟨rfl,I.out.fr,Zax I.out.ps⟩
open Go.Extern
theorem Ycw (v:Value) (w:World):(Extern.ReflectliteType.typeOf #[.iface 41 v]).run Tryz.prog w = .ok (.iface 204 (.agg #[.pointer (some ⟨8,41,none⟩)])) w:=by kernel_rfl
def Yqz:Array Value->Sem Value:=Extern.ReflectliteType.method fun t=>do Extern.Rtype.noPackHeld "Comparable" t;pure (.bool (<- typeInfo t).comparable)
theorem Zpd (w:World):(Yqz #[.agg #[.pointer (some ⟨8,41,none⟩)]]).run Tryz.prog w = .ok (.bool true) w:=by kernel_rfl
theorem Ycx (v:Value) (w:World):(Go.method 405 204 v "Comparable").run Tryz.prog w = .ok (211,v) w:=by kernel_rfl
theorem Ylw (w:World):Calls Tryz.prog 58 #[Zzc 141,Zzc 141] w fun e w'=>e = .returned (.bool true)/\w'=w:=by
 have h8 := @run_callFunc_extern Tryz.prog 81 _ Extern.ReflectliteType.typeOf Tryz.func81 (by kernel_rfl) (by kernel_rfl) (by kernel_rfl) (by kernel_rfl)
 have h32 := @run_callFunc_extern Tryz.prog 211 _ Yqz Tryz.func211 (by kernel_rfl) (by kernel_rfl) (by kernel_rfl) (by kernel_rfl)
 have tT:=Ycw
 have cT:=Zpd
 have mR:=Ycx
 have heq:=fun W=>Lib.run_eql_iface_int (P:=Tryz.prog) (k := .i64) W 141 141 Tryz.underlying28 (tx:=41) (by kernel_rfl) Tryz.underlying41
 go_enter Tryz.func58,Tryz.ntmps58
 go_wp2
 refine wp_loop_rounds 1 ?_
 rw [rounds_succ]
 go_wp2
 go_ret
 exact ⟨rfl,rfl⟩
theorem You (w:World):Calls Tryz.prog 58 #[.nilIface,Zzc 141] w fun e w'=>e = .returned (.bool false)/\w'=w:=by
 have hn:=run_eql_iface_nil_left (P:=Tryz.prog) w 41 (.int .i64 141) Tryz.underlying28
 go_enter Tryz.func58,Tryz.ntmps58
 go_wp2
 go_ret
 exact ⟨rfl,rfl⟩
theorem Yjy:∀ (n:Nat) (l:Txt) (b:Txt) (k:Nat),l.length<=n->unq l=some (b,k)->b.length<=k:=by
 intro n
 induction n with
 | zero =>
   intro l b k hl h
   have:l=[]:=List.eq_nil_of_length_eq_zero (by omega)
   subst this;cases h
 | succ n ih =>
   intro l b k hl h
   cases l with
   | nil=>cases h
   | cons c r =>
     rw [unq.eq_def] at h
     simp only [] at h
     simp only [List.length_cons] at hl
     split at h
     · injection h with h;injection h with h1 h2;subst h1;simp
     · split at h
       · cases h
       · split at h
         · obtain ⟨x,hx,h⟩:=Option.map_eq_some_iff.1 h
           have:=ih r x.1 x.2 (by omega) hx
           injection h with h1 h2;subst h1;simp only [List.length_cons];omega
         · split at h
           · cases h
           · rename_i d r2
             simp only [List.length_cons] at hl
             split at h
             · obtain ⟨x,hx,h⟩:=Option.map_eq_some_iff.1 h
               have:=ih r2 x.1 x.2 (by omega) hx
               injection h with h1 h2;subst h1;simp only [List.length_cons];omega
             · split at h
               · split at h
                 · rename_i x y r3
                   simp only [List.length_cons] at hl
                   split at h
                   · obtain ⟨z,hz,h⟩:=Option.map_eq_some_iff.1 h
                     have:=ih r3 z.1 z.2 (by omega) hz
                     injection h with h1 h2;subst h1;simp only [List.length_cons];omega
                   · cases h
                 · cases h
               · cases h
def Ynj:Pc->Nat
 | .word t=>t.length
 | .str t=>t.length
 | _=>0
theorem Ygy {l:Txt} {p:Pc} {k:Nat} (h:Zso l=some (p,k)):Ynj p<=l.length:=by
 cases l with
 | nil=>cases h
 | cons c r =>
   rw [Zso] at h
   split at h
   · injection h with h;injection h with h1 h2
     subst h1
     simp only [Ynj,List.length_take]
     omega
   · split at h
     · obtain ⟨x,hx,h⟩:=Option.map_eq_some_iff.1 h
       have h1:=Zpq r.length r x.1 x.2 (Nat.le_refl _) hx
       have h2:=Yjy r.length r x.1 x.2 (Nat.le_refl _) hx
       injection h with h3 h4;subst h3
       simp only [Ynj,List.length_cons];omega
     · split at h
       · obtain ⟨x,hx,h⟩:=Option.map_eq_some_iff.1 h
         injection h with h1 h2;subst h1
         simp [Ynj]
       · cases h
theorem Zju:∀ (f:Nat) (ap:Bool) (l:Txt) (ps:List Pc),Zmb f ap l=some ps->ps.length<=l.length/\∀ p∈ps,Ynj p<=l.length
 | 0,_,_,_,h=>by cases h
 | f+1,ap,[],ps,h=>by rw [Zmb] at h;injection h with h;subst h;simp
 | f+1,ap,c::r,ps,h=>by
   rw [Zmb] at h
   split at h
   · injection h with h;subst h;simp
   · split at h
     · obtain ⟨h1,h2⟩:=Zju f true r ps h
       simp only [List.length_cons]
       exact ⟨by omega,fun p hp=>by have:=h2 p hp;omega⟩
     · split at h
       · obtain ⟨x,hx,h⟩:=Option.map_eq_some_iff.1 h
         subst h
         obtain ⟨h1,h2⟩:=Zju f true r x hx
         simp only [List.length_cons]
         refine ⟨by omega,fun p hp => ?_⟩
         rcases List.mem_cons.1 hp with rfl|hp
         · simp [Ynj]
         · have:=h2 p hp;omega
       · split at h
         · cases h
         · split at h
           · cases h
           · rename_i q k hq
             obtain ⟨x,hx,h⟩:=Option.map_eq_some_iff.1 h
             subst h
             obtain ⟨h1,h2⟩:=Zju f false _ x hx
             have hb:=Zfb hq
             have hl:=Ygy hq
             simp only [List.length_cons,List.length_drop] at *
             refine ⟨by omega,fun p hp => ?_⟩
             rcases List.mem_cons.1 hp with rfl|hp
             · exact hl
             · have:=h2 p hp;omega
theorem Zvm {l:Txt} {ps:List Pc} (h:Zsn l=some ps):ps.length<=l.length/\∀ t,(Pc.word t∈ps\/Pc.str t∈ps)->t.length<=l.length:=by
 obtain ⟨h1,h2⟩:=Zju _ _ _ _ h
 refine ⟨h1,fun t ht => ?_⟩
 rcases ht with ht|ht
 · exact h2 _ ht
 · exact h2 _ ht
def lnC (line:Int) (c:CS) (t:Txt):Option (CS × Option Int):=(Zsn t).bind (Zfj line c none false)
def Ypq (w0 w:World) (p m:Nat) (r:Option (CS × Option Int)) (e:Ending) (w':World):Prop :=
 (match r with
   | none=>e = .returned (Zzc 141)
   | some (c,none)=>e = .returned .nilIface/\PS w0 w' p m c .nilIface
   | some (_,some y)=>e = .returned (Zzc y))/\Fr w w'/\w0.grownBy w' none
theorem Zkt {w:World} {E:Nat} {p:Option Addr} {c:Nat} {ps:List Pc} (h:Zzo w E (.slice p ps.length c) ps):ps.length<=c:=by
 rcases h.2 with ⟨e,h1⟩|⟨g,cap,cur,hv,_,hg,hn,hm,hs,ht⟩
 · injection e with _ e _;omega
 · injection hv with _ _ hv;omega
theorem Zkn {w0 w:World} {p m:Nat} {c:CS} {pend pend':Value} (h:PS w0 w p m c pend):PS w0 (w.setCell ⟨p,7,none⟩ pend') p m c pend'/\w.grownBy (w.setCell ⟨p,7,none⟩ pend') (some p):=by
 obtain ⟨vd,vF,vL,vB,bm,cv,lb,hA⟩:=h
 exact Zkq hA
theorem Zcb {w0 w:World} {p m:Nat} {c:CS} {pend:Value} (h:PS w0 w p m c pend):w.cell? ⟨p,7,none⟩=some pend/\w.frozen? ⟨p,7,none⟩=false/\p<w.heap.size:=by
 obtain ⟨vd,vF,vL,vB,bm,cv,lb,hA⟩:=h
 exact ⟨Cq w p 7 _ _ _ hA.box,frozen_of_row w p 7 _ _ hA.box,(Gs hA.box)⟩
theorem Yhi (w0 w:World) (p m:Nat) (line:Int) (c:CS) (pend:Value) (t:Txt) (h:PS w0 w p m c pend) (hW:LibW w0) (hl:t.length<=65536) (hm:m+2*t.length+2<=1000000) :
 Calls Tryz.prog 28 #[.pointer (some ⟨p,0,none⟩),.int .i64 line,.string (bs t)] w (Ypq w0 w p (m+2*t.length+2) (lnC line c t)):=by
 have HS:=Hq h
 have PI0:=Zxs (bs t) (by rw [Zi];omega) w (Zs hW (Zax h))
 rw [Xd] at PI0
 have c7:=(Zcb h).1
 have IN:=Hq You
 have IS:=Hq Ylw
 cases hp:Zsn t with
 | none =>
   have HR:=Hq (show lnC line c t=none by unfold lnC;rw [hp];rfl)
   rw [hp] at PI0
   have PI:=Hq PI0
   clear PI0 hp h c7
   go_enter Tryz.func28,Tryz.ntmps28
   go_wp2_with (first
    | (go_at_call 56;refine PI.out.mono ?_;rintro e w2 ⟨rfl,hg⟩;have G2:=Hq hg;have S2:=Hq (Zai HS.out hg);obtain ⟨c7,z7,hlt⟩:=Zcb S2.out;clear hg)
    | (go_at_call 58;refine (IS.out _).mono ?_;rintro e w3 ⟨rfl,rfl⟩))
   go_ret
   rw [HR.out]
   have Q:=Zkn (pend' := .nilIface) S2.out
   exact ⟨rfl,Zn (Yk G2.out) (Zby S2.out Q.2),Zax Q.1⟩
 | some ps =>
   rw [hp] at PI0
   have PI:=Hq PI0
   have hln:=Zvm hp
   have HR:=Hq (show lnC line c t=Zfj line c none false ps by unfold lnC;rw [hp];rfl)
   clear PI0 hp h c7
   rcases ps with _|⟨q,r⟩
   · go_enter Tryz.func28,Tryz.ntmps28
     go_wp2_with (first
      | (go_at_call 56;refine PI.out.mono ?_;rintro e w2 ⟨⟨pp,cc,rfl,-⟩,hg⟩;have G2:=Hq hg;have S2:=Hq (Zai HS.out hg);obtain ⟨c7,z7,hlt⟩:=Zcb S2.out;clear hg)
      | (go_at_call 58;refine (IN.out _).mono ?_;rintro e w3 ⟨rfl,rfl⟩))
     go_ret
     rw [HR.out]
     have Q:=Zkn (pend' := .nilIface) S2.out
     exact ⟨⟨rfl,Zia Q.1 (by omega)⟩,Zn (Yk G2.out) (Zby S2.out Q.2),Zax Q.1⟩
   · have hln1:=hln.1
     have SA:=Hq (fun w3 pp cc h1 h2 h3=>Yfo w0 w3 p m t.length cc line c none (q::r) pp h1 h2 h3 (by omega) hln.2 (by omega))
     have hr1:(r.length:Int)+1>0:=by omega
     cases hs:Zfj line c none false (q::r) with
     | none =>
       rw [hs] at HR
       rw [hs] at SA
       clear hs hln
       go_enter Tryz.func28,Tryz.ntmps28
       go_wp2_with (first
        | (go_at_call 56;refine PI.out.mono ?_;rintro e w2 ⟨⟨pp,cc,rfl,hrow⟩,hg⟩;have G2:=Hq hg;have S2:=Hq (Zai HS.out hg);have HC:=Hq (Zkt hrow);have PT:=Hq (Zom hrow);obtain ⟨c7,z7,hlt⟩:=Zcb S2.out;have QQ:=Hq (Zkn (pend' := .nilIface) S2.out);clear hg hrow)
        | (go_at_call 57;refine (SA.out _ _ _ QQ.out.1 (Xz PT.out (Zby S2.out QQ.out.2)) HC.out).mono ?_;rintro e w4 ⟨rfl,hf4,hg4⟩;have F4:=Hq hf4;have G4:=Hq hg4;clear hf4 hg4)
        | (go_at_call 58;refine (IS.out _).mono ?_;rintro e w3 ⟨rfl,rfl⟩))
       go_ret
       rw [HR.out]
       exact ⟨rfl,Zn (Yk G2.out) (Zn (Zby S2.out QQ.out.2) F4.out),G4.out⟩
     | some r9 =>
       obtain ⟨c',x'⟩:=r9
       rw [hs] at HR
       rw [hs] at SA
       clear hs hln
       cases x' with
       | none =>
         go_enter Tryz.func28,Tryz.ntmps28
         go_wp2_with (first
          | (go_at_call 56;refine PI.out.mono ?_;rintro e w2 ⟨⟨pp,cc,rfl,hrow⟩,hg⟩;have G2:=Hq hg;have S2:=Hq (Zai HS.out hg);have HC:=Hq (Zkt hrow);have PT:=Hq (Zom hrow);obtain ⟨c7,z7,hlt⟩:=Zcb S2.out;have QQ:=Hq (Zkn (pend' := .nilIface) S2.out);clear hg hrow)
          | (go_at_call 57;refine (SA.out _ _ _ QQ.out.1 (Xz PT.out (Zby S2.out QQ.out.2)) HC.out).mono ?_;rintro e w4 ⟨⟨rfl,hps4⟩,hf4,hg4⟩;have F4:=Hq hf4;have G4:=Hq hg4;have S4:=Hq hps4;obtain ⟨k7,-,hlt4⟩:=Zcb S4.out;simp only [Zeg] at k7;clear hf4 hg4 hps4)
          | (go_at_call 58;refine (IN.out _).mono ?_;rintro e w3 ⟨rfl,rfl⟩))
         go_ret
         rw [HR.out]
         exact ⟨⟨rfl,Zia S4.out (by simp only [List.length_cons] at *;omega)⟩,Zn (Yk G2.out) (Zn (Zby S2.out QQ.out.2) F4.out),G4.out⟩
       | some y =>
         go_enter Tryz.func28,Tryz.ntmps28
         go_wp2_with (first
          | (go_at_call 56;refine PI.out.mono ?_;rintro e w2 ⟨⟨pp,cc,rfl,hrow⟩,hg⟩;have G2:=Hq hg;have S2:=Hq (Zai HS.out hg);have HC:=Hq (Zkt hrow);have PT:=Hq (Zom hrow);obtain ⟨c7,z7,hlt⟩:=Zcb S2.out;have QQ:=Hq (Zkn (pend' := .nilIface) S2.out);clear hg hrow)
          | (go_at_call 57;refine (SA.out _ _ _ QQ.out.1 (Xz PT.out (Zby S2.out QQ.out.2)) HC.out).mono ?_;rintro e w4 ⟨⟨rfl,hps4⟩,hf4,hg4⟩;have F4:=Hq hf4;have G4:=Hq hg4;have S4:=Hq hps4;obtain ⟨k7,-,hlt4⟩:=Zcb S4.out;simp only [Zeg] at k7;clear hf4 hg4 hps4)
          | (go_at_call 58;refine (IN.out _).mono ?_;rintro e w3 ⟨rfl,rfl⟩))
         go_ret
         rw [HR.out]
         exact ⟨rfl,Zn (Yk G2.out) (Zn (Zby S2.out QQ.out.2) F4.out),G4.out⟩
theorem Zno:∀ (l:List (Int × Int)) (k:Nat) (a d0 d:Int),l[k]? = some (a,d0)->(Zad l).set (k*2+1) (.int .i64 d)=Zad (l.set k (a,d))
 | [],k,a,d0,d,h=>by simp at h
 | x::r,0,a,d0,d,h=>by simp at h;subst h;simp [Zad]
 | x::r,k+1,a,d0,d,h=>by
   have ih:=Zno r k a d0 d (by simpa using h)
   have e:(k+1)*2+1=(k*2+1)+1+1:=by omega
   rw [e]
   simp only [Zad,List.set_cons_succ,ih]
def Zph (c:CS) (b:BlP):Option Int:=if b.call then c.fm b.word else (c.lm.getD b.fn.toNat fun _=>none) b.word
def Zem (c:CS):List FnR->List BlP->Except Int (List FnR)
 | fs,[] => .ok fs
 | fs,b::r=>match Zph c b with
   | none => .error b.line
   | some n=>Zem c (Zsw fs b.fn.toNat b.pl.toNat n) r
def Zcq (c:CS):Prop:=∀ b∈c.blk,∃ kf kp:Nat,∃ f,b.fn=kf/\b.pl=kp/\c.funcs[kf]? = some f/\kp<f.2.2.2.length/\b.word.length<=1000000
theorem Ykj {fs:List FnR} {kf kp:Nat} {a l r o x n:Int} {code:List (Int × Int)} (h:fs[kf]? = some (a,l,r,code)) (hp:code[kp]? = some (o,x)):Zsw fs kf kp n=fs.set kf (a,l,r,code.set kp (o,n)):=by
 unfold Zsw
 simp only [h,hp]
theorem Zsv (fs:List FnR) (kf kp:Nat) (n:Int):(Zsw fs kf kp n).length=fs.length:=by
 unfold Zsw
 split <;> simp
theorem Zqi {w0 w:World} {p m kf kp gC cC:Nat} {c:CS} {pend vd vF vL vB:Value} {bm:Nat} {cv:List Value} {lb:List Nat} {a l r n:Int} {code:List (Int × Int)} (h:Zge w0 w p m c pend vd vF vL vB bm cv lb)
 (hf:c.funcs[kf]? = some (a,l,r,code)) (hv:cv[kf]? = some (.slice (some ⟨gC,0,none⟩) code.length cC)) (hp:kp<code.length) :
 Zge w0 (w.setCell ⟨gC,kp*2+1,none⟩ (.int .i64 n)) p m { c with funcs:=Zsw c.funcs kf kp n } pend vd vF vL vB bm cv lb/\Fr w (w.setCell ⟨gC,kp*2+1,none⟩ (.int .i64 n)):=by
 have I:=h.ins
 have ho:=I.own.each kf _ _ hf hv
 obtain ⟨⟨o,x⟩,hpx⟩:∃ z,code[kp]? = some z:=⟨_,List.getElem?_eq_getElem hp⟩
 rw [Ykj hf hpx]
 have hil:=(List.getElem?_eq_some_iff.1 hf).1
 obtain ⟨s1,g⟩:=ho.stored (kp*2+1) (.int .i64 n)
 simp only [] at s1
 rw [Zno code kp o x n hpx] at s1
 have row:∀ {t:TypeId} {sz n':Nat} {v2:Value} {xs:List Value},w.ownsRow w0.heap.size t sz v2 n' xs->t≠58->(w.setCell ⟨gC,kp*2+1,none⟩ (.int .i64 n)).ownsRow w0.heap.size t sz v2 n' xs:=fun ho' t1=>ho'.kept g (Zx ho' ho t1)
 have map:∀ {b m':Nat} {f':Txt->Option Int},Zfi w b m' f'->Zfi (w.setCell ⟨gC,kp*2+1,none⟩ (.int .i64 n)) b m' f':=fun hm=>Zw hm g (Yh hm ho)
 have hb:=Zf h.box g (Ye ho h.box (by decide))
 have hfl:Yp c.funcs cv=Yp (c.funcs.set kf (a,l,r,code.set kp (o,n))) cv:=by
  refine Zin _ _ _ (by simp) fun j a' b' ha hb => ?_
  by_cases e:j=kf
  · subst e
    rw [hf] at ha
    rw [List.getElem?_set_self hil] at hb
    injection ha with ha;injection hb with hb
    subst ha;subst hb
    exact ⟨rfl,rfl,rfl⟩
  · rw [List.getElem?_set_ne (Ne.symm e)] at hb
    rw [ha] at hb
    injection hb with hb
    subst hb
    exact ⟨rfl,rfl,rfl⟩
 refine ⟨⟨?_,h.ge,hb,⟨⟨row I.own.dt (by decide),by simp only [List.length_set];rw [<- hfl];exact row I.own.fr (by decide),by simp only [List.length_set];exact I.own.cl,fun j f v hj hjv => ?_,I.own.dis⟩,map I.fm,I.fmE,row I.lrow (by decide),I.len1,fun j b f' hj hf'=>⟨map (I.each j b f' hj hf').1,(I.each j b f' hj hf').2⟩,I.dis,I.apart,row I.brow (by decide),I.z1,by simp only [List.length_set];exact I.z2,fun q hq => ?_,I.z4⟩,by simp only [List.length_set];exact h.lens⟩,Zll ho (by decide) g⟩
 · exact Yj h.gr g (fun b hb=>(World.ownsRow.lt ho b hb).1)
 · by_cases e:j=kf
   · subst e
     rw [List.getElem?_set_self hil] at hj
     injection hj with hj
     rw [hv] at hjv
     injection hjv with hjv
     subst hj;subst hjv
     simp only [List.length_set]
     exact s1
   · rw [List.getElem?_set_ne (Ne.symm e)] at hj
     have h1:=I.own.each j f v hj hjv
     refine h1.kept g ?_
     cases hb:v.ownBlock with
     | none=>exact Or.inl rfl
     | some q=>exact Or.inr (fun e2=>I.own.dis j kf v _ q e hjv hv hb e2.symm)
 · rcases List.mem_or_eq_of_mem_set hq with hq|hq
   · exact I.z3 q hq
   · subst hq
     have:=I.z3 _ (List.mem_of_getElem? hf)
     simp only [List.length_set];exact this
theorem Yek:∀ (l:List BlP) (i:Nat) (x:BlP),l[i]? = some x->(blV l)[i*5]? = some (.int .i64 x.line)/\(blV l)[i*5+1]? = some (.int .i64 x.fn)/\(blV l)[i*5+2]? = some (.int .i64 x.pl)/\(blV l)[i*5+3]? = some (.string (bs x.word))/\(blV l)[i*5+4]? = some (.bool x.call)
 | [],i,x,h=>by simp at h
 | y::r,0,x,h=>by simp at h;subst h;simp [blV,bl5]
 | y::r,i+1,x,h=>by
   obtain ⟨h0,h1,h2,h3,h4⟩:=Yek r i x (by simpa using h)
   have e:(i+1)*5=i*5+1+1+1+1+1:=by omega
   rw [e]
   simp only [blV,bl5,List.cons_append,List.nil_append]
   exact ⟨by simpa using h0,by simpa using h1,by simpa using h2,by simpa using h3,by simpa using h4⟩
def Zww (fs gs:List FnR):Prop:=fs.length=gs.length/\∀ (i:Nat) (f g:FnR),fs[i]? = some f->gs[i]? = some g->f.2.2.2.length=g.2.2.2.length
theorem Zsy (fs:List FnR):Zww fs fs:=⟨rfl,fun i f g hf hg=>by rw [hf] at hg;injection hg with hg;rw [hg]⟩
theorem Zki {fs gs:List FnR} (h:Zww fs gs) (kf kp:Nat) (n:Int):Zww fs (Zsw gs kf kp n):=by
 refine ⟨by rw [Zsv];exact h.1,fun i f g hf hg => ?_⟩
 unfold Zsw at hg
 split at hg
 · exact h.2 i f g hf hg
 · rename_i x hx
   by_cases e:i=kf
   · subst e
     rw [List.getElem?_set_self (List.getElem?_eq_some_iff.1 hx).1] at hg
     injection hg with hg
     subst hg
     have:=h.2 i f x hf hx
     simp only []
     split <;> simp [this]
   · rw [List.getElem?_set_ne (Ne.symm e)] at hg
     exact h.2 i f g hf hg
def Yix (w0 w:World) (p m:Nat) (c:CS) (r:Except Int (List FnR)) (e:Ending) (w':World):Prop :=
 (match r with
   | .ok fs=>e = .returned .nilIface/\∃ pend,PS w0 w' p m { c with funcs:=fs } pend
   | .error n=>∃ a,e = .returned (.iface 62 (.pointer (some ⟨a,0,none⟩)))/\w0.heap.size<=a/\w'.heap[a]? = some (.cells #[.int .i64 n,Zzc 142] 64 (0,0)))/\w0.grownBy w' none
end Go.Proofs.YteciblfmgdlipaaGreatDoor.AS
