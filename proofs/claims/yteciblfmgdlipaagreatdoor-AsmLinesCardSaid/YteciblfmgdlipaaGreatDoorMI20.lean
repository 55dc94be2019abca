/-
  Part of a proof: contracts of functions and lemmas, each stated by its own theorem. Conditions: as each theorem states.
-/
import Derived.Test.YteciblfmgdlipaaGreatDoorMI19
import Derived.Test.YteciblfmgdlipaaGreatDoorMI05
import Derived.Lib.AppendStr
import Derived.Deep.Cut
import Derived.Outline
set_option linter.unusedSimpArgs false
set_option linter.unusedVariables false
set_option maxRecDepth 100000
set_option maxHeartbeats 16000000
namespace Go.Proofs.YteciblfmgdlipaaGreatDoor.AS
open Go.RowKit Go.Great CK
def Jc (l:List (Txt × Nat)):List Txt:=l.map fun x=>x.1
def Zba (l:List (Txt × Nat)):List Int:=l.map fun x=>(x.2:Int)
theorem Ziq (l:List (Txt × Nat)):(Jc l).length=l.length:=by simp [Jc]
theorem Zxe (l:List (Txt × Nat)):(Zba l).length=l.length:=by simp [Zba]
def Zgb (s:St):RS:=⟨s.mem,s.memSet,s.data,s.funcs,s.names,s.labels.map Jc,s.labels.map Zba,s.wants⟩
structure Yom (s:St) (m:Nat):Prop where
 z1:s.data.length<=m
 z2:s.funcs.length<=m
 z3:∀ f∈s.funcs,f.2.2.2.length<=m
 z5:∀ l∈s.labels,l.length<=m
 z7:s.wants.length<=m
 e1:s.labels.length=s.funcs.length
 e2:s.names.length=s.funcs.length
 wt:∀ x∈s.wants,∃ f,s.funcs[x.fn]? = some f/\x.pl<f.2.2.2.length
theorem Zgo {s:St} {m m':Nat} (h:Yom s m) (hm:m<=m'):Yom s m' :=
 ⟨Nat.le_trans h.z1 hm,Nat.le_trans h.z2 hm,fun f hf=>Nat.le_trans (h.z3 f hf) hm,fun l hl=>Nat.le_trans (h.z5 l hl) hm,Nat.le_trans h.z7 hm,h.e1,h.e2,h.wt⟩
theorem Ybt:Yom St0 0:=⟨Nat.le_refl _,Nat.le_refl _,fun f hf=>by simp [St0] at hf,fun l hl=>by simp [St0] at hl,Nat.le_refl _,rfl,rfl,fun x hx=>by simp [St0] at hx⟩
def sdC:Sd->Nat
 | .data t=>t.length
 | .code lb _=>lb.length+1
 | _=>1
theorem Zro {at_:Nat}:∀ (lb:List Txt) (m m':List (Txt × Nat)),Zae at_ m lb=some m'->m'.length=m.length+lb.length
 | [],m,m',h=>by injection h with h;subst h;rfl
 | t::r,m,m',h=>by
   rw [Zae] at h
   split at h
   · cases h
   · have:=Zro r _ _ h
     simp only [List.length_append,List.length_cons,List.length_nil] at this ⊢
     omega
theorem Zaj {α:Type} (l:List α) (d:α) (k:Nat) (h:l.length=k+1):l[k]? = some (l.getLastD d):=by
 have hne:l≠[]:=fun e=>by rw [e] at h;cases h
 rw [List.getLastD_eq_getLast?,List.getLast?_eq_getElem?,h,Nat.add_sub_cancel,List.getElem?_eq_getElem (by omega)]
 rfl
theorem Yfa {s s':St} {sd:Sd} {big:Bool} {line m:Nat} (h:Yom s m) (e:Jv TT s sd big line = .ok s'):Yom s' (m+sdC sd):=by
 unfold Jv at e
 split at e
 · cases e
 · rename_i hfit
   split at e
   · cases e
   · cases sd with
     | nothing=>injection e with e;subst e;exact Zgo h (by omega)
     | mem n=>injection e with e;subst e;exact Zgo (m:=m) ⟨h.z1,h.z2,h.z3,h.z5,h.z7,h.e1,h.e2,h.wt⟩ (by omega)
     | data t =>
       injection e with e;subst e
       have h2:=Zgo (m':=m+t.length) h (by omega)
       exact ⟨by have:=h.z1;simp only [List.length_append,sdC];omega,h2.z2,h2.z3,h2.z5,h2.z7,h.e1,h.e2,h.wt⟩
     | fn nm a l k =>
       simp only [] at e
       split at e
       · cases e
       · injection e with e;subst e
         have h2:=Zgo (m':=m+1) h (by omega)
         refine ⟨h2.z1,by have:=h.z2;simp only [List.length_append,List.length_singleton,sdC];omega,fun f hf => ?_,fun l hl => ?_,h2.z7,by simp [h.e1],by simp [h.e2],fun x hx => ?_⟩
         · rcases List.mem_append.1 hf with hf|hf
           · exact h2.z3 f hf
           · have:f=(a,l,k,[]):=by simpa using hf
             subst this;exact Nat.zero_le _
         · rcases List.mem_append.1 hl with hl|hl
           · exact h2.z5 _ hl
           · have:l=[]:=by simpa using hl
             subst this;exact Nat.zero_le _
         · obtain ⟨f,hf,hp⟩:=h.wt x hx
           exact ⟨f,by rw [List.getElem?_append_left (List.getElem?_eq_some_iff.1 hf).1];exact hf,hp⟩
     | code lb ins =>
       simp only [] at e
       have hpos:0<s.funcs.length:=by
        simp only [Zfh,Bool.not_not] at hfit
        cases hfe:s.funcs with
        | nil=>rw [hfe] at hfit;exact absurd rfl hfit
        | cons a r=>simp
       obtain ⟨k,hk⟩:∃ k,s.funcs.length=k+1:=⟨s.funcs.length - 1,by omega⟩
       have hlast:=Zaj s.funcs (0,0,0,[]) k hk
       have hlab:=Zaj s.labels [] k (by rw [h.e1];exact hk)
       split at e
       · cases e
       · rename_i mm hadd
         have hml:=Zro lb _ _ hadd
         have hl5:=h.z5 _ (List.mem_of_getElem? hlab)
         have h2:=Zgo (m':=m+(lb.length+1)) h (by omega)
         have hlabs:∀ l∈s.labels.set (s.labels.length - 1) mm,l.length<=m+(lb.length+1):=fun l hl=>by
          rcases List.mem_or_eq_of_mem_set hl with hl|hl
          · exact h2.z5 l hl
          · subst hl;omega
         split at e
         · injection e with e;subst e
           exact ⟨h2.z1,h2.z2,h2.z3,hlabs,h2.z7,by simp [h.e1],h.e2,h.wt⟩
         · rename_i n a w
           injection e with e;subst e
           have hkf:k<s.funcs.length:=by omega
           have hput:Jr s (n,a)=s.funcs.set k ((s.funcs.getLastD (0,0,0,[])).1,(s.funcs.getLastD (0,0,0,[])).2.1,(s.funcs.getLastD (0,0,0,[])).2.2.1,(s.funcs.getLastD (0,0,0,[])).2.2.2++[(n,a)]):=by
            unfold Jr Xr;rw [hk,Nat.add_sub_cancel]
           have hold:∀ x:Zdz,(∃ f,s.funcs[x.fn]? = some f/\x.pl<f.2.2.2.length)->∃ f,(Jr s (n,a))[x.fn]? = some f/\x.pl<f.2.2.2.length:=fun x hx=>by
            obtain ⟨f,hf,hp⟩:=hx
            rw [hput]
            by_cases e9:x.fn=k
            · rw [e9] at hf ⊢
              rw [hlast] at hf
              injection hf with hf
              exact ⟨_,List.getElem?_set_self hkf,by simp only [List.length_append,List.length_singleton];rw [hf];omega⟩
            · exact ⟨f,by rw [List.getElem?_set_ne (Ne.symm e9)];exact hf,hp⟩
           refine ⟨h2.z1,by show (Jr s (n,a)).length<=_;rw [hput,List.length_set];exact h2.z2,fun f hf => ?_,hlabs,?_,by show (s.labels.set _ _).length=(Jr s (n,a)).length;rw [hput,List.length_set,List.length_set];exact h.e1,by show _=(Jr s (n,a)).length;rw [hput,List.length_set];exact h.e2,fun x hx => ?_⟩
           · have hf2:f∈Jr s (n,a):=hf
             rw [hput] at hf2
             rcases List.mem_or_eq_of_mem_set hf2 with hf2|hf2
             · exact h2.z3 f hf2
             · subst hf2
               have:=h.z3 _ (List.mem_of_getElem? hlast)
               simp only [List.length_append,List.length_singleton,sdC];omega
           · cases w with
             | none=>exact h2.z7
             | some t=>have:=h.z7;simp only [List.length_append,List.length_singleton,sdC];omega
           · cases w with
             | none=>exact hold x (h.wt x hx)
             | some t =>
               have hx2:x∈s.wants++[⟨s.funcs.length - 1,(Xr s).2.2.2.length,line,t,TT.kind n == 3⟩]:=hx
               rcases List.mem_append.1 hx2 with hx2|hx2
               · exact hold x (h.wt x hx2)
               · have:x=⟨s.funcs.length - 1,(Xr s).2.2.2.length,line,t,TT.kind n == 3⟩:=by simpa using hx2
                 subst this
                 rw [hput]
                 simp only [hk,Nat.add_sub_cancel]
                 exact ⟨_,List.getElem?_set_self hkf,by unfold Xr;simp only [List.length_append,List.length_singleton];omega⟩
theorem Ylc {c:UInt8} {r:Txt} (h:Ycr c=true):(c::r).take (Zcy (c::r))≠[]:=by
 have:tlB c=true:=by unfold tlB tlI;unfold Ycr at h;rw [h];rfl
 unfold Zcy
 rw [List.takeWhile_cons,this]
 simp
theorem Zjs:∀ (f:Nat) (ap:Bool) (l:Txt) (ps:List Pc),Zpr f ap l=some ps->Pc.word [] ∉ ps
 | 0,_,_,_,h=>by cases h
 | f+1,ap,[],ps,h=>by rw [Zpr] at h;injection h with h;subst h;simp
 | f+1,ap,c::r,ps,h=>by
   rw [Zpr] at h
   split at h
   · injection h with h;subst h;simp
   · split at h
     · exact Zjs f true r ps h
     · split at h
       · obtain ⟨x,hx,h⟩:=Option.map_eq_some_iff.1 h
         subst h
         have:=Zjs f true r x hx
         intro hp
         rcases List.mem_cons.1 hp with hp|hp
         · cases hp
         · exact this hp
       · split at h
         · cases h
         · split at h
           · cases h
           · rename_i q k hq
             obtain ⟨x,hx,h⟩:=Option.map_eq_some_iff.1 h
             subst h
             have ih:=Zjs f false _ x hx
             intro hp
             rcases List.mem_cons.1 hp with hp|hp
             · subst hp
               rw [Zmm] at hq
               split at hq
               · rename_i hl
                 injection hq with hq
                 injection hq with hq _
                 injection hq with hq
                 exact Ylc hl hq
               · split at hq
                 · obtain ⟨y,hy,hq⟩:=Option.map_eq_some_iff.1 hq
                   injection hq with hq _;cases hq
                 · split at hq
                   · obtain ⟨y,hy,hq⟩:=Option.map_eq_some_iff.1 hq
                     injection hq with hq _;cases hq
                   · cases hq
             · exact ih hp
def Ywn:Sd->Prop
 | .code _ (some (n,_,w))=>0<=n/\w≠some []/\TT.kind n=Zai n
 | _=>True
theorem Ynj {lb:List Txt} {ps:List Pc} {sd:Sd} (hw:Pc.word [] ∉ ps) (h:Zfu TT lb ps=some sd):Ywn sd/\sdC sd<=lb.length+ps.length+1:=by
 cases ps with
 | nil=>injection h with h;subst h;exact ⟨True.intro,Nat.le_refl _⟩
 | cons p r =>
   cases p with
   | num n b=>cases h
   | str t=>cases h
   | colon=>cases h
   | word t =>
     unfold Zfu at h
     simp only [] at h
     cases hn:TT.named t with
     | none=>rw [hn] at h;cases h
     | some n =>
       rw [hn] at h
       have hn2:0<=n/\TT.kind n=Zai n:=by
        rw [Zth] at hn
        cases hp:Xb shapeT t with
        | none=>rw [hp] at hn;cases hn
        | some q =>
          rw [hp] at hn
          injection hn with hn
          have e:(q:Int)=n:=hn
          rw [<- e]
          exact ⟨Int.natCast_nonneg q,Yhv hp⟩
       obtain ⟨hn0,hnk⟩:=hn2
       have cst:∀ i,sdC (.code lb i)<=lb.length+(Pc.word t::r).length+1:=fun i=>by simp only [sdC,List.length_cons];omega
       simp only [] at h
       split at h
       · split at h
         · injection h with h;subst h;exact ⟨⟨hn0,by simp,hnk⟩,cst _⟩
         · cases h
       · split at h
         · injection h with h;subst h;exact ⟨⟨hn0,by simp,hnk⟩,cst _⟩
         · rename_i s
           split at h
           · obtain ⟨c,hc,h⟩:=Option.map_eq_some_iff.1 h
             subst h;exact ⟨⟨hn0,by simp,hnk⟩,cst _⟩
           · split at h
             · injection h with h;subst h
               refine ⟨⟨hn0,fun e => ?_,hnk⟩,cst _⟩
               injection e with e
               subst e
               exact hw (by simp)
             · cases h
         · cases h
theorem Zip:∀ (n:Nat) (ps:List Pc),ps.length<=n->(∀ p∈(Yb ps).2,p∈ps)/\(Yb ps).1.length+(Yb ps).2.length<=ps.length
 | 0,ps,hn=>by
   have:ps=[]:=List.eq_nil_of_length_eq_zero (by omega)
   subst this
   exact ⟨fun p hp=>hp,Nat.le_refl _⟩
 | n+1,ps,hn=>by
   by_cases hp:∃ t r,ps = .word t :: .colon::r
   · obtain ⟨t,r,rfl⟩:=hp
     obtain ⟨h1,h2⟩:=Zip n r (by simp only [List.length_cons] at hn;omega)
     refine ⟨fun p hp => ?_,?_⟩
     · have:=h1 p hp
       simp [this]
     · show (t::(Yb r).1).length+(Yb r).2.length<=_
       simp only [List.length_cons];omega
   · have:Yb ps=([],ps):=by
      unfold Yb
      split
      · exact absurd ⟨_,_,rfl⟩ hp
      · rfl
     rw [this]
     exact ⟨fun p hp=>hp,by simp⟩
theorem Yky {t:Txt} {sd:Sd} {big:Bool} (h:Znn t=some (sd,big)):Ywn sd/\sdC sd<=2*t.length+2:=by
 unfold Znn at h
 cases hp:Zpm t with
 | none=>rw [hp] at h;cases h
 | some ps =>
   rw [hp] at h
   obtain ⟨sd',hs,h⟩:=Option.map_eq_some_iff.1 h
   injection h with h _
   subst h
   obtain ⟨hlen,hwl⟩:=Zms hp
   have hw:=Zjs _ _ _ _ hp
   obtain ⟨hm,hll⟩:=Zip ps.length ps (Nat.le_refl _)
   have ins:∀ lb qs,Zfu TT lb qs=some sd'->(∀ p∈qs,p∈ps)->lb.length+qs.length<=ps.length->Ywn sd'/\sdC sd'<=2*t.length+2:=fun lb qs hi hq hl=>by
    obtain ⟨h1,h2⟩:=Ynj (fun e=>hw (hq _ e)) hi
    exact ⟨h1,by omega⟩
   unfold Zdj at hs
   cases ps with
   | nil=>injection hs with hs;subst hs;exact ⟨True.intro,by simp only [sdC];omega⟩
   | cons a r =>
     simp only [] at hs
     generalize a::r=qs at *
     split at hs
     · rename_i r2 hlq
       rw [hlq] at hm hll
       simp only [List.length_nil,Nat.zero_add] at hll
       unfold Zdl at hs
       split at hs
       · rename_i t2 r3
         split at hs
         · split at hs
           · injection hs with hs;subst hs;exact ⟨True.intro,by simp only [sdC];omega⟩
           · cases hs
         · split at hs
           · split at hs
             · rename_i b
               injection hs with hs;subst hs
               have:=hwl b (Or.inr (hm _ (by simp)))
               exact ⟨True.intro,by simp only [sdC];omega⟩
             · cases hs
           · split at hs
             · split at hs
               · injection hs with hs;subst hs;exact ⟨True.intro,by simp only [sdC];omega⟩
               · cases hs
             · exact ins _ _ hs hm (by simpa using hll)
       · exact ins _ _ hs hm (by simpa using hll)
     · rename_i lb r2 hlq
       rw [hlq] at hm hll
       exact ins _ _ hs hm hll
theorem Ynp {α:Type} {l:List (Txt × α)} {t:Txt} (h:(l.any fun x=>x.1 == t)=true):∃ n:Nat,Zmd (l.map fun x=>x.1) t=n:=by
 unfold Zmd
 cases he:(l.map fun x=>x.1).findIdx? (· == t) with
 | some i=>exact ⟨i,rfl⟩
 | none =>
   rw [List.findIdx?_eq_none_iff] at he
   obtain ⟨x,hx,hxt⟩:=List.any_eq_true.1 h
   have:=he x.1 (List.mem_map_of_mem hx)
   rw [this] at hxt;cases hxt
theorem Ytb {α:Type} {l:List (Txt × α)} {t:Txt} (h:(l.any fun x=>x.1 == t)=false):Zmd (l.map fun x=>x.1) t = -1:=by
 unfold Zmd
 rw [List.any_eq_false] at h
 rw [List.findIdx?_eq_none_iff.2]
 intro x hx
 obtain ⟨y,hy,rfl⟩:=List.mem_map.1 hx
 exact Bool.eq_false_iff.2 (h y hy)
theorem Ytc {l:List Txt} {t:Txt} (h:l.contains t=true):∃ n:Nat,Zmd l t=n:=by
 unfold Zmd
 cases he:l.findIdx? (· == t) with
 | some i=>exact ⟨i,rfl⟩
 | none =>
   rw [List.findIdx?_eq_none_iff] at he
   have:=he t (by simpa using h)
   simp at this
theorem Ynq {l:List Txt} {t:Txt} (h:l.contains t=false):Zmd l t = -1:=by
 unfold Zmd
 rw [List.findIdx?_eq_none_iff.2]
 intro x hx
 refine beq_eq_false_iff_ne.2 fun e => ?_
 subst e
 have:l.contains x=true:=by simpa using hx
 rw [this] at h;cases h
def Ybi (w0:World) (p:Nat) (r:Except Int St) (e:Ending) (w':World):Prop:=match r with
 | .ok s=>e = .returned (.int .i64 0)/\RDA w0 w' p (Zgb s)
 | .error y=>e = .returned (.int .i64 y)/\w0.grownBy w' none
theorem Ztj {w0 w':World} {p:Nat} {r:Except Int St} {y:Int} {e:Ending} (hr:r = .error y) (he:e = .returned (.int .i64 y)) (hg:w0.grownBy w' none):Ybi w0 p r e w':=by subst hr;exact ⟨he,hg⟩
theorem Ybp {w0 w':World} {p:Nat} {r:Except Int St} {s:St} {e:Ending} (hr:r = .ok s) (he:e = .returned (.int .i64 0)) (h:RDA w0 w' p (Zgb s)):Ybi w0 p r e w':=by subst hr;exact ⟨he,h⟩
theorem Ykn (s:St) (sd:Sd) (lp:Option Addr) (lc:Nat) (big:Bool):Zhv s.memSet s.funcs.length (sdF sd lp lc big).kind=Zfh s sd:=by
 have e0:decide (s.funcs.length=0)=s.funcs.isEmpty:=by cases s.funcs <;> rfl
 have e1:decide (0<s.funcs.length) = !s.funcs.isEmpty:=by cases s.funcs <;> rfl
 cases sd with
 | nothing=>rfl
 | mem n=>show (!s.memSet && decide (s.funcs.length=0))=_;rw [e0];rfl
 | data t=>show decide (s.funcs.length=0)=_;rw [e0];rfl
 | fn nm a l r=>rfl
 | code lb ins =>
   have:Zhv s.memSet s.funcs.length 4 = !s.funcs.isEmpty:=e1
   cases ins with
   | none=>exact this
   | some i=>obtain ⟨n,a,w⟩:=i;exact this
structure RdC (w:World) (b:Nat) (mem:Int) (vD vF:Value) (ms:Bool) (vN vL vP vW:Value):Prop where
 c0:w.cell? ⟨b,0,none⟩=some (.int .i64 mem)
 c1:w.cell? ⟨b,1,none⟩=some vD
 c2:w.cell? ⟨b,2,none⟩=some vF
 c3:w.cell? ⟨b,3,none⟩=some (.bool ms)
 c4:w.cell? ⟨b,4,none⟩=some vN
 c5:w.cell? ⟨b,5,none⟩=some vL
 c6:w.cell? ⟨b,6,none⟩=some vP
 c7:w.cell? ⟨b,7,none⟩=some vW
 z0:w.frozen? ⟨b,0,none⟩=false
 z1:w.frozen? ⟨b,1,none⟩=false
 z2:w.frozen? ⟨b,2,none⟩=false
 z3:w.frozen? ⟨b,3,none⟩=false
 z4:w.frozen? ⟨b,4,none⟩=false
 z5:w.frozen? ⟨b,5,none⟩=false
 z6:w.frozen? ⟨b,6,none⟩=false
 z7:w.frozen? ⟨b,7,none⟩=false
 lt:b<w.heap.size
theorem Zbn {w:World} {b:Nat} {mem:Int} {vD vF:Value} {ms:Bool} {vN vL vP vW:Value} (h:RdB w b mem vD vF ms vN vL vP vW):RdC w b mem vD vF ms vN vL vP vW :=
 ⟨Cq w _ 0 _ _ _ h,Cq w _ 1 _ _ _ h,Cq w _ 2 _ _ _ h,Cq w _ 3 _ _ _ h,Cq w _ 4 _ _ _ h,Cq w _ 5 _ _ _ h,Cq w _ 6 _ _ _ h,Cq w _ 7 _ _ _ h,frozen_of_row w _ 0 _ _ h,frozen_of_row w _ 1 _ _ h,frozen_of_row w _ 2 _ _ h,frozen_of_row w _ 3 _ _ h,frozen_of_row w _ 4 _ _ h,frozen_of_row w _ 5 _ _ h,frozen_of_row w _ 6 _ _ h,frozen_of_row w _ 7 _ _ h,(Gs h)⟩
theorem Zld {w w':World} {b E:Nat} {v0 v1 v2 v3 v4 v5 v6 v7 v8 v9 v10:Value} {t:TypeId} {sz n:Nat} {v:Value} {xs:List Value} (h:LnB w b v0 v1 v2 v3 v4 v5 v6 v7 v8 v9 v10) (ho:w.ownsRow E t sz v n xs) (ht:t≠86) (g:w.grownBy w' v.ownBlock):LnB w' b v0 v1 v2 v3 v4 v5 v6 v7 v8 v9 v10 :=
 Zf h g (Zn ho h ht)
theorem Yhk {w w':World} {b p:Nat} {v0 v1 v2 v3 v4 v5 v6 v7 v8 v9 v10:Value} {cs:Array Value} (h:LnB w b v0 v1 v2 v3 v4 v5 v6 v7 v8 v9 v10) (hp:w.heap[p]? = some (.cells cs 83 (0,0))) (g:w.grownBy w' (some p)):LnB w' b v0 v1 v2 v3 v4 v5 v6 v7 v8 v9 v10 :=
 Zf h g (fun e=>by
  injection e with e
  subst e
  rw [show w.heap[p]? = _ from h] at hp
  injection hp with hp
  injection hp with _ h2 _
  exact absurd h2 (by decide))
theorem Ybq (x:LnF) (w0 w1 w:World) (p:Nat) (s:St) (line:Int) (h:RDA w0 w1 p (Zgb s)) (g1:w1.grownBy w none) (hf:Zhv s.memSet s.funcs.length x.kind=false):
 Calls Tryz.prog 33 #[.pointer (some ⟨p,0,none⟩),lnA x,.int .i64 line] w fun e w'=>e = .returned (.int .i64 141)/\w0.grownBy w' none:=by
 obtain ⟨vD,vF,vN,vL,vP,vW,cv,lv,pv,hA⟩:=h
 obtain ⟨pD,pF,cD,cF,e1,e2⟩:=Zax hA.ins.own
 rw [Yh] at e1
 replace e1:vD = .slice pD s.data.length cD:=e1
 replace e2:vF = .slice pF s.funcs.length cF:=e2
 subst e1 e2
 go_enter Tryz.func33,Tryz.ntmps33
 go_upto_region 1 with fail
 have gA:=Ga w (.cells #[.int .i64 x.kind,.slice x.lp x.ln x.lc,.string (bs x.name),.int .i64 x.n0,.int .i64 x.n1,.int .i64 x.n2,.string (bs x.data),.int .i64 x.op,.int .i64 x.a,.string (bs x.word),.bool x.big] 86 (0,0)) none
 have A:=Hq (Zs hA (Za g1 gA))
 have LB:=Hq (Zcp w (.int .i64 x.kind) (.slice x.lp x.ln x.lc) (.string (bs x.name)) (.int .i64 x.n0) (.int .i64 x.n1) (.int .i64 x.n2) (.string (bs x.data)) (.int .i64 x.op) (.int .i64 x.a) (.string (bs x.word)) (.bool x.big))
 generalize w.alloc (.cells #[.int .i64 x.kind,.slice x.lp x.ln x.lc,.string (bs x.name),.int .i64 x.n0,.int .i64 x.n1,.int .i64 x.n2,.string (bs x.data),.int .i64 x.op,.int .i64 x.a,.string (bs x.word),.bool x.big] 86 (0,0))=W1 at *
 generalize w.heap.size=bx at *
 clear hA gA g1
 have FT:=Hq (Zcz x p s.mem (.slice pD s.data.length cD) pF s.funcs.length cF s.memSet vN vL vP vW W1 A.out.box)
 rw [hf] at FT
 obtain ⟨d0,d1,d2,d3,d4,d5,d6,d7,d8,d9,d10,dz,hlb⟩:=Zr LB.out
 go_wp2_with (go_at_call 63;refine FT.out.mono ?_;rintro e W2 ⟨rfl,hg2⟩;have A:=Hq (Zs A.out hg2);have LB:=Hq (Yp LB.out hg2 (by simp));skip;clear hg2 d0 d1 d2 d3 d4 d5 d6 d7 d8 d9 d10 dz hlb)
 go_ret
 exact ⟨rfl,A.out.gr⟩
theorem Yko (x:LnF) (w0 w1 w:World) (p:Nat) (s:St) (line:Int) (h:RDA w0 w1 p (Zgb s)) (g1:w1.grownBy w none) (hf:Zhv s.memSet s.funcs.length x.kind=true) (hb:x.big=true):
 Calls Tryz.prog 33 #[.pointer (some ⟨p,0,none⟩),lnA x,.int .i64 line] w fun e w'=>e = .returned (.int .i64 143)/\w0.grownBy w' none:=by
 have HB:=Hq hb
 clear hb
 obtain ⟨vD,vF,vN,vL,vP,vW,cv,lv,pv,hA⟩:=h
 obtain ⟨pD,pF,cD,cF,e1,e2⟩:=Zax hA.ins.own
 rw [Yh] at e1
 replace e1:vD = .slice pD s.data.length cD:=e1
 replace e2:vF = .slice pF s.funcs.length cF:=e2
 subst e1 e2
 go_enter Tryz.func33,Tryz.ntmps33
 go_upto_region 1 with fail
 have gA:=Ga w (.cells #[.int .i64 x.kind,.slice x.lp x.ln x.lc,.string (bs x.name),.int .i64 x.n0,.int .i64 x.n1,.int .i64 x.n2,.string (bs x.data),.int .i64 x.op,.int .i64 x.a,.string (bs x.word),.bool x.big] 86 (0,0)) none
 have A:=Hq (Zs hA (Za g1 gA))
 have LB:=Hq (Zcp w (.int .i64 x.kind) (.slice x.lp x.ln x.lc) (.string (bs x.name)) (.int .i64 x.n0) (.int .i64 x.n1) (.int .i64 x.n2) (.string (bs x.data)) (.int .i64 x.op) (.int .i64 x.a) (.string (bs x.word)) (.bool x.big))
 generalize w.alloc (.cells #[.int .i64 x.kind,.slice x.lp x.ln x.lc,.string (bs x.name),.int .i64 x.n0,.int .i64 x.n1,.int .i64 x.n2,.string (bs x.data),.int .i64 x.op,.int .i64 x.a,.string (bs x.word),.bool x.big] 86 (0,0))=W1 at *
 generalize w.heap.size=bx at *
 clear hA gA g1
 have FT:=Hq (Zcz x p s.mem (.slice pD s.data.length cD) pF s.funcs.length cF s.memSet vN vL vP vW W1 A.out.box)
 rw [hf] at FT
 obtain ⟨d0,d1,d2,d3,d4,d5,d6,d7,d8,d9,d10,dz,hlb⟩:=Zr LB.out
 go_upto_region 3 with (go_at_call 63;refine FT.out.mono ?_;rintro e W2 ⟨rfl,hg2⟩;have A:=Hq (Zs A.out hg2);have LB:=Hq (Yp LB.out hg2 (by simp));skip;clear hg2 d0 d1 d2 d3 d4 d5 d6 d7 d8 d9 d10 dz hlb)
 obtain ⟨c0,c1,c2,c3,c4,c5,c6,c7,z0,z1,z2,z3,z4,z5,z6,z7,hlt⟩:=Zbn (show RdB W2 p s.mem (.slice pD s.data.length cD) (.slice pF s.funcs.length cF) s.memSet vN vL vP vW from A.out.box)
 obtain ⟨d0,d1,d2,d3,d4,d5,d6,d7,d8,d9,d10,dz,hlb⟩:=Zr LB.out
 rw [HB.out] at d10
 go_wp2
 go_ret
 exact ⟨rfl,A.out.gr⟩
theorem Yet (w0 w1 w:World) (p:Nat) (s:St) (line:Int) (h:RDA w0 w1 p (Zgb s)) (g1:w1.grownBy w none) (hf:Zhv s.memSet s.funcs.length 0=true):
 Calls Tryz.prog 33 #[.pointer (some ⟨p,0,none⟩),lnA ⟨0,none,0,0,[],0,0,0,[],0,0,[],false⟩,.int .i64 line] w fun e w'=>e = .returned (.int .i64 0)/\RDA w0 w' p (Zgb s):=by
 obtain ⟨vD,vF,vN,vL,vP,vW,cv,lv,pv,hA⟩:=h
 obtain ⟨pD,pF,cD,cF,e1,e2⟩:=Zax hA.ins.own
 rw [Yh] at e1
 replace e1:vD = .slice pD s.data.length cD:=e1
 replace e2:vF = .slice pF s.funcs.length cF:=e2
 subst e1 e2
 go_enter Tryz.func33,Tryz.ntmps33
 go_upto_region 1 with fail
 have gA:=Ga w (.cells #[.int .i64 0,.slice none 0 0,.string (bs []),.int .i64 0,.int .i64 0,.int .i64 0,.string (bs []),.int .i64 0,.int .i64 0,.string (bs []),.bool false] 86 (0,0)) none
 have A:=Hq (Zs hA (Za g1 gA))
 have LB:=Hq (Zcp w (.int .i64 0) (.slice none 0 0) (.string (bs [])) (.int .i64 0) (.int .i64 0) (.int .i64 0) (.string (bs [])) (.int .i64 0) (.int .i64 0) (.string (bs [])) (.bool false))
 generalize w.alloc (.cells #[.int .i64 0,.slice none 0 0,.string (bs []),.int .i64 0,.int .i64 0,.int .i64 0,.string (bs []),.int .i64 0,.int .i64 0,.string (bs []),.bool false] 86 (0,0))=W1 at *
 generalize w.heap.size=bx at *
 clear hA gA g1
 have FT:=Hq (Zcz ⟨0,none,0,0,[],0,0,0,[],0,0,[],false⟩ p s.mem (.slice pD s.data.length cD) pF s.funcs.length cF s.memSet vN vL vP vW W1 A.out.box)
 rw [hf] at FT
 obtain ⟨d0,d1,d2,d3,d4,d5,d6,d7,d8,d9,d10,dz,hlb⟩:=Zr LB.out
 go_upto_region 3 with (go_at_call 63;refine FT.out.mono ?_;rintro e W2 ⟨rfl,hg2⟩;have A:=Hq (Zs A.out hg2);have LB:=Hq (Yp LB.out hg2 (by simp));skip;clear hg2 d0 d1 d2 d3 d4 d5 d6 d7 d8 d9 d10 dz hlb)
 obtain ⟨c0,c1,c2,c3,c4,c5,c6,c7,z0,z1,z2,z3,z4,z5,z6,z7,hlt⟩:=Zbn (show RdB W2 p s.mem (.slice pD s.data.length cD) (.slice pF s.funcs.length cF) s.memSet vN vL vP vW from A.out.box)
 obtain ⟨d0,d1,d2,d3,d4,d5,d6,d7,d8,d9,d10,dz,hlb⟩:=Zr LB.out
 go_wp2
 go_ret
 exact ⟨rfl,_,_,_,_,_,_,_,_,_,A.out⟩
theorem Ykm (n:Int) (w0 w1 w:World) (p:Nat) (s:St) (line:Int) (h:RDA w0 w1 p (Zgb s)) (g1:w1.grownBy w none) (hf:Zhv s.memSet s.funcs.length 1=true):
 Calls Tryz.prog 33 #[.pointer (some ⟨p,0,none⟩),lnA ⟨1,none,0,0,[],n,0,0,[],0,0,[],false⟩,.int .i64 line] w fun e w'=>e = .returned (.int .i64 0)/\RDA w0 w' p (Zgb { s with mem:=n,memSet:=true }):=by
 obtain ⟨vD,vF,vN,vL,vP,vW,cv,lv,pv,hA⟩:=h
 obtain ⟨pD,pF,cD,cF,e1,e2⟩:=Zax hA.ins.own
 rw [Yh] at e1
 replace e1:vD = .slice pD s.data.length cD:=e1
 replace e2:vF = .slice pF s.funcs.length cF:=e2
 subst e1 e2
 go_enter Tryz.func33,Tryz.ntmps33
 go_upto_region 1 with fail
 have gA:=Ga w (.cells #[.int .i64 1,.slice none 0 0,.string (bs []),.int .i64 n,.int .i64 0,.int .i64 0,.string (bs []),.int .i64 0,.int .i64 0,.string (bs []),.bool false] 86 (0,0)) none
 have A:=Hq (Zs hA (Za g1 gA))
 have LB:=Hq (Zcp w (.int .i64 1) (.slice none 0 0) (.string (bs [])) (.int .i64 n) (.int .i64 0) (.int .i64 0) (.string (bs [])) (.int .i64 0) (.int .i64 0) (.string (bs [])) (.bool false))
 generalize w.alloc (.cells #[.int .i64 1,.slice none 0 0,.string (bs []),.int .i64 n,.int .i64 0,.int .i64 0,.string (bs []),.int .i64 0,.int .i64 0,.string (bs []),.bool false] 86 (0,0))=W1 at *
 generalize w.heap.size=bx at *
 clear hA gA g1
 have FT:=Hq (Zcz ⟨1,none,0,0,[],n,0,0,[],0,0,[],false⟩ p s.mem (.slice pD s.data.length cD) pF s.funcs.length cF s.memSet vN vL vP vW W1 A.out.box)
 rw [hf] at FT
 obtain ⟨d0,d1,d2,d3,d4,d5,d6,d7,d8,d9,d10,dz,hlb⟩:=Zr LB.out
 go_upto_region 3 with (go_at_call 63;refine FT.out.mono ?_;rintro e W2 ⟨rfl,hg2⟩;have A:=Hq (Zs A.out hg2);have LB:=Hq (Yp LB.out hg2 (by simp));skip;clear hg2 d0 d1 d2 d3 d4 d5 d6 d7 d8 d9 d10 dz hlb)
 obtain ⟨c0,c1,c2,c3,c4,c5,c6,c7,z0,z1,z2,z3,z4,z5,z6,z7,hlt⟩:=Zbn (show RdB W2 p s.mem (.slice pD s.data.length cD) (.slice pF s.funcs.length cF) s.memSet vN vL vP vW from A.out.box)
 obtain ⟨d0,d1,d2,d3,d4,d5,d6,d7,d8,d9,d10,dz,hlb⟩:=Zr LB.out
 go_wp2
 go_ret
 exact ⟨rfl,_,_,_,_,_,_,_,_,_,Yll A.out n⟩
def td:Nat->Nat
 | 0=>38
 | 1=>39
 | 2=>40
 | 3=>41
 | 4=>42
 | 5=>43
 | 6=>44
 | 7=>45
 | 8=>46
 | 9=>47
 | 10=>48
 | 11=>49
 | 12=>1012
 | _=>5000
theorem Zkm:∀ i,i<13->∀ j,j<13->j≠i->td j≠td i:=by decide
theorem Yqp (i:Nat) (h:i<13):i=0\/i=1\/i=2\/i=3\/i=4\/i=5\/i=6\/i=7\/i=8\/i=9\/i=10\/i=11\/i=12:=by omega
theorem Yes (j:Nat) (hj:j∈[0,4]):∀ i,i<13->td i≠j:=by revert j;decide
def tdv (E p bx nd cd nn:Nat) (pd:Option Addr) (tx:ByteArray) (ys:List Value) (pv:Option Addr) (cv9:Nat):Nat->Value
 | 0 => .pointer (some ⟨p,0,none⟩)
 | 1 => .pointer (some ⟨p,0,none⟩)
 | 2 => .pointer (some ⟨p,0,none⟩)
 | 3 => .pointer (some ⟨p,0,none⟩)
 | 4 => .pointer (some ⟨p,1,none⟩)
 | 5 => .slice pd nd cd
 | 6 => .pointer (some ⟨bx,6,none⟩)
 | 7 => .string tx
 | 8 => .slice pv nn cv9
 | 9 => .pointer (some ⟨p,0,none⟩)
 | 10 => .pointer (some ⟨p,0,none⟩)
 | 11 => .pointer (some ⟨p,1,none⟩)
 | 12=>undef
 | _=>undef
def tdF (E p bx nd cd nn:Nat) (pd:Option Addr) (tx:ByteArray) (ys:List Value) (pv:Option Addr) (cv9:Nat):Nat->World->Prop
 | 8=>fun w9=>w9.ownsRow E 5 1 (.slice pv nn cv9) nn ys
 | _=>fun _=>True
theorem Ywt {E p bx nd cd nn:Nat} {pd:Option Addr} {tx:ByteArray} {ys:List Value} {pv:Option Addr} {cv9:Nat} {pv2:Option Addr} {cv92:Nat} {l:Array Bool} (hcl:∀ p∈([(2,1),(3,2),(4,3),(5,4),(7,6),(8,5),(8,7),(9,0),(10,9),(11,10),(12,11),(12,8)]:List (Nat × Nat)),l.getD (Prod.fst p) false=true->l.getD (Prod.snd p) false=true) (hun:l.getD 8 false=false):∀ i,i<13->l.getD i false=true->td i<236->tdv E p bx nd cd nn pd tx ys pv2 cv92 i=tdv E p bx nd cd nn pd tx ys pv cv9 i:=by
 intro i hi hl _
 rcases Yqp i hi with rfl|rfl|rfl|rfl|rfl|rfl|rfl|rfl|rfl|rfl|rfl|rfl|rfl <;> first|rfl|exact Zk (hl) hun
theorem Yew (t:Txt) (w0 w1 w:World) (p:Nat) (s:St) (line:Int) (h:RDA w0 w1 p (Zgb s)) (g1:w1.grownBy w none) (hf:Zhv s.memSet s.funcs.length 2=true) (hm:s.data.length+t.length<=1000000) :
 Calls Tryz.prog 33 #[.pointer (some ⟨p,0,none⟩),lnA ⟨2,none,0,0,[],0,0,0,t,0,0,[],false⟩,.int .i64 line] w fun e w'=>e = .returned (.int .i64 0)/\RDA w0 w' p (Zgb { s with data:=s.data++t }):=by
 obtain ⟨vD,vF,vN,vL,vP,vW,cv,lv,pv,hA⟩:=h
 obtain ⟨pD,pF,cD,cF,e1,e2⟩:=Zax hA.ins.own
 rw [Yh] at e1
 replace e1:vD = .slice pD s.data.length cD:=e1
 replace e2:vF = .slice pF s.funcs.length cF:=e2
 subst e1 e2
 go_enter Tryz.func33,Tryz.ntmps33
 go_upto_region 1 with fail
 have gA:=Ga w (.cells #[.int .i64 2,.slice none 0 0,.string (bs []),.int .i64 0,.int .i64 0,.int .i64 0,.string (bs t),.int .i64 0,.int .i64 0,.string (bs []),.bool false] 86 (0,0)) none
 have A:=Hq (Zs hA (Za g1 gA))
 have LB:=Hq (Zcp w (.int .i64 2) (.slice none 0 0) (.string (bs [])) (.int .i64 0) (.int .i64 0) (.int .i64 0) (.string (bs t)) (.int .i64 0) (.int .i64 0) (.string (bs [])) (.bool false))
 generalize w.alloc (.cells #[.int .i64 2,.slice none 0 0,.string (bs []),.int .i64 0,.int .i64 0,.int .i64 0,.string (bs t),.int .i64 0,.int .i64 0,.string (bs []),.bool false] 86 (0,0))=W1 at *
 generalize w.heap.size=bx at *
 clear hA gA g1
 have FT:=Hq (Zcz ⟨2,none,0,0,[],0,0,0,t,0,0,[],false⟩ p s.mem (.slice pD s.data.length cD) pF s.funcs.length cF s.memSet vN vL vP vW W1 A.out.box)
 rw [hf] at FT
 obtain ⟨d0,d1,d2,d3,d4,d5,d6,d7,d8,d9,d10,dz,hlb⟩:=Zr LB.out
 go_upto_region 3 with (go_at_call 63;refine FT.out.mono ?_;rintro e W2 ⟨rfl,hg2⟩;have A:=Hq (Zs A.out hg2);have LB:=Hq (Yp LB.out hg2 (by simp));skip;clear hg2 d0 d1 d2 d3 d4 d5 d6 d7 d8 d9 d10 dz hlb)
 obtain ⟨c0,c1,c2,c3,c4,c5,c6,c7,z0,z1,z2,z3,z4,z5,z6,z7,hlt⟩:=Zbn (show RdB W2 p s.mem (.slice pD s.data.length cD) (.slice pF s.funcs.length cF) s.memSet vN vL vP vW from A.out.box)
 obtain ⟨d0,d1,d2,d3,d4,d5,d6,d7,d8,d9,d10,dz,hlb⟩:=Zr LB.out
 have hts:=Zl t
 obtain ⟨bi,bi0,bi1,bi2,bi3⟩:=info_parts Zaz
 have HNE:some p≠(Value.slice pD s.data.length cD).ownBlock:=fun e=>Zn A.out.ins.own.dt A.out.box (by decide) e.symm
 have HNB:some bx≠(Value.slice pD s.data.length cD).ownBlock:=fun e=>Zn A.out.ins.own.dt LB.out (by decide) e.symm
 have hE:=A.out.gr.size
 have AD:=Hq (Zs A.out (Ze (Zb W2 none)))
 obtain ⟨vb,hvb⟩:∃ vb,(Value.slice pD s.data.length cD).ownBlock=vb:=⟨_,rfl⟩
 rw [hvb] at HNE HNB
 go_upto_region 11 with fail
 (try rename_i K11 hK11)
 refine Yd (n:=13) (J:=fun a0 l a1 w1=>∃ (pv:Option Addr) (cv9:Nat),RJ a0 236 13 td (tdv w0.heap.size p bx s.data.length cD (s.data.length+t.length) pD (bs t) ((Zcq s.data).map (Value.int .u8)++(Zcq t).map (Value.int .u8)) pv cv9) l a1/\Zas 12 13 8 [(2,1),(3,2),(4,3),(5,4),(7,6),(8,5),(8,7),(9,0),(10,9),(11,10),(12,11),(12,8)] [] (fun w9=>World.grownBy W2.drew w9 vb) (fun w9=>w9.ownsRow w0.heap.size 5 1 (.slice pD s.data.length cD) s.data.length ((Zcq s.data).map (Value.int .u8))) (tdF w0.heap.size p bx s.data.length cD (s.data.length+t.length) pD (bs t) ((Zcq s.data).map (Value.int .u8)++(Zcq t).map (Value.int .u8)) pv cv9) (fun w9=>∃ (w8:World),World.grownBy W2.drew w8 vb/\w8.ownsRow w0.heap.size 5 1 (.slice pv (s.data.length+t.length) cv9) (s.data.length+t.length) ((Zcq s.data).map (Value.int .u8)++(Zcq t).map (Value.int .u8))/\w9=w8.setCell ⟨p,1,none⟩ (.slice pv (s.data.length+t.length) cv9)) l w1) (by kernel_rfl) rfl (Yt (by kernel_rfl)) (fun l a1 w1 h=>by obtain ⟨_,_,h,_⟩:=h;exact h.sz) ⟨none,0,Yc rfl,Zu (Zb _ _) (by have:=AD.out.ins.own.dt;rw [Yh] at this;exact this)⟩ ?step ?fin
 case step =>
  intro l a1 w' i hJJ hi hin
  obtain ⟨pv,cv9,hJ,hW⟩:=hJJ
  have hun:l.getD i false=false:=getD_both (mem_ready.1 hi).1
  have hns:=Xe hW hin hun
  have hg:=hW.g hns
  have l0:=Nat.lt_of_lt_of_le hlt hg.size
  have l1:=Nat.lt_of_lt_of_le hlb hg.size
  rcases Yqp i hin with rfl|rfl|rfl|rfl|rfl|rfl|rfl|rfl|rfl|rfl|rfl|rfl|rfl
  · have e0:a1.tmps.getD 0 undef = .pointer (some ⟨p,0,none⟩):=hJ.un 0 (fun i hi _=>Yes 0 (by decide) i hi)
    exact Zc (Zd hJ hW hi hun (hne:=Zkm _ (by decide)) (hrun:=by simp [execOp,Act.eval,e0,go_sem,tdv])) (fun a9 w9 h9=>⟨pv,cv9,h9⟩)
  · have e0:a1.tmps.getD 0 undef = .pointer (some ⟨p,0,none⟩):=hJ.un 0 (fun i hi _=>Yes 0 (by decide) i hi)
    exact Zc (Zd hJ hW hi hun (hne:=Zkm _ (by decide)) (hrun:=by simp [execOp,Act.eval,e0,go_sem,tdv])) (fun a9 w9 h9=>⟨pv,cv9,h9⟩)
  · have e39:a1.tmps.getD 39 undef = .pointer (some ⟨p,0,none⟩):=rjt hJ hi 1
    exact Zc (Zd hJ hW hi hun (hne:=Zkm _ (by decide)) (hrun:=by simp [execOp,Act.eval,e39,go_sem,tdv])) (fun a9 w9 h9=>⟨pv,cv9,h9⟩)
  · have e40:a1.tmps.getD 40 undef = .pointer (some ⟨p,0,none⟩):=rjt hJ hi 2
    exact Zc (Zd hJ hW hi hun (hne:=Zkm _ (by decide)) (hrun:=by simp [execOp,Act.eval,e40,go_sem,tdv])) (fun a9 w9 h9=>⟨pv,cv9,h9⟩)
  · have e41:a1.tmps.getD 41 undef = .pointer (some ⟨p,0,none⟩):=rjt hJ hi 3
    exact Zc (Zd hJ hW hi hun (hne:=Zkm _ (by decide)) (hrun:=by simp [execOp,Act.eval,e41,go_sem,tdv])) (fun a9 w9 h9=>⟨pv,cv9,h9⟩)
  · have e42:a1.tmps.getD 42 undef = .pointer (some ⟨p,1,none⟩):=rjt hJ hi 4
    have h0:=hg.cell c1 HNE
    exact Zc (Zd hJ hW hi hun (hne:=Zkm _ (by decide)) (hrun:=by simp [execOp,Act.eval,e42,h0,l0,l1,go_sem,tdv])) (fun a9 w9 h9=>⟨pv,cv9,h9⟩)
  · have e4:a1.tmps.getD 4 undef = .pointer (some ⟨bx,0,none⟩):=hJ.un 4 (fun i hi _=>Yes 4 (by decide) i hi)
    exact Zc (Zd hJ hW hi hun (hne:=Zkm _ (by decide)) (hrun:=by simp [execOp,Act.eval,e4,go_sem,tdv])) (fun a9 w9 h9=>⟨pv,cv9,h9⟩)
  · have e44:a1.tmps.getD 44 undef = .pointer (some ⟨bx,6,none⟩):=rjt hJ hi 6
    have h0:=hg.cell d6 HNB
    exact Zc (Zd hJ hW hi hun (hne:=Zkm _ (by decide)) (hrun:=by simp [execOp,Act.eval,e44,h0,l0,l1,go_sem,tdv])) (fun a9 w9 h9=>⟨pv,cv9,h9⟩)
  · have e43:a1.tmps.getD 43 undef = .slice pD s.data.length cD:=rjt hJ hi 5
    have e45:a1.tmps.getD 45 undef = .string (bs t):=rjt hJ hi 7
    have own:=hW.u hun
    obtain ⟨v8,w8,hap,hown,hgr,-⟩:=Lib.run_append_own_string (P:=Tryz.prog) (w:=w') w0.heap.size 23 9 23 5 bi Xv Xl bi0 bi1 bi2 bi3 _ s.data.length ((Zcq s.data).map (Value.int .u8)) own (bs t) (by unfold maxLen;omega) (by omega) (Nat.le_trans hE hg.size)
    rw [hts,Znj] at hown
    rw [hvb] at hgr
    obtain ⟨pv2,cv92,hv⟩:=Zi hown
    subst hv
    refine Zt (v:=tdv w0.heap.size p bx s.data.length cD (s.data.length+t.length) pD (bs t) ((Zcq s.data).map (Value.int .u8)++(Zcq t).map (Value.int .u8)) pv2 cv92 8) (w':=w8) rfl (by rfl) (by simp [execOp,resolve,invoke,builtin,Act.eval,e43,e45,hap,Result.andThen,tdv]) ⟨pv2,cv92,?_,Zo hW (by decide) hun (by decide) (Zg _ hi (by kernel_rfl)) (Za hg hgr) (fun hne0 hun0 hB0=>absurd rfl hne0) (fun j hj hne hl hcu hF => ?_) (hown)⟩
    · exact Yg (val:=tdv w0.heap.size p bx s.data.length cD (s.data.length+t.length) pD (bs t) ((Zcq s.data).map (Value.int .u8)++(Zcq t).map (Value.int .u8)) pv2 cv92) (Yj hJ (Ywt hW.cl hun)) (by decide) (by decide) (Zkm _ (by decide))
    · rcases Yqp j hj with rfl|rfl|rfl|rfl|rfl|rfl|rfl|rfl|rfl|rfl|rfl|rfl|rfl <;> first|exact True.intro|exact absurd rfl hne
  · have e38:a1.tmps.getD 38 undef = .pointer (some ⟨p,0,none⟩):=rjt hJ hi 0
    exact Zc (Zd hJ hW hi hun (hne:=Zkm _ (by decide)) (hrun:=by simp [execOp,Act.eval,e38,go_sem,tdv])) (fun a9 w9 h9=>⟨pv,cv9,h9⟩)
  · have e47:a1.tmps.getD 47 undef = .pointer (some ⟨p,0,none⟩):=rjt hJ hi 9
    exact Zc (Zd hJ hW hi hun (hne:=Zkm _ (by decide)) (hrun:=by simp [execOp,Act.eval,e47,go_sem,tdv])) (fun a9 w9 h9=>⟨pv,cv9,h9⟩)
  · have e48:a1.tmps.getD 48 undef = .pointer (some ⟨p,0,none⟩):=rjt hJ hi 10
    exact Zc (Zd hJ hW hi hun (hne:=Zkm _ (by decide)) (hrun:=by simp [execOp,Act.eval,e48,go_sem,tdv])) (fun a9 w9 h9=>⟨pv,cv9,h9⟩)
  · have e49:a1.tmps.getD 49 undef = .pointer (some ⟨p,1,none⟩):=rjt hJ hi 11
    have e46:a1.tmps.getD 46 undef = .slice pv (s.data.length+t.length) cv9:=rjt hJ hi 8
    have F8:=hW.f hns 8 (by decide) (Zq hi 8 (by kernel_rfl)) (Zat (by decide))
    have bx2:=hg.block p hlt HNE
    have k1:=hg.cell c1 HNE
    have j1:w'.frozen? ⟨p,1,none⟩=false:=(World.frozen?_of_block bx2).trans z1
    have lb2:=Nat.lt_of_lt_of_le hlt hg.size
    have hall:∀ j,j<13->j≠12->l.getD j false=true:=Jp hi hW.cl (by kernel_rfl)
    exact Zc (Jo (WS:=fun l9 w9=>Zas 12 13 8 [(2,1),(3,2),(4,3),(5,4),(7,6),(8,5),(8,7),(9,0),(10,9),(11,10),(12,11),(12,8)] [] (fun w9=>World.grownBy W2.drew w9 vb) (fun w9=>w9.ownsRow w0.heap.size 5 1 (.slice pD s.data.length cD) s.data.length ((Zcq s.data).map (Value.int .u8))) (tdF w0.heap.size p bx s.data.length cD (s.data.length+t.length) pD (bs t) ((Zcq s.data).map (Value.int .u8)++(Zcq t).map (Value.int .u8)) pv cv9) (fun w9=>∃ (w8:World),World.grownBy W2.drew w8 vb/\w8.ownsRow w0.heap.size 5 1 (.slice pv (s.data.length+t.length) cv9) (s.data.length+t.length) ((Zcq s.data).map (Value.int .u8)++(Zcq t).map (Value.int .u8))/\w9=w8.setCell ⟨p,1,none⟩ (.slice pv (s.data.length+t.length) cv9)) l9 w9) hJ rfl rfl rfl (by decide) (by decide) (w':=w'.setCell ⟨p,1,none⟩ (.slice pv (s.data.length+t.length) cv9)) (by simp [execOp,Act.eval,e49,e46,k1,j1,lb2,go_sem]) (Xa hW (by decide) (by decide) hall (Zg _ hi (by kernel_rfl)) (⟨w',hg,F8,rfl⟩))) (fun a9 w9 h9=>⟨pv,cv9,h9⟩)
 case fin =>
  intro l9 a1 w9 hJJ hl9
  obtain ⟨pv,cv9,hJ,hW⟩:=hJJ
  have hq:=hW.q (hl9 12 (by decide))
  have hput:=Ys hJ rfl hl9 (fun i j h1 h2 h3=>Zkm j h2 i h1 h3)
  subst hput
  clear hJ hW hl9
  obtain ⟨w8,q1,q2,rfl⟩:=hq
  (try refine hK11 _ _ ?_)
  simp only [Ja,td,tdv,Act.put,List.setIfInBounds_toArray,List.set_cons_zero,List.set_cons_succ]
  have M:=Hq (Ygc (t:=t) AD.out (by rw [List.length_append,Zof,List.map_append];exact q2) (by rw [hvb];exact q1))
  clear q1 q2
  generalize w8.setCell ⟨p,1,none⟩ (.slice pv (s.data.length+t.length) cv9)=w5 at M ⊢
  go_wp2
  go_ret
  exact ⟨rfl,_,_,_,_,_,_,_,_,_,M.out⟩
end Go.Proofs.YteciblfmgdlipaaGreatDoor.AS
