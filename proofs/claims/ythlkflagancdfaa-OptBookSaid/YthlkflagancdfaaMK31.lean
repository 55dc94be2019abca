/-
  Part of a proof: contracts of functions and lemmas, each stated by its own theorem. Conditions: as each theorem states.
-/
import Derived.Test.YthlkflagancdfaaMK30
set_option linter.unusedSimpArgs false
set_option linter.unusedVariables false
set_option maxRecDepth 100000
set_option maxHeartbeats 16000000
namespace Go.Proofs.Ythlkflagancdfaa.OT
open Go.RowKit Go.Great
open Go.Proofs.Ythlkflagancdfaa.CK
section
variable {S s:Int} {k m:Nat} {C c:List Ins}
theorem Zrm {c:List Ins} {p:Nat} {x:Ins} (hc:c[p]? = some x) (h1:x.1≠1) (h2:x.1≠2) (h3:x.1≠18) (h4:jmp x.1=false):Jc c p=[p+1]:=by
 unfold Jc
 rw [hc]
 simp only [jmp,Bool.or_eq_false_iff,beq_eq_false_iff_ne] at h4
 simp only []
 unfold Yy
 rw [if_neg (by rintro (h|h|h) <;> contradiction),if_neg h4.1.1,if_neg (by rintro ⟨h|h,_⟩;exact h4.1.2 h;exact h4.2 h)]
 simp only [List.map_cons,List.map_nil]
 congr 1
theorem Yaj (L:Lg S s k m C c):∀ p,p<=1+2*m->Reach c p
 | 0,_=>Reach.z
 | p+1,h=>by
   have r:=Yaj L p (by omega)
   have hl:=Yak L
   have hn:=L.ne
   refine Reach.next r (by omega) ?_
   rcases Yvh L (p:=p) (by omega) with ⟨_,hc⟩|⟨j,hj,e,hc⟩|⟨j,hj,e,hc⟩|⟨i,x,e,_,hc⟩
   · rw [Zrm hc (by simp) (by simp) (by simp) rfl];simp
   · rw [Zrm hc (by simp) (by simp) (by simp) rfl];simp
   · rw [Zrm hc (by simp) (by simp) (by simp) rfl];simp
   · omega
theorem Yty (g:Int->Int) (c:List Ins) (p:Nat):(reJ g c)[p]? = (c[p]?).map fun x=>if jmp x.1=true then (x.1,g x.2) else x:=by
 unfold reJ;rw [List.getElem?_map]
end
section
variable {s:Int} {k m:Nat} {c:List Ins}
end
section
variable {s:Int} {k m:Nat} {c:List Ins}
theorem Zfi {c:List Ins} {p:Nat} {x:Ins} (h:c[p]? = some x):Zn c p=x:=by
 unfold Zn;rw [List.getD_eq_getElem?_getD,h];rfl
theorem Ygk {c:List Ins} {n long:Nat} {put:List Ins} (hn:n+long<=c.length) (p:Nat) :
 (Xb c n long put)[p]? = ((if p<n then c[p]? else if p<n+put.length then put[p - n]? else c[p - put.length+long]?).map fun x=>if jmp x.1=true then (x.1,Zbf n long put.length x.2) else x):=by
 unfold Xb
 rw [Yty]
 congr 1
 by_cases h1:p<n
 · rw [if_pos h1,List.append_assoc,List.getElem?_append_left (by simp;omega),List.getElem?_take_of_lt h1]
 · rw [if_neg h1,List.append_assoc,List.getElem?_append_right (by simp;omega),List.length_take,Nat.min_eq_left (by omega)]
   by_cases h2:p<n+put.length
   · rw [if_pos h2,List.getElem?_append_left (by omega)]
   · rw [if_neg h2,List.getElem?_append_right (by omega),List.getElem?_drop]
     congr 1;omega
theorem Ygj {c:List Ins} {n long:Nat} {put:List Ins} (hn:n+long<=c.length):(Xb c n long put).length=c.length+put.length - long:=by
 unfold Xb reJ
 simp
 omega
end
section
variable {s:Int} {k:Nat} {c:List Ins}
end
structure Zcn (fs:List FnP) (rs:Int) (c:List Ins) (H:Nat->Int) (n L:Nat) (put:List Ins):Prop where
 g:1<=L
 t:n+L<=c.length
 tg:∀ x∈c,jmp x.1=true->x.2<=n\/(n:Int)+L<=x.2
 one:put.length<=1
 nil:put=[]->n+L<c.length/\H (n+L)=H n
 ret:∀ y∈put,y.1=18->H n=rs
 need:∀ y∈put,y.1≠18->Zah fs rs y.1 y.2<=H n
 top:∀ y∈put,y.1≠18->H n - (Zt fs rs y.1 y.2).1+(Zt fs rs y.1 y.2).2<=256
 jump:∀ y∈put,jmp y.1=true->0<=y.2/\y.2<c.length/\(y.2<=n\/(n:Int)+L<=y.2)/\H y.2.toNat=H n - (Zt fs rs y.1 y.2).1+(Zt fs rs y.1 y.2).2
 fall:∀ y∈put,y.1≠1->y.1≠2->y.1≠18->y.1≠14->n+L<c.length/\H (n+L)=H n - (Zt fs rs y.1 y.2).1+(Zt fs rs y.1 y.2).2
def shH (H:Nat->Int) (n L k:Nat) (p:Nat):Int:=if p<=n then H p else H (p - k+L)
section
variable {fs:List FnP} {rs:Int} {c:List Ins} {H:Nat->Int} {n L:Nat} {put:List Ins}
theorem Zzo (R:Zcn fs rs c H n L put):(Xb c n L put).length=c.length+put.length - L:=Ygj R.t
theorem Zlj (R:Zcn fs rs c H n L put) {a:Int} (h0:0<=a) (h1:a<c.length) (h2:a<=n\/(n:Int)+L<=a):0<=Zbf n L put.length a/\Zbf n L put.length a<(Xb c n L put).length/\shH H n L put.length (Zbf n L put.length a).toNat=H a.toNat:=by
 have hl:=Zzo R
 have ht:=R.t
 have hg:=R.g
 have h1k:=R.one
 have hk:put.length=0\/put.length=1:=by omega
 unfold Zbf
 by_cases c1:a<=n
 · rw [if_pos c1]
   refine ⟨h0,?_,?_⟩
   · rcases hk with e|e
     · have:=(R.nil (List.length_eq_zero_iff.1 e)).1
       omega
     · omega
   · unfold shH;rw [if_pos (by omega)]
 · rw [if_neg c1,if_neg (by omega)]
   refine ⟨by omega,by omega,?_⟩
   unfold shH
   by_cases c2:(a - L+put.length).toNat<=n
   · rw [if_pos c2]
     have e:put.length=0:=by omega
     obtain ⟨q1,q2⟩:=R.nil (List.length_eq_zero_iff.1 e)
     have e1:(a - L+put.length).toNat=n:=by omega
     have e2:a.toNat=n+L:=by omega
     rw [e1,e2,q2]
   · rw [if_neg c2]
     congr 1
     omega
theorem Yne {ar lo:Int} (hj:Zeb c) (A:Zaf fs (ar,lo,rs,c) H) (R:Zcn fs rs c H n L put) {fs':List FnP} (hS:Zoa fs fs'):Zaf fs' (ar,lo,rs,Xb c n L put) (shH H n L put.length):=by
 have hl:=Zzo R
 have ht:=R.t
 have hg:=R.g
 have h1k:=R.one
 have hk:put.length=0\/put.length=1:=by omega
 refine ⟨by unfold shH;rw [if_pos (Nat.zero_le _)];exact A.1,fun p hp => ?_⟩
 have hp':p<(Xb c n L put).length:=hp
 have old:∀ (q:Nat) (op a:Int),c[q]? = some (op,a)->(Xb c n L put)[p]? = some (if jmp op=true then (op,Zbf n L put.length a) else (op,a))->shH H n L put.length p=H q->(op≠14->op≠1->op≠2->op≠18->q+1<c.length->p+1<(Xb c n L put).length/\shH H n L put.length (p+1)=H (q+1)) ->
  ∃ b,Xe fs' (ar,lo,rs,Xb c n L put) p (shH H n L put.length p)=(0,b)/\∀ m∈Jc (Xb c n L put) p,m<(Xb c n L put).length/\shH H n L put.length m=b:=fun q op a hq hx hH hf=>by
  have hql:=(List.getElem?_eq_some_iff.1 hq).1
  have F:Zoo fs rs c.length (fun z=>H z.toNat) op a q (H q):=(Zbo (fn:=(ar,lo,rs,c)) (H:=H) hq (fun hh=>(hj _ (List.mem_of_getElem? hq) hh).1)).1 (A.2 q hql)
  have fallc:∀ z,z=(p:Int)+1->¬ (op=1\/op=2\/op=18)->op≠14->z<(Xb c n L put).length/\shH H n L put.length z.toNat=H q - (Zt fs rs op a).1+(Zt fs rs op a).2:=fun z hz g1 g2=>by
   subst hz
   have:=F.go ((q:Int)+1) (goes_mem.2 ⟨g1,Or.inr ⟨g2,rfl⟩⟩) (by omega)
   have e1:((q:Int)+1).toNat=q+1:=by omega
   simp only [e1] at this
   obtain ⟨f1,f2⟩:=hf g2 (fun e=>g1 (Or.inl e)) (fun e=>g1 (Or.inr (Or.inl e))) (fun e=>g1 (Or.inr (Or.inr e))) (by omega)
   refine ⟨by omega,?_⟩
   have e2:((p:Int)+1).toNat=p+1:=by omega
   rw [e2,f2]
   exact this.2
  by_cases hjm:jmp op=true
  · rw [if_pos hjm] at hx
    have ha:=hj _ (List.mem_of_getElem? hq) hjm
    simp only [] at ha
    have hpl:=Zlj (H:=H) R ha.1 ha.2 (R.tg _ (List.mem_of_getElem? hq) hjm)
    have tj:=Zid fs rs a (Zbf n L put.length a) hjm
    refine (Zbo (fn:=(ar,lo,rs,Xb c n L put)) (H:=shH H n L put.length) hx (fun _=>hpl.1)).2 (Zfk hS ?_)
    rw [hH]
    refine ⟨F.ret,fun e=>by rw [<- tj.2];exact F.need e,fun e=>by rw [<- tj.1];exact F.top e,fun z hz h0 => ?_⟩
    rw [<- tj.1]
    obtain ⟨g1,⟨_,rfl⟩|⟨g2,e⟩⟩:=goes_mem.1 hz
    · have:=F.go a (goes_mem.2 ⟨g1,Or.inl ⟨hjm,rfl⟩⟩) ha.1
      exact ⟨hpl.2.1,by show _=_;rw [hpl.2.2];exact this.2⟩
    · exact fallc z e g1 g2
  · rw [if_neg hjm] at hx
    refine (Zbo (fn:=(ar,lo,rs,Xb c n L put)) (H:=shH H n L put.length) hx (fun hh=>absurd hh hjm)).2 (Zfk hS ?_)
    rw [hH]
    refine ⟨F.ret,F.need,F.top,fun z hz h0 => ?_⟩
    obtain ⟨g1,⟨h,_⟩|⟨g2,e⟩⟩:=goes_mem.1 hz
    · exact absurd h hjm
    · exact fallc z e g1 g2
 have hget:=Ygk (put:=put) R.t p
 by_cases c1:p<n
 · rw [if_pos c1] at hget
   obtain ⟨op,a,hx⟩:=Zbh (c:=c) (p:=p) (by omega)
   rw [hx] at hget
   refine old p op a hx hget (by unfold shH;rw [if_pos (by omega)]) (fun _ _ _ _ hq=>⟨?_,by unfold shH;rw [if_pos (by omega)]⟩)
   rcases hk with e|e
   · have:=(R.nil (List.length_eq_zero_iff.1 e)).1
     omega
   · omega
 · rw [if_neg c1] at hget
   by_cases c2:p<n+put.length
   · have e1:put.length=1:=by omega
     have ep:p=n:=by omega
     subst ep
     rw [if_pos c2,Nat.sub_self] at hget
     obtain ⟨⟨op,a⟩,hy⟩:∃ y,put=[y]:=by
      match put,e1 with
      | [y],_=>exact ⟨y,rfl⟩
     have hmem:(op,a)∈put:=by rw [hy];exact List.mem_cons_self ..
     have h0y:put[0]? = some (op,a):=by rw [hy];rfl
     rw [h0y] at hget
     have hH:shH H p L put.length p=H p:=by unfold shH;rw [if_pos (Nat.le_refl _)]
     have fallc:∀ z,z=(p:Int)+1->¬ (op=1\/op=2\/op=18)->op≠14->z<(Xb c p L put).length/\shH H p L put.length z.toNat=H p - (Zt fs rs op a).1+(Zt fs rs op a).2:=fun z hz g1 g2=>by
      subst hz
      obtain ⟨f1,f2⟩:=R.fall _ hmem (fun e=>g1 (Or.inl e)) (fun e=>g1 (Or.inr (Or.inl e))) (fun e=>g1 (Or.inr (Or.inr e))) g2
      refine ⟨by omega,?_⟩
      have e2:((p:Int)+1).toNat=p+1:=by omega
      rw [e2]
      unfold shH
      rw [if_neg (by omega),e1,show p+1 - 1+L=p+L by omega]
      exact f2
     by_cases hjm:jmp op=true
     · have hget:(Xb c p L put)[p]? = some (op,Zbf p L put.length a):=by rw [hget];simp [hjm]
       obtain ⟨ha0,ha1,ha2,ha3⟩:=R.jump _ hmem hjm
       simp only [] at ha0 ha1 ha2 ha3
       have hpl:=Zlj (H:=H) R ha0 ha1 ha2
       have tj:=Zid fs rs a (Zbf p L put.length a) hjm
       refine (Zbo (fn:=(ar,lo,rs,Xb c p L put)) (H:=shH H p L put.length) hget (fun _=>hpl.1)).2 (Zfk hS ?_)
       rw [hH]
       refine ⟨R.ret _ hmem,fun e=>by rw [<- tj.2];exact R.need _ hmem e,fun e=>by rw [<- tj.1];exact R.top _ hmem e,fun z hz h0 => ?_⟩
       rw [<- tj.1]
       obtain ⟨g1,⟨_,rfl⟩|⟨g2,e⟩⟩:=goes_mem.1 hz
       · exact ⟨hpl.2.1,by show _=_;rw [hpl.2.2];exact ha3⟩
       · exact fallc z e g1 g2
     · have hget:(Xb c p L put)[p]? = some (op,a):=by rw [hget];simp [hjm]
       refine (Zbo (fn:=(ar,lo,rs,Xb c p L put)) (H:=shH H p L put.length) hget (fun hh=>absurd hh hjm)).2 (Zfk hS ?_)
       rw [hH]
       refine ⟨R.ret _ hmem,R.need _ hmem,R.top _ hmem,fun z hz h0 => ?_⟩
       obtain ⟨g1,⟨h,_⟩|⟨g2,e⟩⟩:=goes_mem.1 hz
       · exact absurd h hjm
       · exact fallc z e g1 g2
   · rw [if_neg c2] at hget
     obtain ⟨op,a,hx⟩:=Zbh (c:=c) (p:=p - put.length+L) (by omega)
     rw [hx] at hget
     refine old (p - put.length+L) op a hx hget ?_ (fun _ _ _ _ hq=>⟨by omega,?_⟩)
     · unfold shH
       by_cases c3:p<=n
       · have e:put.length=0:=by omega
         obtain ⟨q1,q2⟩:=R.nil (List.length_eq_zero_iff.1 e)
         have ep:p=n:=by omega
         rw [if_pos c3,ep,e,Nat.sub_zero,q2]
       · rw [if_neg c3]
     · unfold shH
       rw [if_neg (by omega)]
       congr 1
       omega
end
structure Xfd (fs:List FnP) (rs:Int) (c:List Ins) (H:Nat->Int) (p:Nat) (op a:Int):Prop where
 nd:Zah fs rs op a<=H p
 top:H p - (Zt fs rs op a).1+(Zt fs rs op a).2<=256
 lt:p+1<c.length
 eq:H (p+1)=H p - (Zt fs rs op a).1+(Zt fs rs op a).2
structure Xbq (fs:List FnP) (rs:Int) (c:List Ins) (H:Nat->Int) (p:Nat) (op a:Int):Prop where
 nd:Zah fs rs op a<=H p
 top:H p - (Zt fs rs op a).1+(Zt fs rs op a).2<=256
 z:0<=a
 lt:a<c.length
 eq:H a.toNat=H p - (Zt fs rs op a).1+(Zt fs rs op a).2
def Zkz (nf:Nat) (lo:Int) (len:Nat) (y:Ins):Prop:=(∃ s,Ja y.1=some s/\Zrp s.2.1.toNat y.2=true)/\opE nf len lo y=0
theorem Zhf {c:List Ins} {n L:Nat} (hn:n<c.length) (hL:L<=Zba c n) (h0:1<=L):n+L<=c.length/\∀ x∈c,jmp x.1=true->x.2<=n\/(n:Int)+L<=x.2:=by
 refine ⟨by have:=Yae hn;omega,fun x hx hj => ?_⟩
 have no:∀ k,Zad c k=false->x.2≠(k:Int):=fun k hk e=>by
  unfold Zad at hk
  rw [List.any_eq_false] at hk
  exact hk x hx (by simp [hj,e])
 unfold Zba at hL
 by_cases a:n+1<c.length/\Zad c (n+1)=false
 · have e1:=no _ a.2
   rw [if_pos a] at hL
   by_cases b:n+2<c.length/\Zad c (n+2)=false
   · have e2:=no _ b.2
     rw [if_pos b] at hL
     omega
   · rw [if_neg b] at hL
     omega
 · rw [if_neg a] at hL
   omega
theorem Yxx (fs:List FnP) (rs:Int) {op:Int} (a:Int) (h:CW.opn op=1):Zt fs rs op a=(1,1)/\Zah fs rs op a=1/\(op≠1/\op≠2/\op≠18/\op≠14):=by
 have e:=CW.Yuj op
 rw [h] at e
 have e:op=34\/op=35\/(42<=op/\op<=45):=by simpa using e.symm
 have:op=34\/op=35\/op=42\/op=43\/op=44\/op=45:=by omega
 rcases this with rfl|rfl|rfl|rfl|rfl|rfl <;> exact ⟨rfl,rfl,by decide⟩
theorem Yez (fs:List FnP) (rs:Int) {op:Int} (a:Int) (h:CW.opn op=2):Zt fs rs op a=(2,1)/\Zah fs rs op a=2/\(op≠1/\op≠2/\op≠18/\op≠14):=by
 have e:=CW.Yui op
 rw [h] at e
 have hh:(20<=op/\op<=33)\/(36<=op/\op<=41):=by
  by_cases c1:20<=op
  · rw [if_pos c1] at e
    by_cases c2:op<=33
    · exact Or.inl ⟨c1,c2⟩
    · rw [if_neg c2] at e
      by_cases c3:36<=op
      · rw [if_pos c3] at e
        exact Or.inr ⟨c3,by simpa using e.symm⟩
      · rw [if_neg c3] at e;cases e
  · rw [if_neg c1] at e;cases e
 have:op=20\/op=21\/op=22\/op=23\/op=24\/op=25\/op=26\/op=27\/op=28\/op=29\/op=30\/op=31\/op=32\/op=33\/op=36\/op=37\/op=38\/op=39\/op=40\/op=41:=by omega
 rcases this with rfl|rfl|rfl|rfl|rfl|rfl|rfl|rfl|rfl|rfl|rfl|rfl|rfl|rfl|rfl|rfl|rfl|rfl|rfl|rfl <;> exact ⟨rfl,rfl,by decide⟩
section
variable {fs:List FnP} {ar lo rs:Int} {c:List Ins} {H:Nat->Int}
theorem Yay (hj:Zeb c) (A:Zaf fs (ar,lo,rs,c) H) {p:Nat} (hp:p<c.length) (h:(Zn c p).1≠1/\(Zn c p).1≠2/\(Zn c p).1≠18/\(Zn c p).1≠14):Xfd fs rs c H p (Zn c p).1 (Zn c p).2:=by
 obtain ⟨op,a,hx⟩:=Zbh hp
 have F:Zoo fs rs c.length (fun z=>H z.toNat) op a p (H p):=(Zbo (fn:=(ar,lo,rs,c)) (H:=H) hx (fun hh=>(hj _ (List.mem_of_getElem? hx) hh).1)).1 (A.2 p hp)
 rw [Zfi hx] at h ⊢
 simp only [] at h ⊢
 have:=F.go ((p:Int)+1) (goes_mem.2 ⟨by omega,Or.inr ⟨h.2.2.2,rfl⟩⟩) (by omega)
 have e:((p:Int)+1).toNat=p+1:=by omega
 simp only [e] at this
 exact ⟨F.need h.2.2.1,F.top h.2.2.1,by omega,this.2⟩
theorem Zlq (hj:Zeb c) (A:Zaf fs (ar,lo,rs,c) H) {p:Nat} (hp:p<c.length) (h:jmp (Zn c p).1=true):Xbq fs rs c H p (Zn c p).1 (Zn c p).2:=by
 obtain ⟨op,a,hx⟩:=Zbh hp
 have F:Zoo fs rs c.length (fun z=>H z.toNat) op a p (H p):=(Zbo (fn:=(ar,lo,rs,c)) (H:=H) hx (fun hh=>(hj _ (List.mem_of_getElem? hx) hh).1)).1 (A.2 p hp)
 rw [Zfi hx] at h ⊢
 simp only [] at h ⊢
 have h3:op=14\/op=15\/op=16:=by unfold jmp at h;simp at h;omega
 have h0:=hj _ (List.mem_of_getElem? hx) h
 simp only [] at h0
 have:=F.go a (goes_mem.2 ⟨by omega,Or.inl ⟨h,rfl⟩⟩) h0.1
 exact ⟨F.need (by omega),F.top (by omega),h0.1,h0.2,this.2⟩
theorem Yrl (hj:Zeb c) (A:Zaf fs (ar,lo,rs,c) H) {p:Nat} (hp:p<c.length) (h:(Zn c p).1=18):H p=rs:=by
 obtain ⟨op,a,hx⟩:=Zbh hp
 have F:Zoo fs rs c.length (fun z=>H z.toNat) op a p (H p):=(Zbo (fn:=(ar,lo,rs,c)) (H:=H) hx (fun hh=>(hj _ (List.mem_of_getElem? hx) hh).1)).1 (A.2 p hp)
 rw [Zfi hx] at h
 exact F.ret h
theorem Yup (hj:Zeb c) (A:Zaf fs (ar,lo,rs,c) H) {p:Nat} (hp:p<c.length) (h:(Zn c p).1≠18):Zah fs rs (Zn c p).1 (Zn c p).2<=H p/\H p - (Zt fs rs (Zn c p).1 (Zn c p).2).1+(Zt fs rs (Zn c p).1 (Zn c p).2).2<=256:=by
 obtain ⟨op,a,hx⟩:=Zbh hp
 have F:Zoo fs rs c.length (fun z=>H z.toNat) op a p (H p):=(Zbo (fn:=(ar,lo,rs,c)) (H:=H) hx (fun hh=>(hj _ (List.mem_of_getElem? hx) hh).1)).1 (A.2 p hp)
 rw [Zfi hx] at h ⊢
 exact ⟨F.need h,F.top h⟩
theorem Zty {n L:Nat} (g:1<=L) (T:n+L<=c.length/\∀ x∈c,jmp x.1=true->x.2<=n\/(n:Int)+L<=x.2) (h:n+L<c.length/\H (n+L)=H n):Zcn fs rs c H n L [] :=
 ⟨g,T.1,T.2,by simp,fun _=>h,by simp,by simp,by simp,by simp,by simp⟩
theorem Yrj {n L:Nat} (a:Int) (g:1<=L) (T:n+L<=c.length/\∀ x∈c,jmp x.1=true->x.2<=n\/(n:Int)+L<=x.2) (h:H n=rs):Zcn fs rs c H n L [(18,a)] :=
 ⟨g,T.1,T.2,by simp,by simp,fun _ _ _=>h,by simp,by simp,fun y hy hj=>by simp at hy;subst hy;simp [jmp] at hj,by simp⟩
theorem Zqv {n L:Nat} {op a:Int} (g:1<=L) (T:n+L<=c.length/\∀ x∈c,jmp x.1=true->x.2<=n\/(n:Int)+L<=x.2) (h18:op≠18) (hj:jmp op=false) (hn:Zah fs rs op a<=H n) (ht:H n - (Zt fs rs op a).1+(Zt fs rs op a).2<=256) (h:op≠1->op≠2->n+L<c.length/\H (n+L)=H n - (Zt fs rs op a).1+(Zt fs rs op a).2):Zcn fs rs c H n L [(op,a)]:=by
 refine ⟨g,T.1,T.2,by simp,by simp,?_,?_,?_,?_,?_⟩ <;> intro y hy <;> simp at hy <;> subst hy
 · intro e;exact absurd e h18
 · intro _;exact hn
 · intro _;exact ht
 · intro e;simp only [] at e;rw [hj] at e;cases e
 · intro e1 e2 _ _;exact h e1 e2
theorem Ygi {n L:Nat} {op a:Int} (g:1<=L) (T:n+L<=c.length/\∀ x∈c,jmp x.1=true->x.2<=n\/(n:Int)+L<=x.2) (hj:jmp op=true) (hn:Zah fs rs op a<=H n) (ht:H n - (Zt fs rs op a).1+(Zt fs rs op a).2<=256) (hz:0<=a/\a<c.length) (ha:a<=n\/(n:Int)+L<=a) (he:H a.toNat=H n - (Zt fs rs op a).1+(Zt fs rs op a).2) (h:op≠14->n+L<c.length/\H (n+L)=H n - (Zt fs rs op a).1+(Zt fs rs op a).2):Zcn fs rs c H n L [(op,a)]:=by
 refine ⟨g,T.1,T.2,by simp,by simp,?_,?_,?_,?_,?_⟩ <;> intro y hy <;> simp at hy <;> subst hy
 · intro e;simp only [] at e;subst e;cases hj
 · intro _;exact hn
 · intro _;exact ht
 · intro _;exact ⟨hz.1,hz.2,ha,he⟩
 · intro _ _ _ e4;exact h e4
theorem Ygp {nf:Nat} (hE:Zzc c) (hO:Ypu nf (ar,lo,rs,c)) {p:Nat} (hp:p<c.length):Zkz nf lo c.length (Zn c p):=by
 obtain ⟨op,a,hx⟩:=Zbh hp
 rw [Zfi hx]
 exact ⟨hE _ (List.mem_of_getElem? hx),hO _ (List.mem_of_getElem? hx)⟩
theorem Zrb {nf:Nat} (hl:c.length<=4096) {op a:Int} (hj:jmp op=true) (h0:0<=a) (h1:a<c.length):Zkz nf lo c.length (op,a) :=
 ⟨Yiz hj h0 (by omega),by rw [Ygy hj,if_neg (by omega)]⟩
theorem Yli {nf:Nat} (hl:c.length<=4096) (hj:Zeb c) (hE:Zzc c) (hO:Ypu nf (ar,lo,rs,c)) (A:Zaf fs (ar,lo,rs,c) H) {n:Nat} {f:Jn} (hn:n<c.length) (h:Zax c n=some f):Zcn fs rs c H n f.long f.put/\∀ y∈f.put,Zkz nf lo c.length y:=by
 have T:=Zhf hn (Zrt c n) (Nat.le_refl _)
 unfold Zax at h
 simp only [] at h
 have nopj:∀ z,(Zn c n).2=z->(jmp (Zn c n).1=true)->Xbq fs rs c H n (Zn c n).1 z:=fun z e hh=>by subst e;exact Zlq hj A hn hh
 split at h
 · next e =>
   injection h with h;subst h;simp only []
   have F:=Yay hj A hn (by omega)
   obtain ⟨f1,f2,f3,f4⟩:=F
   rw [e] at f4
   rw [show Zt fs rs 0 (Zn c n).2=(0,0) from rfl] at f4
   simp only [] at f4
   exact ⟨Zty (Nat.le_refl _) T ⟨f3,by omega⟩,by simp⟩
 split at h
 · next e =>
   injection h with h;subst h;simp only []
   obtain ⟨f1,f2,f3,f4,f5⟩:=nopj _ e.2 (by rw [e.1];rfl)
   rw [e.1,show Zt fs rs 14 ((n:Int)+1)=(0,0) from rfl] at f5
   have e2:((n:Int)+1).toNat=n+1:=by omega
   rw [e2] at f5
   simp only [] at f5
   exact ⟨Zty (Nat.le_refl _) T ⟨by omega,by omega⟩,by simp⟩
 next e14 =>
 split at h
 · next e =>
   injection h with h;subst h;simp only []
   have h3:(Zn c n).1=14\/(Zn c n).1=15\/(Zn c n).1=16:=by
    have:=e.1
    unfold jmp at this;simp at this;omega
   have h3:(Zn c n).1=15\/(Zn c n).1=16:=by
    rcases h3 with q|q
    · exact absurd ⟨q,e.2⟩ e14
    · exact q
   obtain ⟨f1,f2,f3,f4,f5⟩:=nopj _ e.2 e.1
   have ht:Zt fs rs (Zn c n).1 ((n:Int)+1)=(1,0)/\Zah fs rs (Zn c n).1 ((n:Int)+1)=1:=by
    rcases h3 with q|q <;> rw [q] <;> exact ⟨rfl,rfl⟩
   rw [ht.1] at f5
   rw [ht.2] at f1
   have e2:((n:Int)+1).toNat=n+1:=by omega
   rw [e2] at f5
   simp only [] at f5
   have t4:Zt fs rs 4 0=(1,0):=rfl
   have n4:Zah fs rs 4 0=1:=rfl
   refine ⟨Zqv (Nat.le_refl _) T (by decide) rfl (by rw [n4];exact f1) (by rw [t4];rw [ht.1] at f2;exact f2) (fun _ _=>⟨by omega,by rw [t4];simp only [];omega⟩),fun y hy => ?_⟩
   simp at hy
   subst hy
   exact ⟨⟨_,rfl,rfl⟩,rfl⟩
 split at h
 · next e =>
   injection h with h;subst h;simp only []
   obtain ⟨f1,f2,f3,f4,f5⟩:=Zlq hj A hn (by rw [e.1];rfl)
   rw [e.1,show Zt fs rs 14 (Zn c n).2=(0,0) from rfl] at f5
   simp only [] at f5
   obtain ⟨t,ht⟩:=Int.eq_ofNat_of_zero_le f3
   rw [ht,Int.toNat_natCast] at f5 e ⊢
   have htl:t<c.length:=by omega
   have P:=Ygp hE hO htl
   refine ⟨?_,fun y hy=>by simp at hy;subst hy;exact P⟩
   by_cases c18:(Zn c t).1=18
   · have:=Yrl hj A htl c18
     rw [show Zn c t=(18,(Zn c t).2) from Prod.ext c18 rfl]
     exact Yrj _ (Nat.le_refl _) T (by omega)
   · obtain ⟨g1,g2⟩:=Yup hj A htl c18
     have h12:(Zn c t).1=1\/(Zn c t).1=2:=by have:=e.2;omega
     rw [show Zn c t=((Zn c t).1,(Zn c t).2) from rfl]
     refine Zqv (Nat.le_refl _) T c18 ?_ (by omega) (by omega) (fun a b=>by omega)
     rcases h12 with q|q <;> rw [q] <;> rfl
 · cases h
end
section
variable {fs:List FnP} {ar lo rs:Int} {c:List Ins} {H:Nat->Int}
theorem Jo (hj:Zeb c) (A:Zaf fs (ar,lo,rs,c) H) {p:Nat} (hp:p<c.length) {op:Int} (e:(Zn c p).1=op) {t g d:Int} (h:Zt fs rs op (Zn c p).2=(t,g)/\Zah fs rs op (Zn c p).2=d/\(op≠1/\op≠2/\op≠18/\op≠14)):d<=H p/\H p - t+g<=256/\p+1<c.length/\H (p+1)=H p - t+g:=by
 subst e
 obtain ⟨f1,f2,f3,f4⟩:=Yay hj A hp h.2.2
 rw [h.1] at f2 f4
 rw [h.2.1] at f1
 exact ⟨f1,f2,f3,f4⟩
theorem Xcx (fs:List FnP) (rs a:Int):Zt fs rs 3 a=(0,1)/\Zah fs rs 3 a=0/\((3:Int)≠1/\(3:Int)≠2/\(3:Int)≠18/\(3:Int)≠14):=⟨rfl,rfl,by decide⟩
theorem Zwy (fs:List FnP) (rs:Int) {op:Int} (a:Int) (h:op=15\/op=16):Zt fs rs op a=(1,0)/\Zah fs rs op a=1/\(op≠1/\op≠2/\op≠18/\op≠14):=by
 rcases h with rfl|rfl <;> exact ⟨rfl,rfl,by decide⟩
theorem Yyt (nf:Nat) (lo:Int) (len:Nat) (v:Int):Zkz nf lo len (3,v):=⟨⟨_,rfl,rfl⟩,rfl⟩
theorem Yrk {n L:Nat} (v:Int) (g:1<=L) (T:n+L<=c.length/\∀ x∈c,jmp x.1=true->x.2<=n\/(n:Int)+L<=x.2) (h0:0<=H n) (ht:H n+1<=256) (h:n+L<c.length/\H (n+L)=H n+1):Zcn fs rs c H n L [(3,v)]:=by
 have t:=Xcx fs rs v
 refine Zqv g T (by decide) rfl (by rw [t.2.1];exact h0) (by rw [t.1];simp only [];omega) (fun _ _=>⟨h.1,by rw [t.1];simp only [];omega⟩)
theorem Yhl {nf:Nat} (hl:c.length<=4096) (hj:Zeb c) (A:Zaf fs (ar,lo,rs,c) H) {n:Nat} {f:Jn} (hn:n<c.length) (h:Zau c n (Zba c n)=some f):Zcn fs rs c H n f.long f.put/\∀ y∈f.put,Zkz nf lo c.length y:=by
 unfold Zau at h
 simp only [] at h
 split at h
 · cases h
 next h0 =>
 have e3:(Zn c n).1=3:=by omega
 have T2:=Zhf hn (show 2<=Zba c n by omega) (by omega)
 obtain ⟨a1,a2,a3,a4⟩:=Jo hj A hn e3 (Xcx fs rs _)
 split at h
 · next e =>
   have tk:=Zwy fs rs (Zn c (n+1)).2 e
   obtain ⟨b1,b2,b3,b4⟩:=Jo hj A a3 rfl tk
   obtain ⟨j1,j2,j3,j4,j5⟩:=Zlq hj A a3 (Zcc e)
   rw [tk.1] at j5
   simp only [] at j5
   split at h
   · injection h with h;subst h;simp only []
     have t14:Zt fs rs 14 (Zn c (n+1)).2=(0,0):=rfl
     have n14:Zah fs rs 14 (Zn c (n+1)).2=0:=rfl
     refine ⟨Ygi (by omega) T2 rfl (by rw [n14];omega) (by rw [t14];simp only [];omega) ⟨j3,j4⟩ ?_ (by rw [t14];simp only [];omega) (fun q=>absurd rfl q),fun y hy => ?_⟩
     · obtain ⟨op,a,hx⟩:=Zbh a3
       have:=T2.2 _ (List.mem_of_getElem? hx)
       rw [Zfi hx] at e ⊢
       exact this (Zcc e)
     · simp at hy;subst hy
       exact Zrb hl rfl j3 j4
   · injection h with h;subst h;simp only []
     exact ⟨Zty (by omega) T2 ⟨b3,by rw [show n+2=n+1+1 from rfl];omega⟩,by simp⟩
 split at h
 · next e =>
   split at h
   · injection h with h;subst h;simp only []
     obtain ⟨b1,b2,b3,b4⟩:=Jo hj A a3 rfl (Yxx fs rs _ e)
     exact ⟨Yrk _ (by omega) T2 a1 (by omega) ⟨b3,by rw [show n+2=n+1+1 from rfl];omega⟩,fun y hy=>by simp at hy;subst hy;exact Yyt ..⟩
   · cases h
 split at h
 · next e =>
   have T3:=Zhf hn (show 3<=Zba c n by omega) (by omega)
   split at h
   · injection h with h;subst h;simp only []
     obtain ⟨b1,b2,b3,b4⟩:=Jo hj A a3 e.1 (Xcx fs rs _)
     obtain ⟨d1,d2,d3,d4⟩:=Jo hj A b3 rfl (Yez fs rs _ e.2.2)
     exact ⟨Yrk _ (by omega) T3 a1 (by omega) ⟨d3,by rw [show n+3=n+1+1+1 from rfl];omega⟩,fun y hy=>by simp at hy;subst hy;exact Yyt ..⟩
   · cases h
 split at h
 · next e =>
   have T3:=Zhf hn (show 3<=Zba c n by omega) (by omega)
   injection h with h;subst h;simp only []
   obtain ⟨b1,b2,b3,b4⟩:=Jo hj A a3 e.2.1 (Yez fs rs _ (show CW.opn 31=2 from rfl))
   have ez:(Zn c (n+1+1)).1=15\/(Zn c (n+1+1)).1=16:=e.2.2.2
   have tk:=Zwy fs rs (Zn c (n+1+1)).2 ez
   obtain ⟨d1,d2,d3,d4⟩:=Jo hj A b3 rfl tk
   obtain ⟨j1,j2,j3,j4,j5⟩:=Zlq hj A b3 (Zcc ez)
   rw [tk.1] at j5
   simp only [] at j5
   have hop:(if (Zn c (n+2)).1=16 then (15:Int) else 16)=15\/(if (Zn c (n+2)).1=16 then (15:Int) else 16)=16:=by split <;> simp
   generalize (if (Zn c (n+2)).1=16 then (15:Int) else 16)=op at hop
   have t2:=Zwy fs rs (Zn c (n+1+1)).2 hop
   refine ⟨Ygi (by omega) T3 (Zcc hop) (by show Zah fs rs op (Zn c (n+1+1)).2<=_;rw [t2.2.1];omega) (by show _ - (Zt fs rs op (Zn c (n+1+1)).2).1+(Zt fs rs op (Zn c (n+1+1)).2).2<=_;rw [t2.1];simp only [];omega) ⟨j3,j4⟩ ?_ (by show H (Zn c (n+1+1)).2.toNat=_ - (Zt fs rs op (Zn c (n+1+1)).2).1+(Zt fs rs op (Zn c (n+1+1)).2).2;rw [t2.1];simp only [];omega) (fun _=>⟨d3,by show H (n+1+1+1)=_ - (Zt fs rs op (Zn c (n+1+1)).2).1+(Zt fs rs op (Zn c (n+1+1)).2).2;rw [t2.1];simp only [];omega⟩),fun y hy => ?_⟩
   · obtain ⟨op2,a,hx⟩:=Zbh b3
     have:=T3.2 _ (List.mem_of_getElem? hx)
     show (Zn c (n+1+1)).2<=_\/_<=(Zn c (n+1+1)).2
     rw [Zfi hx] at ez ⊢
     exact this (Zcc ez)
   · simp at hy;subst hy
     exact Zrb hl (Zcc hop) j3 j4
 have two:CW.opn (Zn c (n+1)).1=2->Zcn fs rs c H n 2 []:=fun q=>by
  obtain ⟨b1,b2,b3,b4⟩:=Jo hj A a3 rfl (Yez fs rs _ q)
  exact Zty (by omega) T2 ⟨b3,by rw [show n+2=n+1+1 from rfl];omega⟩
 split at h
 · next e =>
   injection h with h;subst h;simp only []
   refine ⟨two ?_,by simp⟩
   rcases e.2 with q|q|q|q|q|q|q <;> rw [q] <;> rfl
 split at h
 · next e =>
   injection h with h;subst h;simp only []
   refine ⟨two ?_,by simp⟩
   rcases e.2 with q|q <;> rw [q] <;> rfl
 · cases h
theorem Ynr {nf:Nat} (hj:Zeb c) (hE:Zzc c) (hO:Ypu nf (ar,lo,rs,c)) (A:Zaf fs (ar,lo,rs,c) H) {n:Nat} {f:Jn} (hn:n<c.length) (h:Zek c n (Zba c n)=some f):Zcn fs rs c H n f.long f.put/\∀ y∈f.put,Zkz nf lo c.length y:=by
 unfold Zek at h
 split at h
 · cases h
 next h0 =>
 have T2:=Zhf hn (show 2<=Zba c n by omega) (by omega)
 have nil:∀ {t g d t' g' d':Int},(Zt fs rs (Zn c n).1 (Zn c n).2=(t,g)/\Zah fs rs (Zn c n).1 (Zn c n).2=d/\((Zn c n).1≠1/\(Zn c n).1≠2/\(Zn c n).1≠18/\(Zn c n).1≠14))->(Zt fs rs (Zn c (n+1)).1 (Zn c (n+1)).2=(t',g')/\Zah fs rs (Zn c (n+1)).1 (Zn c (n+1)).2=d'/\((Zn c (n+1)).1≠1/\(Zn c (n+1)).1≠2/\(Zn c (n+1)).1≠18/\(Zn c (n+1)).1≠14)) -> - t+g - t'+g'=0->Zcn fs rs c H n 2 []:=fun h1 h2 hz=>by
  obtain ⟨a1,a2,a3,a4⟩:=Jo hj A hn rfl h1
  obtain ⟨b1,b2,b3,b4⟩:=Jo hj A a3 rfl h2
  exact Zty (by omega) T2 ⟨b3,by rw [show n+2=n+1+1 from rfl];omega⟩
 have t4:(Zn c (n+1)).1=4->(Zt fs rs (Zn c (n+1)).1 (Zn c (n+1)).2=(1,0)/\Zah fs rs (Zn c (n+1)).1 (Zn c (n+1)).2=1/\((Zn c (n+1)).1≠1/\(Zn c (n+1)).1≠2/\(Zn c (n+1)).1≠18/\(Zn c (n+1)).1≠14)):=fun e=>by
  rw [e];exact ⟨rfl,rfl,by decide⟩
 simp only [] at h
 split at h
 · next e =>
   injection h with h;subst h;simp only []
   refine ⟨?_,by simp⟩
   rcases e.1 with q|q
   · exact nil (t:=0) (g:=1) (d:=0) (by rw [q];exact ⟨rfl,rfl,by decide⟩) (t4 e.2) (by omega)
   · exact nil (t:=0) (g:=1) (d:=0) (by rw [q];exact ⟨rfl,rfl,by decide⟩) (t4 e.2) (by omega)
 split at h
 · next e =>
   injection h with h;subst h;simp only []
   refine ⟨?_,by simp⟩
   rcases e.2 with q|q
   · exact nil (t:=0) (g:=1) (d:=0) (by rw [e.1];exact ⟨rfl,rfl,by decide⟩) (t4 q) (by omega)
   · exact nil (t:=0) (g:=1) (d:=0) (t':=1) (g':=0) (d':=1) (by rw [e.1];exact ⟨rfl,rfl,by decide⟩) (by rw [q];exact ⟨rfl,rfl,by simp⟩) (by omega)
 split at h
 · next e =>
   injection h with h;subst h;simp only []
   have P:=Ygp hE hO hn
   have tx:Zt fs rs (Zn c n).1 (Zn c n).2=(0,1)/\Zah fs rs (Zn c n).1 (Zn c n).2=1/\((Zn c n).1≠1/\(Zn c n).1≠2/\(Zn c n).1≠18/\(Zn c n).1≠14):=by rw [e.1,e.2.1];exact ⟨rfl,rfl,by decide⟩
   obtain ⟨a1,a2,a3,a4⟩:=Jo hj A hn rfl tx
   obtain ⟨b1,b2,b3,b4⟩:=Jo hj A a3 rfl (t:=2) (g:=2) (d:=2) (by rw [e.2.2];exact ⟨rfl,rfl,by decide⟩)
   refine ⟨?_,fun y hy=>by simp at hy;subst hy;exact P⟩
   rw [show Zn c n=((Zn c n).1,(Zn c n).2) from rfl]
   exact Zqv (by omega) T2 tx.2.2.2.2.1 (by rw [e.1];rfl) (by rw [tx.2.1];omega) (by rw [tx.1];simp only [];omega) (fun _ _=>⟨b3,by rw [tx.1];show H (n+1+1)=_;simp only [];omega⟩)
 split at h
 · next e =>
   injection h with h;subst h;simp only []
   exact ⟨nil (t:=0) (g:=1) (d:=(Zn c n).2+1) (by rw [e.1];exact ⟨rfl,rfl,by decide⟩) (t4 e.2) (by omega),by simp⟩
 split at h
 · next e =>
   injection h with h;subst h;simp only []
   refine ⟨?_,by simp⟩
   have e2:=congrArg Prod.fst e.2
   rcases e.1 with q|q|q
   · exact nil (t:=2) (g:=2) (d:=2) (t':=2) (g':=2) (d':=2) (by rw [q];exact ⟨rfl,rfl,by decide⟩) (by rw [<- e2,q];exact ⟨rfl,rfl,by decide⟩) (by omega)
   · exact nil (t:=1) (g:=1) (d:=1) (t':=1) (g':=1) (d':=1) (by rw [q];exact ⟨rfl,rfl,by decide⟩) (by rw [<- e2,q];exact ⟨rfl,rfl,by decide⟩) (by omega)
   · exact nil (t:=1) (g:=1) (d:=1) (t':=1) (g':=1) (d':=1) (by rw [q];exact ⟨rfl,rfl,by decide⟩) (by rw [<- e2,q];exact ⟨rfl,rfl,by decide⟩) (by omega)
 · cases h
theorem Yfd {nf:Nat} (hj:Zeb c) (A:Zaf fs (ar,lo,rs,c) H) {n:Nat} {f:Jn} (hn:n<c.length) (h:Zce c n (Zba c n)=some f):Zcn fs rs c H n f.long f.put/\∀ y∈f.put,Zkz nf lo c.length y:=by
 unfold Zce at h
 split at h
 · next e =>
   have T3:=Zhf hn e.1 (by omega)
   injection h with h;subst h;simp only []
   obtain ⟨a1,a2,a3,a4⟩:=Jo hj A hn e.2.1 (t:=1) (g:=0) (d:=1) ⟨rfl,rfl,by decide⟩
   obtain ⟨b1,b2,b3,b4⟩:=Jo hj A a3 (congrArg Prod.fst e.2.2.1) (t:=0) (g:=1) (d:=0) ⟨rfl,rfl,by simp⟩
   have r:=Yrl hj A b3 e.2.2.2
   exact ⟨Yrj 0 (by omega) T3 (by omega),fun y hy=>by simp at hy;subst hy;exact ⟨⟨_,rfl,rfl⟩,rfl⟩⟩
 · cases h
theorem Yhz {nf:Nat} (hl:c.length<=4096) (hj:Zeb c) (hE:Zzc c) (hO:Ypu nf (ar,lo,rs,c)) (A:Zaf fs (ar,lo,rs,c) H) {n:Nat} {f:Jn} (hn:n<c.length) (h:Zaj c n (Zba c n)=some f):Zcn fs rs c H n f.long f.put/\∀ y∈f.put,Zkz nf lo c.length y:=by
 rcases Zdg h with h|h|h|h
 · exact Yli hl hj hE hO A hn h
 · exact Yhl hl hj A hn h
 · exact Ynr hj hE hO A hn h
 · exact Yfd hj A hn h
end
theorem Zyx {fs fs':List FnP} {fn:FnP} {H:Nat->Int} (hS:Zoa fs fs') (hj:Zeb fn.2.2.2) (A:Zaf fs fn H):Zaf fs' fn H:=by
 refine ⟨A.1,fun p hp => ?_⟩
 obtain ⟨op,a,hx⟩:=Zbh hp
 have ha:jmp op=true->0<=a:=fun hh=>(hj _ (List.mem_of_getElem? hx) hh).1
 exact (Zbo (H:=H) hx ha).2 (Zfk hS ((Zbo (H:=H) hx ha).1 (A.2 p hp)))
theorem Ynd {c:List Ins} {n L:Nat} {put:List Ins} {y:Ins} (h:y∈Xb c n L put):∃ z,(z∈c\/z∈put)/\y=if jmp z.1=true then (z.1,Zbf n L put.length z.2) else z:=by
 unfold Xb reJ at h
 obtain ⟨z,hz,e⟩:=List.mem_map.1 h
 refine ⟨z,?_,e.symm⟩
 rcases List.mem_append.1 hz with hz|hz
 · rcases List.mem_append.1 hz with hz|hz
   · exact Or.inl (List.mem_of_mem_take hz)
   · exact Or.inr hz
 · exact Or.inl (List.mem_of_mem_drop hz)
theorem Yck {fs:List FnP} {i:Nat} {fn:FnP} (c:List Ins) (h:fs[i]? = some fn):Zoa fs (fs.set i (Zv fn c)):=by
 refine ⟨by simp,fun j f f' h1 h2 => ?_⟩
 by_cases e:i=j
 · subst e
   rw [List.getElem?_set_self (List.getElem?_eq_some_iff.1 h).1] at h2
   rw [h] at h1
   injection h1 with h1
   injection h2 with h2
   subst h1 h2
   exact ⟨rfl,rfl,rfl⟩
 · rw [List.getElem?_set_ne e,h1] at h2
   injection h2 with h2
   subst h2
   exact ⟨rfl,rfl,rfl⟩
theorem Ynh {fs:List FnP} {lo rs:Int} {c:List Ins} {H:Nat->Int} {n L nf:Nat} {put:List Ins} (hl:c.length<=4096) (hj:Zeb c) (R:Zcn fs rs c H n L put) (hc:∀ y∈c,Zkz nf lo c.length y) (hp:∀ y∈put,Zkz nf lo c.length y):∀ y∈Xb c n L put,Zkz nf lo (Xb c n L put).length y:=fun y hy=>by
 obtain ⟨z,hz,e⟩:=Ynd hy
 have hlen:=Zzo R
 have h1:=R.one
 have h2:=R.g
 by_cases j:jmp z.1=true
 · rw [if_pos j] at e
   have hb:0<=Zbf n L put.length z.2/\Zbf n L put.length z.2<(Xb c n L put).length:=by
    rcases hz with hz|hz
    · have b:=hj z hz j
      have r:=Zlj R b.1 b.2 (R.tg z hz j)
      exact ⟨r.1,r.2.1⟩
    · obtain ⟨b1,b2,b3,_⟩:=R.jump z hz j
      have r:=Zlj R b1 b2 b3
      exact ⟨r.1,r.2.1⟩
   rw [e]
   exact Zrb (by omega) j hb.1 hb.2
 · rw [if_neg j] at e
   subst e
   have P:=hz.elim (hc y) (hp y)
   exact ⟨P.1,by obtain ⟨op,a⟩:=y;rw [Ygx (len':=c.length) (by simpa using j)];exact P.2⟩
theorem Yyl {mem:Int} {nd:Nat} {fs:List FnP} {hs:Nat->List Int} {V:List Bool} (ho:OkP mem nd fs hs V) (hd:Zbk hs V fs.length 0=none) {i n:Nat} {x:Jn} (h:Zqs fs 0=some (i,n,x)):Tk mem nd (Ylw fs i n x):=by
 have P:=Zuf ho.1
 have PO:=Zft ho
 obtain ⟨⟨ar,lo,rs,c⟩,_,hfn,hn,hm⟩:=Zio h
 rw [Nat.sub_zero] at hfn
 simp only [] at hn hm
 have hmem:=List.mem_of_getElem? hfn
 obtain ⟨H,A⟩:=Zny ho hd hmem
 have hj:Zeb c:=Jz PO hmem
 have K:=P.f _ hmem
 have hE:Zzc c:=K.e
 have hl:1<=c.length/\c.length<=4096:=K.l
 have hO:Ypu fs.length (ar,lo,rs,c):=ho.2.2.1 _ hmem
 obtain ⟨R,hput⟩:=Yhz hl.2 hj hE hO A hn hm
 have hS:=Yck (Xb c n x.long x.put) hfn
 have hPut:=Ynh hl.2 hj R (fun y hy=>⟨hE y hy,hO y hy⟩) hput
 have hlen:=Zzo R
 have h1:=R.one
 have h2:=R.g
 have h3:=R.t
 have hle:1<=(Xb c n x.long x.put).length/\(Xb c n x.long x.put).length<=4096:=by
  refine ⟨?_,by omega⟩
  by_cases e:x.put.length=0
  · have:=(R.nil (List.length_eq_zero_iff.1 e)).1
    omega
  · omega
 unfold Ylw
 rw [hfn]
 show Tk mem nd (fs.set i (ar,lo,rs,Xb c n x.long x.put))
 have mem':∀ g∈fs.set i ((ar,lo,rs,Xb c n x.long x.put):FnP),g∈fs\/g=(ar,lo,rs,Xb c n x.long x.put):=fun g hg=>List.mem_or_eq_of_mem_set hg
 refine ⟨Yug ⟨P.m,by rw [List.length_set];exact P.l,fun g hg => ?_⟩,?_,fun g hg => ?_,fun g hg => ?_⟩
 · rcases mem' g hg with hg|rfl
   · exact P.f g hg
   · exact ⟨K.a,hle,fun y hy=>(hPut y hy).1⟩
 · obtain ⟨f,h0,q1,q2⟩:=ho.2.1
   by_cases e:i=0
   · subst e
     rw [hfn] at h0
     injection h0 with h0
     subst h0
     exact ⟨_,List.getElem?_set_self (List.getElem?_eq_some_iff.1 hfn).1,q1,q2⟩
   · exact ⟨f,by rw [List.getElem?_set_ne e];exact h0,q1,q2⟩
 · rw [List.length_set]
   rcases mem' g hg with hg|rfl
   · exact ho.2.2.1 g hg
   · exact fun y hy=>(hPut y hy).2
 · rcases mem' g hg with hg|rfl
   · obtain ⟨G,B⟩:=Zny ho hd hg
     exact ⟨G,Zfn (Zyx hS (Jz PO hg) B)⟩
   · exact ⟨_,Zfn (Yne hj A R hS)⟩
def Ztc (b:Nat->Bool) (V:List Bool) (op a:Int):Int:=if jmp op=true then (Yn b a.toNat:Nat) else if op=17 then (Yn (vB V) a.toNat:Nat) else a
theorem Zwb {c:List Ins} {h:List Int} {V:List Bool} {p:Nat} {op a:Int} (hp:p<c.length) (hb:hB h p=true) (hx:c[p]? = some (op,a)):(Zal V (Jf c h))[Yn (hB h) p]? = some (op,Ztc (hB h) V op a):=by
 unfold Zal Jf
 rw [List.getElem?_map,Yrn,Ziz c (hB h) c.length (Nat.le_refl _) p _ hp hb hx]
 simp only [Option.map_some]
 unfold Ztc
 by_cases j:jmp op=true
 · have n17:op≠17:=by intro e;subst e;cases j
   rw [if_pos j,if_pos j]
   simp only []
   rw [if_neg n17]
 · rw [if_neg j,if_neg j]
   simp only []
   split <;> rfl
theorem Zeu {c:List Ins} {h:List Int} {V:List Bool}:(Zal V (Jf c h)).length=Yn (hB h) c.length:=by
 unfold Zal Jf reJ
 rw [List.length_map,List.length_map,Yk _ _ _ (Nat.le_refl _)]
theorem Ylc {c:List Ins} {h:List Int} {V:List Bool} {q:Nat} (hq:q<(Zal V (Jf c h)).length):∃ p op a,p<c.length/\hB h p=true/\c[p]? = some (op,a)/\Yn (hB h) p=q:=by
 rw [Zeu,<- Yk c (hB h) c.length (Nat.le_refl _)] at hq
 obtain ⟨p,h1,h2,h3,h4⟩:=Zfh c (hB h) c.length (Nat.le_refl _) q _ (List.getElem?_eq_getElem hq)
 exact ⟨p,_,_,h1,h2,h3,h4⟩
theorem Yld {fs:List FnP} {hs:Nat->List Int} {i:Nat} {f:FnP} (h:fs[i]? = some f):(Zgc fs hs fs.length)[i]? = some (Zv f (Jf f.2.2.2 (hs i))):=by
 rw [Zfm h,if_pos (List.getElem?_eq_some_iff.1 h).1]
theorem Zwc {fs:List FnP} {hs:Nat->List Int} {V:List Bool} {i:Nat} {f:FnP} (h:fs[i]? = some f) (hv:vB V i=true):(Zam fs hs V)[Yn (vB V) i]? = some (Zv f (Zal V (Jf f.2.2.2 (hs i)))):=by
 unfold Zam
 rw [List.getElem?_map,Ziz (Zgc fs hs fs.length) (vB V) fs.length (by rw [Xh];exact Nat.le_refl _) i _ (List.getElem?_eq_some_iff.1 h).1 hv (Yld h)]
 rfl
theorem Znx {fs:List FnP} {hs:Nat->List Int} {V:List Bool} {g:FnP} (hg:g∈Zam fs hs V):∃ i f,fs[i]? = some f/\vB V i=true/\g=Zv f (Zal V (Jf f.2.2.2 (hs i))):=by
 obtain ⟨q,hq⟩:=List.getElem?_of_mem hg
 unfold Zam at hq
 rw [List.getElem?_map] at hq
 obtain ⟨x,hx,e⟩:=Option.map_eq_some_iff.1 hq
 obtain ⟨i,h1,h2,h3,_⟩:=Zfh (Zgc fs hs fs.length) (vB V) fs.length (by rw [Xh];exact Nat.le_refl _) q x hx
 have hf:=List.getElem?_eq_getElem h1
 rw [Yld hf] at h3
 injection h3 with h3
 exact ⟨i,_,hf,h2,by rw [<- e,<- h3];rfl⟩
theorem Znu {fs:List FnP} {hs:Nat->List Int} {V:List Bool} (hL:Zon fs (Znt fs hs) V) {i p:Nat} {f:FnP} {a:Int} (hf:fs[i]? = some f) (hv:vB V i=true) (hb:hB (hs i) p=true) (hx:f.2.2.2[p]? = some (17,a)) (ha:0<=a/\a<fs.length):vB V a.toNat=true:=by
 have hi:=(List.getElem?_eq_some_iff.1 hf).1
 refine (hL.2 a.toNat (by omega)).2 (.step ((hL.2 i hi).1 hv) ?_)
 unfold Xv
 rw [hf]
 simp only []
 unfold Zgw
 refine List.mem_map.2 ⟨p,?_,by rw [hx]⟩
 unfold Znt
 rw [hf]
 simp only []
 unfold Zfy
 refine List.mem_filter.2 ⟨List.mem_range.2 (List.getElem?_eq_some_iff.1 hx).1,?_⟩
 unfold Zkp
 rw [hx]
 unfold hB at hb
 simpa using hb
section
variable {mem:Int} {nd:Nat} {fs:List FnP} {hs:Nat->List Int} {V:List Bool}
theorem Zxq (ho:OkP mem nd fs hs V) {i:Nat} {fn:FnP} (hfn:fs[i]? = some fn):∃ H:Nat->Int,H 0=0/\(hs i).length=fn.2.2.2.length/\hB (hs i) 0=true/\∀ p,p<fn.2.2.2.length->hB (hs i) p=true ->
 ((hs i).getD p 0=H p/\∀ op a,fn.2.2.2[p]? = some (op,a)->Zoo fs fn.2.2.1 fn.2.2.2.length (fun z=>H z.toNat) op a p (H p)/\∀ z∈Yy op a p,hB (hs i) z.toNat=true):=by
 obtain ⟨s,r,inv,e⟩:=ho.2.2.2.1 i fn hfn
 have hm:=List.mem_of_getElem? hfn
 have PO:=Zft ho
 have F:=Zfj PO hm r
 have hj:=Jz PO hm
 have hh:=Zcv (hs:=hs) (Zen ho) hfn r F
 have hl:(hs i).length=fn.2.2.2.length:=by rw [<- e];exact inv.hl
 have live:∀ p,p<fn.2.2.2.length->(hB (hs i) p=true ↔ Reach fn.2.2.2 p):=fun p hp=>by
  unfold hB
  rw [<- e]
  rw [decide_eq_true_iff]
  exact ⟨fun q=>Classical.byContradiction fun c=>by have:=(hh p hp).2 c;omega,fun c=>((hh p hp).1 c).2⟩
 refine ⟨fun x=>s.h.getD x 0,F.z,hl,(live 0 (by have:=(PO.len fn hm).1;omega)).2 .z,fun p hp hb => ?_⟩
 have rp:=(live p hp).1 hb
 refine ⟨by rw [<- e],fun op a hx => ?_⟩
 have FA:=(Zbo (H:=fun x=>s.h.getD x 0) hx (fun q=>(hj _ (List.mem_of_getElem? hx) q).1)).1 (F.st p hp rp)
 refine ⟨FA,fun z hz => ?_⟩
 have hz0:0<=z:=by
  obtain ⟨_,⟨h1,rfl⟩|⟨_,rfl⟩⟩:=goes_mem.1 hz
  · exact (hj _ (List.mem_of_getElem? hx) h1).1
  · omega
 have hzl:=(FA.go z hz hz0).1
 refine (live z.toNat (by omega)).2 (.next rp hp ?_)
 unfold Jc
 rw [hx]
 exact List.mem_map.2 ⟨z,hz,rfl⟩
theorem Zxb (fs fs':List FnP) (rs:Int) {op:Int} (a:Int) (h:op≠17):Zt fs rs op a=Zt fs' rs op a/\Zah fs rs op a=Zah fs' rs op a:=by
 have:Zt fs rs op a=Zt fs' rs op a:=by unfold Zt;rw [if_neg h,if_neg h]
 exact ⟨this,by unfold Zah;rw [this]⟩
theorem Ydx (ho:OkP mem nd fs hs V) {i p:Nat} {fn:FnP} {op a rs:Int} (hfn:fs[i]? = some fn) (hv:vB V i=true) (hb:hB (hs i) p=true) (hx:fn.2.2.2[p]? = some (op,a)):Zt (Zam fs hs V) rs op (Ztc (hB (hs i)) V op a)=Zt fs rs op a/\Zah (Zam fs hs V) rs op (Ztc (hB (hs i)) V op a)=Zah fs rs op a:=by
 have PO:=Zft ho
 by_cases h17:op=17
 · subst h17
   have OK:=((PO.ins fn (List.mem_of_getElem? hfn) _ (List.mem_of_getElem? hx)).ok).call rfl
   simp only [] at OK
   have lv:=Znu ho.2.2.2.2 hfn hv hb hx OK
   obtain ⟨g,hg⟩:∃ g,fs[a.toNat]? = some g:=⟨_,List.getElem?_eq_getElem (by omega)⟩
   have hp:=Zwc (hs:=hs) hg lv
   have e:Zt (Zam fs hs V) rs 17 (Ztc (hB (hs i)) V 17 a)=Zt fs rs 17 a:=by
    unfold Zt Ztc
    rw [if_pos rfl,if_pos rfl,if_neg (show ¬ jmp 17=true by decide),if_pos rfl,Int.toNat_natCast,hp,hg]
    rfl
   exact ⟨e,by unfold Zah;rw [e];rfl⟩
 · have t:=Zxb (Zam fs hs V) fs rs (Ztc (hB (hs i)) V op a) h17
   by_cases j:jmp op=true
   · have t2:=Zid fs rs (Ztc (hB (hs i)) V op a) a j
     exact ⟨t.1.trans t2.1,t.2.trans t2.2⟩
   · have e:Ztc (hB (hs i)) V op a=a:=by unfold Ztc;rw [if_neg j,if_neg h17]
     rw [e] at t ⊢
     exact t
theorem Yqm (ho:OkP mem nd fs hs V) {i:Nat} {fn:FnP} (hfn:fs[i]? = some fn) (hv:vB V i=true):∃ H',Zaf (Zam fs hs V) (Zv fn (Zal V (Jf fn.2.2.2 (hs i)))) H':=by
 obtain ⟨H,hz,hl,hb0,hh⟩:=Zxq ho hfn
 have PO:=Zft ho
 have hj:=Jz PO (List.mem_of_getElem? hfn)
 have h1:=(PO.len fn (List.mem_of_getElem? hfn)).1
 obtain ⟨ar,lo,rs,c⟩:=fn
 simp only [] at hl hh hj h1
 show ∃ H',Zaf (Zam fs hs V) (ar,lo,rs,Zal V (Jf c (hs i))) H'
 have hH:∀ p,p<c.length->hB (hs i) p=true->(Xk (hs i) (hB (hs i)) (hs i).length).getD (Yn (hB (hs i)) p) 0=H p:=fun p hp hb=>by
  obtain ⟨x,hx⟩:∃ x,(hs i)[p]? = some x:=⟨_,List.getElem?_eq_getElem (by omega)⟩
  rw [List.getD_eq_getElem?_getD,Ziz (hs i) _ _ (Nat.le_refl _) p x (by omega) hb hx]
  have:=(hh p hp hb).1
  rw [List.getD_eq_getElem?_getD,hx] at this
  exact this
 refine ⟨fun q=>(Xk (hs i) (hB (hs i)) (hs i).length).getD q 0,?_,fun q hq => ?_⟩
 · have:=hH 0 (by omega) hb0
   rw [hz] at this
   exact this
 · obtain ⟨p,op,a,hp,hb,hx,rfl⟩:=Ylc hq
   have hx':=Zwb (V:=V) hp hb hx
   have hgo:∀ z,0<=z->z∈Yy op a p->z<c.length/\hB (hs i) z.toNat=true/\H z.toNat=H p - (Zt fs rs op a).1+(Zt fs rs op a).2:=fun z h0 hz=>by
    have F:=(hh p hp hb).2 op a hx
    have:=F.1.go z hz h0
    exact ⟨this.1,F.2 z hz,this.2⟩
   have F:=((hh p hp hb).2 op a hx).1
   have T:=Ydx (rs:=rs) ho hfn hv hb hx
   refine (Zbo (fn:=(ar,lo,rs,Zal V (Jf c (hs i)))) (H:=fun q=>(Xk (hs i) (hB (hs i)) (hs i).length).getD q 0) hx' (fun q=>by unfold Ztc;rw [if_pos q];omega)).2 ?_
   simp only []
   rw [hH p hp hb]
   refine ⟨F.ret,fun e=>by rw [T.2];exact F.need e,fun e=>by rw [T.1];exact F.top e,fun z hz h0 => ?_⟩
   rw [T.1]
   have fin:∀ w:Nat,w<c.length->hB (hs i) w=true->H w=H p - (Zt fs rs op a).1+(Zt fs rs op a).2->z=(Yn (hB (hs i)) w:Nat)->z<(Zal V (Jf c (hs i))).length/\(Xk (hs i) (hB (hs i)) (hs i).length).getD z.toNat 0=H p - (Zt fs rs op a).1+(Zt fs rs op a).2:=fun w g1 g2 g3 g4=>by
    subst g4
    rw [Int.toNat_natCast,hH w g1 g2,Zeu]
    exact ⟨by have:=Zhb g1 g2;omega,g3⟩
   obtain ⟨g1,⟨g2,e⟩|⟨g2,e⟩⟩:=goes_mem.1 hz
   · have ha:=hj _ (List.mem_of_getElem? hx) g2
     simp only [] at ha
     obtain ⟨u1,u2,u3⟩:=hgo a ha.1 (goes_mem.2 ⟨g1,Or.inl ⟨g2,rfl⟩⟩)
     exact fin a.toNat (by omega) u2 u3 (by rw [e];unfold Ztc;rw [if_pos g2])
   · obtain ⟨u1,u2,u3⟩:=hgo ((p:Int)+1) (by omega) (goes_mem.2 ⟨g1,Or.inr ⟨g2,rfl⟩⟩)
     have e1:((p:Int)+1).toNat=p+1:=by omega
     rw [e1] at u2 u3
     refine fin (p+1) (by omega) u2 u3 ?_
     rw [e]
     simp only [Yn,hb,if_true]
     omega
theorem Ybi (ho:OkP mem nd fs hs V) {i:Nat} {fn:FnP} (hfn:fs[i]? = some fn) (hv:vB V i=true):∀ y∈Zal V (Jf fn.2.2.2 (hs i)),Zkz (Zam fs hs V).length fn.2.1 (Zal V (Jf fn.2.2.2 (hs i))).length y:=fun y hy=>by
 have P:=Zuf ho.1
 have PO:=Zft ho
 have hm:=List.mem_of_getElem? hfn
 have hj:=Jz PO hm
 have hl:=(PO.len fn hm)
 obtain ⟨q,hq⟩:=List.getElem?_of_mem hy
 obtain ⟨p,op,a,hp,hb,hx,rfl⟩:=Ylc (List.getElem?_eq_some_iff.1 hq).1
 rw [Zwb hp hb hx] at hq
 injection hq with hq
 subst hq
 have hcl:(Zal V (Jf fn.2.2.2 (hs i))).length<=fn.2.2.2.length:=by
  rw [Zeu,<- Yk fn.2.2.2 _ _ (Nat.le_refl _)]
  unfold Xk
  exact Nat.le_trans (List.length_filterMap_le _ _) (by rw [List.length_range];exact Nat.le_refl _)
 have I:=PO.ins fn hm _ (List.mem_of_getElem? hx)
 by_cases j:jmp op=true
 · obtain ⟨H,_,_,_,hh⟩:=Zxq ho hfn
   have ha:=hj _ (List.mem_of_getElem? hx) j
   simp only [] at ha
   have g1:¬ (op=1\/op=2\/op=18):=by rintro (rfl|rfl|rfl) <;> cases j
   have lv:=((hh p hp hb).2 op a hx).2 a (goes_mem.2 ⟨g1,Or.inl ⟨j,rfl⟩⟩)
   have e:Ztc (hB (hs i)) V op a=(Yn (hB (hs i)) a.toNat:Nat):=by unfold Ztc;rw [if_pos j]
   rw [e]
   refine Zrb (by omega) j (by omega) ?_
   rw [Zeu]
   have:=Zhb (show a.toNat<fn.2.2.2.length by omega) lv
   omega
 · by_cases h17:op=17
   · subst h17
     have OK:=I.ok.call rfl
     simp only [] at OK
     have lv:=Znu ho.2.2.2.2 hfn hv hb hx OK
     have e:Ztc (hB (hs i)) V 17 a=(Yn (vB V) a.toNat:Nat):=by unfold Ztc;rw [if_neg j,if_pos rfl]
     have lt:=Zhb (show a.toNat<fs.length by omega) lv
     have hq:=Zjm fs hs V
     have h64:=P.l.2
     rw [<- Zpy fs hs V] at lt
     rw [e]
     refine ⟨⟨_,rfl,?_⟩,?_⟩
     · show (decide (0<=((Yn (vB V) a.toNat:Nat):Int)) && decide (((Yn (vB V) a.toNat:Nat):Int)<64))=true
       simp
       omega
     · unfold opE
       rw [if_neg (by simp),if_neg (by simp),if_pos rfl,if_neg (by show ¬ (((Zam fs hs V).length:Nat):Int)<=((Yn (vB V) a.toNat:Nat):Int);omega)]
   · have e:Ztc (hB (hs i)) V op a=a:=by unfold Ztc;rw [if_neg j,if_neg h17]
     rw [e]
     refine ⟨(P.f fn hm).e _ (List.mem_of_getElem? hx),?_⟩
     have:=ho.2.2.1 fn hm _ (List.mem_of_getElem? hx)
     unfold opE at this ⊢
     have n3:¬ (op=14\/op=15\/op=16):=by unfold jmp at j;simp at j;omega
     rw [if_neg n3] at this ⊢
     by_cases h78:op=7\/op=8
     · rw [if_pos h78] at this ⊢;exact this
     · rw [if_neg h78] at this ⊢
       rw [if_neg h17]
theorem Ywj (ho:OkP mem nd fs hs V):Tk mem nd (Zam fs hs V):=by
 have P:=Zuf ho.1
 have PO:=Zft ho
 obtain ⟨f0,h0,q1,q2⟩:=ho.2.1
 have v0:vB V 0=true:=(ho.2.2.2.2.2 0 (by have:=P.l.1;omega)).2 .refl
 have b0:=Zwc (hs:=hs) h0 v0
 refine ⟨Yug ⟨P.m,⟨by have:=(List.getElem?_eq_some_iff.1 b0).1;omega,Nat.le_trans (Zjm fs hs V) P.l.2⟩,fun g hg => ?_⟩,⟨_,b0,q1,q2⟩,fun g hg => ?_,fun g hg => ?_⟩
 · obtain ⟨i,fn,hfn,hv,rfl⟩:=Znx hg
   have K:=P.f fn (List.mem_of_getElem? hfn)
   obtain ⟨H,_,_,hb,_⟩:=Zxq ho hfn
   have hl:=K.l
   refine ⟨K.a,⟨?_,?_⟩,fun y hy=>(Ybi ho hfn hv y hy).1⟩
   · show 1<=(Zal V (Jf fn.2.2.2 (hs i))).length
     rw [Zeu]
     have:=Zhb (show 0<fn.2.2.2.length by omega) hb
     omega
   · show (Zal V (Jf fn.2.2.2 (hs i))).length<=4096
     rw [Zeu,<- Yk fn.2.2.2 _ _ (Nat.le_refl _)]
     unfold Xk
     exact Nat.le_trans (List.length_filterMap_le _ _) (by rw [List.length_range];exact hl.2)
 · obtain ⟨i,fn,hfn,hv,rfl⟩:=Znx hg
   exact fun y hy=>(Ybi ho hfn hv y hy).2
 · obtain ⟨i,fn,hfn,hv,rfl⟩:=Znx hg
   obtain ⟨H',A⟩:=Yqm ho hfn hv
   exact ⟨H',Zfn A⟩
theorem Yre {fs':List FnP} (st:Stp mem nd fs fs'):Tk mem nd fs':=by
 obtain ⟨hs,V,p,what,ho,hq⟩:=st
 unfold Jk at hq
 cases hd:Zbk hs V fs.length 0 with
 | some p =>
   rw [hd] at hq
   simp only [] at hq
   injection hq with hq
   injection hq with _ hq
   injection hq with _ hq
   subst hq
   exact Ywj ho
 | none =>
   rw [hd] at hq
   simp only [] at hq
   cases hu:Zed fs 0 with
   | some p =>
     rw [hu] at hq
     simp only [] at hq
     injection hq with hq
     injection hq with _ hq
     injection hq with _ hq
     subst hq
     exact Yff ho hd
   | none =>
     rw [hu] at hq
     simp only [] at hq
     cases hr:Zqs fs 0 with
     | none=>rw [hr] at hq;cases hq
     | some x =>
       obtain ⟨i,n,x⟩:=x
       rw [hr] at hq
       simp only [] at hq
       injection hq with hq
       injection hq with _ hq
       injection hq with _ hq
       subst hq
       exact Yyl ho hd hr
theorem Yft {fs':List FnP} (h:Stps mem nd fs fs') (T:Tk mem nd fs):Tk mem nd fs':=by
 cases h with
 | refl=>exact T
 | step _ st=>exact Yre st
end
end Go.Proofs.Ythlkflagancdfaa.OT
