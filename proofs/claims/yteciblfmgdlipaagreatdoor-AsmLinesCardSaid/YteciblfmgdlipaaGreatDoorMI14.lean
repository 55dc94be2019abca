/-
  Part of a proof: contracts of functions and lemmas, each stated by its own theorem. Conditions: as each theorem states.
-/
import Derived.Test.YteciblfmgdlipaaGreatDoorMI13
import Derived.Test.YteciblfmgdlipaaGreatDoorMI11
import Derived.Test.YteciblfmgdlipaaGreatDoorMI05
import Derived.Deep.Strs
import Derived.ChangeArms
import Derived.Test.YteciblfmgdlipaaGreatDoorMI04
import Derived.Lib.ItoaLen
set_option linter.unusedSimpArgs false
set_option linter.unusedVariables false
set_option maxRecDepth 100000
set_option maxHeartbeats 16000000
namespace Go.Proofs.YteciblfmgdlipaaGreatDoor.AS
open Go.RowKit Go.Great CK
theorem Yso (c:CS) (x:Option Int) (t:Txt):∃ L,(Zlf c x t).1={ c with lm:=L }:=by
 unfold Zlf
 simp only []
 split
 · exact ⟨c.lm,rfl⟩
 · exact ⟨_,rfl⟩
theorem Yah:∀ (lb:List Txt) (c:CS) (x:Option Int),∃ L,(Zes c x lb).1={ c with lm:=L }
 | [],c,x=>⟨c.lm,rfl⟩
 | t::r,c,x=>by
   obtain ⟨L,h⟩:=Yso c x t
   obtain ⟨L2,h2⟩:=Yah r (Zlf c x t).1 (Zlf c x t).2
   refine ⟨L2,?_⟩
   rw [Zes,h2,h]
theorem Ysy (line:Int) (c:CS) (L:List (Txt->Option Int)) (x:Option Int) (ps:List Pc):Zli line { c with lm:=L } x ps=(Zli line c x ps).map fun r=>({ r.1 with lm:=L },r.2):=by
 unfold Zli
 split
 · split
   · rfl
   · split
     · rfl
     · unfold Zje
       split
       · split <;> rfl
       · split
         · rfl
         · split
           · rfl
           · split
             · split <;> rfl
             · rfl
         · rfl
 · rfl
theorem Ycw (line:Int) (c:CS) (x:Option Int) (q:Pc) (r:List Pc):Zer line c x true (q::r)=Zli line c x (q::r):=by
 cases q with
 | word t=>exact Zoc line c x t r
 | num v b=>rfl
 | str t=>rfl
 | colon=>rfl
theorem Zyl:∀ (n:Nat) (ps:List Pc),ps.length<=n->Ziz (Yb ps).2=Ziz ps:=by
 intro n
 induction n with
 | zero =>
   intro ps hn
   have:ps=[]:=List.eq_nil_of_length_eq_zero (by omega)
   subst this;rfl
 | succ n ih =>
   intro ps hn
   by_cases hp:∃ t r,ps = .word t :: .colon::r
   · obtain ⟨t,r,rfl⟩:=hp
     have:=ih r (by simp only [List.length_cons] at hn;omega)
     simp only [Yb]
     rw [this]
     simp [Ziz]
   · have:Yb ps=([],ps):=by
      unfold Yb
      split
      · exact absurd ⟨_,_,rfl⟩ hp
      · rfl
     rw [this]
def Zpi (line:Int) (c:CS) (r:Option (CS × Option Int)) (e:Except Int St):Prop :=
 match e with
 | .ok s'=>∃ c',r=some (c',none)/\Rel c' s'
 | .error y=>(y=141/\r=none)\/∃ c',r=some (c',some y)
theorem Zjy (s:St):s.funcs.isEmpty=true ↔ s.funcs.length=0:=by cases s.funcs <;> simp
theorem Zvl {c:CS} {s:St} (h:Rel c s) (line:Nat) (lb:List Txt) (r:List Pc) (hf:s.funcs.length≠0) (hne:lb≠[]\/r≠[]) :
 Zpi line c (match r with|[]=>some (Zes c none lb)|q::rest=>Zli line (Zes c none lb).1 (Zes c none lb).2 (q::rest))
  (match Zfu TT lb r with|none => .error 141|some x=>Jv TT s x (Ziz r) line):=by
 obtain ⟨k,hk⟩:∃ k,s.funcs.length=k+1:=⟨s.funcs.length - 1,by omega⟩
 have hl:=Zzk lb c s h hk
 have hfit:∀ lb' ins,Zfh s (.code lb' ins)=true:=fun lb' ins=>by
  unfold Zfh
  cases hs:s.funcs.isEmpty
  · rfl
  · exact absurd ((Zjy s).1 hs) hf
 have hlast:=Zuq hk
 have hlen:s.labels.length - 1=k:=by rw [h.slen];omega
 have hgl:s.labels.getLastD []=s.labels.getD k []:=by
  rw [List.getD_eq_getElem?_getD,List.getLastD_eq_getLast?,List.getLast?_eq_getElem?,hlen]
 cases r with
 | nil =>
   simp only [Zfu,Jv,hfit,Ziz,List.any_nil,Bool.not_true,Bool.false_eq_true,if_false]
   rw [hlast,hgl]
   cases ha:Zae (s.funcs.getD k (0,0,0,[])).2.2.2.length (s.labels.getD k []) lb with
   | none =>
     rw [ha] at hl
     right
     exact ⟨(Zes c none lb).1,congrArg some (Prod.ext rfl hl)⟩
   | some m =>
     rw [ha] at hl
     refine ⟨(Zes c none lb).1,congrArg some (Prod.ext rfl hl.1),?_⟩
     rw [hlen]
     exact hl.2
 | cons q rest =>
   simp only []
   cases ha:Zae (s.funcs.getD k (0,0,0,[])).2.2.2.length (s.labels.getD k []) lb with
   | none =>
     rw [ha] at hl
     simp only [] at hl
     obtain ⟨L,hL⟩:=Yah lb c none
     rw [hl,hL,Ysy]
     have hb:=Yal h hk line (some 142) lb q rest
     cases hi:Zfu TT lb (q::rest) with
     | none =>
       rw [hi] at hb
       left
       exact ⟨rfl,by rw [hb];rfl⟩
     | some y =>
       rw [hi] at hb
       obtain ⟨n,a,w,c',rfl,h2,h3⟩:=hb
       rw [h2]
       simp only [Jv,hfit,Bool.not_true,Bool.false_eq_true,if_false,hlast,hgl,ha]
       cases hbg:Ziz (q::rest)
       · right;exact ⟨_,rfl⟩
       · right;exact ⟨_,rfl⟩
   | some m =>
     rw [ha] at hl
     simp only [] at hl
     rw [hl.1]
     have hb:=Yal hl.2 hk line none lb q rest
     cases hi:Zfu TT lb (q::rest) with
     | none =>
       rw [hi] at hb
       left
       exact ⟨rfl,hb⟩
     | some y =>
       rw [hi] at hb
       obtain ⟨n,a,w,c',rfl,h2,h3⟩:=hb
       rw [h2]
       simp only [Jv,hfit,Bool.not_true,Bool.false_eq_true,if_false,hlast,hgl,ha]
       cases hbg:Ziz (q::rest)
       · refine ⟨c',rfl,?_⟩
         rw [hlen,hk,Nat.add_sub_cancel]
         exact h3
       · right;exact ⟨c',rfl⟩
theorem Zvu (ps:List Pc):Zpe none ps=if Ziz ps=true then some 143 else none:=by
 unfold Zpe
 have:ps.any Ydf=Ziz ps:=by
  unfold Ziz
  congr 1
  (try (funext p;cases p <;> rfl))
 rw [this]
theorem Zpf (t:Txt) (r:List Pc):Ziz (.word t::r)=Ziz r:=by simp [Ziz]
theorem Ymq {c:CS} {s:St} (h:Rel c s) (line:Nat) (r:List Pc) :
 Zpi line c (Yjz c none r) (match (match r with|[.num n _]=>some (Sd.mem n)|_=>none) with|none => .error 141|some x=>Jv TT s x (Ziz r) line):=by
 by_cases hr:∃ n b,r=[.num n b]
 · obtain ⟨n,b,rfl⟩:=hr
   have hn:Zff [.num n b] 1=some [n]:=rfl
   have hb:Ziz [.num n b]=b:=by cases b <;> rfl
   simp only [Yjz,hn,Jv,hb]
   by_cases hc:c.ms=true\/0<c.funcs.length
   · rw [if_pos hc]
     have hfit:Zfh s (.mem n)=false:=by
      unfold Zfh
      rcases hc with hc|hc
      · rw [<- h.ms,hc];rfl
      · rw [h.funcs] at hc
        cases hs:s.funcs with
        | nil=>rw [hs] at hc;simp at hc
        | cons a r=>simp
     simp only [hfit]
     exact Or.inl ⟨rfl,rfl⟩
   · rw [if_neg hc]
     have hfit:Zfh s (.mem n)=true:=by
      unfold Zfh
      have h1:s.memSet=false:=by rw [<- h.ms];cases hm:c.ms;rfl;exact absurd (Or.inl hm) hc
      have h2:s.funcs=[]:=List.eq_nil_of_length_eq_zero (by rw [<- h.funcs];omega)
      rw [h1,h2];rfl
     simp only [hfit,Bool.not_true,Bool.false_eq_true,if_false,Zvu,hb]
     cases b
     · exact ⟨_,rfl,⟨rfl,rfl,h.data,h.funcs,h.names,h.nlen,h.llen,h.slen,h.lm,h.blk⟩⟩
     · exact Or.inr ⟨_,rfl⟩
 · have e1:(match r with|[.num n _]=>some (Sd.mem n)|_=>none)=none:=by
    split
    · exact absurd ⟨_,_,rfl⟩ hr
    · rfl
   rw [e1]
   refine Or.inl ⟨rfl,?_⟩
   unfold Yjz
   split
   · rfl
   · rename_i xs hx
     exfalso
     apply hr
     unfold Zff at hx
     split at hx
     · rename_i hc
       obtain ⟨h1,h2⟩:=hc
       match r,h1 with
       | [x],_ =>
         simp only [List.all_cons,List.all_nil,Bool.and_true] at h2
         obtain ⟨v1,b1,rfl⟩:=Ygx (Zoe h2)
         exact ⟨_,_,rfl⟩
     · cases hx
theorem Yiv {c:CS} {s:St} (h:Rel c s) (line:Nat) (r:List Pc) :
 Zpi line c (Zhx c none r) (match (match r with|[.str b]=>some (Sd.data b)|_=>none) with|none => .error 141|some x=>Jv TT s x (Ziz r) line):=by
 by_cases hr:∃ b,r=[.str b]
 · obtain ⟨b,rfl⟩:=hr
   have hb:Ziz [.str b]=false:=rfl
   simp only [Zhx,Jv,hb]
   by_cases hc:0<c.funcs.length
   · rw [if_pos hc]
     have hfit:Zfh s (.data b)=false:=by
      unfold Zfh
      rw [h.funcs] at hc
      cases hs:s.funcs with
      | nil=>rw [hs] at hc;simp at hc
      | cons a r=>simp
     simp only [hfit]
     exact Or.inl ⟨rfl,rfl⟩
   · rw [if_neg hc]
     have hfit:Zfh s (.data b)=true:=by
      unfold Zfh
      have h2:s.funcs=[]:=List.eq_nil_of_length_eq_zero (by rw [<- h.funcs];omega)
      rw [h2];rfl
     simp only [hfit,Bool.not_true,Bool.false_eq_true,if_false]
     exact ⟨_,rfl,⟨h.mem,h.ms,by rw [h.data],h.funcs,h.names,h.nlen,h.llen,h.slen,h.lm,h.blk⟩⟩
 · have e1:(match r with|[.str b]=>some (Sd.data b)|_=>none)=none:=by
    split
    · exact absurd ⟨_,rfl⟩ hr
    · rfl
   rw [e1]
   refine Or.inl ⟨rfl,?_⟩
   unfold Zhx
   split
   · exact absurd ⟨_,rfl⟩ hr
   · rfl
theorem Zsx (l:List Txt) (nm u:Txt) (h:l.findIdx? (· == nm)=none):(l++[nm]).findIdx? (· == u)=if u=nm then some l.length else l.findIdx? (· == u):=by
 rw [List.findIdx?_append]
 by_cases e:u=nm
 · subst e
   rw [h,if_pos rfl]
   simp [List.findIdx?_cons]
 · rw [if_neg e]
   have:([nm]:List Txt).findIdx? (· == u)=none:=by simp [List.findIdx?_cons,beq_eq_false_iff_ne.2 (Ne.symm e)]
   rw [this]
   cases l.findIdx? (· == u) <;> rfl
theorem Yus {c:CS} {s:St} (h:Rel c s) (nm:Txt) (a l k:Int) (hn:s.names.findIdx? (· == nm)=none) :
 Rel { c with funcs:=c.funcs++[(a,l,k,[])],fm:=fun u=>if u=nm then some (c.funcs.length:Int) else c.fm u,lm:=c.lm++[fun _=>none] } { s with funcs:=s.funcs++[(a,l,k,[])],names:=s.names++[nm],labels:=s.labels++[[]] }:=by
 refine ⟨h.mem,h.ms,h.data,by rw [h.funcs],fun u => ?_,by simp [h.nlen],by simp [h.llen],by simp [h.slen],fun j f hj u => ?_,h.blk⟩
 · show (if u=nm then some (c.funcs.length:Int) else c.fm u)=_
   rw [Zsx _ _ _ hn]
   split
   · rw [h.nlen,h.funcs];rfl
   · exact h.names u
 · show f u=_
   by_cases e:j<c.lm.length
   · rw [List.getElem?_append_left e] at hj
     have hsl:j<s.labels.length:=by rw [h.slen,<- h.llen];exact e
     rw [List.getD_eq_getElem?_getD,List.getElem?_append_left hsl,<- List.getD_eq_getElem?_getD]
     exact h.lm j f hj u
   · have hjl:=(List.getElem?_eq_some_iff.1 hj).1
     simp at hjl
     have ej:j=c.lm.length:=by omega
     subst ej
     rw [List.getElem?_append_right (Nat.le_refl _),Nat.sub_self] at hj
     simp at hj
     subst hj
     rw [List.getD_eq_getElem?_getD,h.llen,<- h.slen,List.getElem?_append_right (Nat.le_refl _),Nat.sub_self]
     rfl
theorem Zia (l:List Txt) (nm:Txt):l.contains nm=(l.findIdx? (· == nm)).isSome:=by
 rw [List.findIdx?_isSome]
 induction l with
 | nil=>rfl
 | cons a r ih =>
   rw [List.contains_cons,List.any_cons,ih]
   congr 1
   cases h:nm == a
   · symm;rw [beq_eq_false_iff_ne] at h ⊢;exact Ne.symm h
   · symm;rw [beq_iff_eq] at h ⊢;exact h.symm
theorem Ytf {c:CS} {s:St} (h:Rel c s) (line:Nat) (r:List Pc) :
 Zpi line c (Zhb c none r) (match (match r with|[.word nm,.num a _,.num l _,.num k _]=>some (Sd.fn nm a l k)|_=>none) with|none => .error 141|some x=>Jv TT s x (Ziz r) line):=by
 by_cases hr:∃ nm a b1 l b2 k b3,r=[.word nm,.num a b1,.num l b2,.num k b3]
 · obtain ⟨nm,a,b1,l,b2,k,b3,rfl⟩:=hr
   have hn:Zff [.num a b1,.num l b2,.num k b3] 3=some [a,l,k]:=rfl
   have hi:(c.fm nm).isSome=s.names.contains nm:=by rw [h.names,Zia];cases s.names.findIdx? (· == nm) <;> rfl
   simp only [Zhb,hn,Jv,Zfh,Bool.not_true,Bool.false_eq_true,if_false,Zvu,Zpf,hi]
   cases hb:Ziz [.num a b1,.num l b2,.num k b3]
   · cases hc:s.names.contains nm
     · simp only [Bool.false_eq_true,if_false]
       refine ⟨_,rfl,Yus h nm a l k ?_⟩
       rw [Zia] at hc
       cases hx:s.names.findIdx? (· == nm)
       · rfl
       · rw [hx] at hc;cases hc
     · right;exact ⟨_,rfl⟩
   · right
     cases hc:s.names.contains nm <;> exact ⟨_,rfl⟩
 · have e1:(match r with|[.word nm,.num a _,.num l _,.num k _]=>some (Sd.fn nm a l k)|_=>none)=none:=by
    split
    · exact absurd ⟨_,_,_,_,_,_,_,rfl⟩ hr
    · rfl
   rw [e1]
   refine Or.inl ⟨rfl,?_⟩
   unfold Zhb
   split
   · rename_i nm rest
     split
     · rename_i a l k hnum
       exfalso
       apply hr
       unfold Zff at hnum
       split at hnum
       · rename_i hc
         obtain ⟨h1,h2⟩:=hc
         match rest,h1 with
         | [x,y,z],_ =>
           simp only [List.all_cons,List.all_nil,Bool.and_true,Bool.and_eq_true] at h2
           obtain ⟨i1,i2,i3⟩:=h2
           obtain ⟨v1,b1,rfl⟩:=Ygx (Zoe i1)
           obtain ⟨v2,b2,rfl⟩:=Ygx (Zoe i2)
           obtain ⟨v3,b3,rfl⟩:=Ygx (Zoe i3)
           exact ⟨_,_,_,_,_,_,_,rfl⟩
       · cases hnum
     · rfl
   · rfl
theorem Yic {T:Tab} {lb:List Txt} {r:List Pc} {x:Sd} (h:Zfu T lb r=some x):∃ ins,x = .code lb ins:=by
 unfold Zfu at h
 split at h
 · injection h with h;exact ⟨_,h.symm⟩
 · split at h
   · cases h
   · split at h
     · split at h
       · injection h with h;exact ⟨_,h.symm⟩
       · cases h
     · split at h
       · injection h with h;exact ⟨_,h.symm⟩
       · split at h
         · obtain ⟨y,_,h⟩:=Option.map_eq_some_iff.1 h
           exact ⟨_,h.symm⟩
         · split at h
           · injection h with h;exact ⟨_,h.symm⟩
           · cases h
       · cases h
 · cases h
theorem Yie {line:Int} {c:CS} {x:Option Int} {ps:List Pc} (h:c.funcs.length=0):Zli line c x ps=none:=by
 unfold Zli
 split
 · split
   · rfl
   · rw [if_pos h]
 · rfl
theorem Ztq {s:St} {lb:List Txt} {r:List Pc} {b:Bool} {line:Nat} (h:s.funcs.length=0):(match Zfu TT lb r with|none=>(.error 141:Except Int St)|some x=>Jv TT s x b line) = .error 141:=by
 cases hi:Zfu TT lb r with
 | none=>rfl
 | some x =>
   obtain ⟨ins,rfl⟩:=Yic hi
   have:Zfh s (.code lb ins)=false:=by
    unfold Zfh
    rw [(Zjy s).2 h];rfl
   simp only [Jv,this]
   rfl
theorem Zxv {ps:List Pc} (h:∀ t r,ps ≠ .word t :: .colon::r):Yb ps=([],ps):=by
 unfold Yb
 split
 · exact absurd rfl (h _ _)
 · rfl
theorem Yhn (T:Tab) (u:Txt) (r:List Pc) (e:u=Jn):Zdl T (.word u::r)=(match r with|[.num n _]=>some (Sd.mem n)|_=>none):=if_pos e
theorem Ycu (T:Tab) (u:Txt) (r:List Pc) (e1:¬ u=Jn) (e:u=Zey):Zdl T (.word u::r)=(match r with|[.str b]=>some (Sd.data b)|_=>none):=(if_neg e1).trans (if_pos e)
theorem Ymx (T:Tab) (u:Txt) (r:List Pc) (e1:¬ u=Jn) (e2:¬ u=Zey) (e:u=Zgf):Zdl T (.word u::r)=(match r with|[.word nm,.num a _,.num l _,.num k _]=>some (Sd.fn nm a l k)|_=>none):=(if_neg e1).trans ((if_neg e2).trans (if_pos e))
theorem Yhm {c:CS} {s:St} (h:Rel c s) (line:Nat) (t:Txt):Zpi line c (lnC line c t) (Zjv TT s t line):=by
 unfold lnC Zjv
 cases hp:Zpm t with
 | none=>exact Or.inl ⟨rfl,rfl⟩
 | some ps =>
   show Zpi line c (Zht line c none false ps) (match Zdj TT ps with|none => .error 141|some x=>Jv TT s x (Ziz ps) line)
   cases ps with
   | nil =>
     rw [Zam _ _ _ _ _ (by intro t r e;cases e)]
     exact ⟨c,rfl,h⟩
   | cons q r =>
     by_cases hlab:∃ u r',q::r = .word u :: .colon::r'
     · obtain ⟨u,r',e⟩:=hlab
       rw [e]
       have hsaid:Zdj TT (.word u :: .colon::r')=Zfu TT (u::(Yb r').1) (Yb r').2:=rfl
       have hbig:Ziz (.word u :: .colon::r')=Ziz (Yb r').2:=by rw [Zyl r'.length r' (Nat.le_refl _)];simp [Ziz]
       rw [hsaid,hbig]
       by_cases hf:s.funcs.length=0
       · rw [Zfn,if_pos (by rw [h.funcs];exact hf),Ztq hf]
         exact Or.inl ⟨rfl,rfl⟩
       · have hb:=Zvl h line (u::(Yb r').1) (Yb r').2 hf (Or.inl (by simp))
         rw [Zwq line (r'.length+2) _ c none false (by simp) (by rw [h.funcs];exact hf)]
         have e2:Yb (.word u :: .colon::r')=(u::(Yb r').1,(Yb r').2):=rfl
         rw [e2]
         simp only [List.isEmpty_cons,Bool.not_false,Bool.or_true]
         cases hr:(Yb r').2 with
         | nil=>rw [hr] at hb;exact hb
         | cons a b=>rw [hr] at hb;rw [Ycw];exact hb
     · have hl0:Yb (q::r)=([],q::r):=by
        exact Zxv (fun t r' e=>hlab ⟨t,r',e⟩)
       have hsaid:Zdj TT (q::r)=Zdl TT (q::r):=by unfold Zdj;simp only [hl0]
       rw [Zam _ _ _ _ _ (fun t r' e=>hlab ⟨t,r',e⟩),hsaid]
       have hins:∀ (q:Pc),Zpi line c (Zli line c none (q::r)) (match Zfu TT [] (q::r) with|none => .error 141|some x=>Jv TT s x (Ziz (q::r)) line):=fun q=>by
        by_cases hf:s.funcs.length=0
        · rw [Yie (by rw [h.funcs];exact hf),Ztq hf]
          exact Or.inl ⟨rfl,rfl⟩
        · exact Zvl h line [] (q::r) hf (Or.inr (by simp))
       cases q with
       | num v b=>exact Or.inl ⟨rfl,rfl⟩
       | str u=>exact Or.inl ⟨rfl,rfl⟩
       | colon=>exact Or.inl ⟨rfl,rfl⟩
       | word u =>
         rw [Zpf]
         by_cases e1:u=Jn
         · have a1:Zer line c none false (.word u::r)=Yjz c none r:=if_pos ⟨rfl,e1⟩
           rw [a1,Yhn TT u r e1]
           exact Ymq h line r
         · by_cases e2:u=Zey
           · have a1:Zer line c none false (.word u::r)=Zhx c none r:=(if_neg (fun h=>e1 h.2)).trans (if_pos ⟨rfl,e2⟩)
             rw [a1,Ycu TT u r e1 e2]
             exact Yiv h line r
           · by_cases e3:u=Zgf
             · have a1:Zer line c none false (.word u::r)=Zhb c none r:=(if_neg (fun h=>e1 h.2)).trans ((if_neg (fun h=>e2 h.2)).trans (if_pos ⟨rfl,e3⟩))
               rw [a1,Ymx TT u r e1 e2 e3]
               exact Ytf h line r
             · have a1:Zer line c none false (.word u::r)=Zli line c none (.word u::r):=(if_neg (fun h=>e1 h.2)).trans ((if_neg (fun h=>e2 h.2)).trans (if_neg (fun h=>e3 h.2)))
               have a2:Zdl TT (.word u::r)=Zfu TT [] (.word u::r):=(if_neg e1).trans ((if_neg e2).trans (if_neg e3))
               rw [a1,a2]
               have:=hins (.word u)
               rw [Zpf] at this
               exact this
theorem Zqv:∀ (ls:List Txt) (c:CS) (s:St) (n:Nat),Rel c s->(match Zcm TT s n ls with | .ok s'=>∃ c',Yae c n ls = .ok c'/\Rel c' s' | .error (y,k)=>Yae c n ls = .error (y,(k:Int)))
 | [],c,s,n,h=>⟨c,rfl,h⟩
 | l::r,c,s,n,h=>by
   have hb:=Yhm h n l
   rw [Zcm,Yae]
   cases he:Zjv TT s l n with
   | error y =>
     rw [he] at hb
     rcases hb with ⟨rfl,hb⟩|⟨c',hb⟩
     · simp only [hb]
     · simp only [hb]
   | ok s' =>
     rw [he] at hb
     obtain ⟨c',hb,hr⟩:=hb
     simp only [hb]
     exact Zqv r c' s' (n+1) hr
theorem Yir {c:CS} {s:St} (h:Rel c s) (w:Zdz):Zsy c ⟨w.line,w.fn,w.pl,w.word,!w.jump⟩=(Zmo s w).map fun n=>(n:Int):=by
 unfold Zsy Zmo
 cases w.jump with
 | false=>simp only [Bool.not_false,if_true,Bool.false_eq_true,if_false];exact h.names _
 | true =>
   simp only [Bool.not_true,Bool.false_eq_true,if_false,if_true,Int.toNat_natCast]
   by_cases e:w.fn<c.lm.length
   · have:=h.lm w.fn _ (List.getElem?_eq_getElem e) w.word
     have e9:(c.lm.getD w.fn fun _=>none)=c.lm[w.fn]:=by rw [List.getD_eq_getElem?_getD,List.getElem?_eq_getElem e];rfl
     rw [e9,this]
     cases (s.labels.getD w.fn []).find? (fun x=>x.1 == w.word) <;> rfl
   · rw [List.getD_eq_getElem?_getD,List.getElem?_eq_none (by omega),List.getD_eq_getElem?_getD,List.getElem?_eq_none (by rw [h.slen,<- h.llen];omega)]
     rfl
theorem Zvh {c:CS} {s:St} (h:Rel c s):∀ (ws:List Zdz) (fs:List FnR),Zhe c fs (ws.map fun w=>⟨w.line,w.fn,w.pl,w.word,!w.jump⟩)=(match Zhw s fs ws with | .ok fs' => .ok fs' | .error n => .error (n:Int))
 | [],fs=>rfl
 | w::r,fs=>by
   rw [List.map_cons,Zhe,Zhw,Yir h w]
   cases hf:Zmo s w with
   | none=>rfl
   | some n =>
     simp only [Option.map_some,Int.toNat_natCast]
     exact Zvh h r _
theorem Zdo (t:Txt):Zda t=(match Zaq TT (fun p=>Jl p.1 p.2.1.length p.2.2) t with | .ok p => .ok p | .error (y,k) => .error (y,(k:Int))):=by
 unfold Zda Zaq
 by_cases hl:65536<t.length
 · rw [if_pos hl,if_pos hl];rfl
 · rw [if_neg hl,if_neg hl]
   have hb:=Zqv (Zci t) C0 St0 1 Yfv
   cases he:Zcm TT St0 1 (Zci t) with
   | error e =>
     rw [he] at hb
     obtain ⟨y,k⟩:=e
     simp only [] at hb
     rw [show ((1:Nat):Int)=1 from rfl] at hb
     rw [hb]
   | ok s =>
     rw [he] at hb
     obtain ⟨c,hb,hr⟩:=hb
     rw [show ((1:Nat):Int)=1 from rfl] at hb
     rw [hb]
     simp only []
     have hf:=Zvh hr s.wants c.funcs
     rw [<- hr.blk,hr.funcs] at hf
     rw [hr.funcs,hf]
     cases Zhw s s.funcs s.wants with
     | error n=>rfl
     | ok fs =>
       simp only []
       rw [hr.mem,hr.data]
       by_cases h0:Jl s.mem s.data.length fs=0
       · rw [if_pos h0,if_pos h0]
       · rw [if_neg h0,if_neg h0];rfl
def Ywj:Txt:=[102,117,110,99,32,109,97,105,110,32,48,32,48,32,49,10,114,101,116]
def Yvd:Txt:=[109,101,109,111,114,121,32,48,10,102,117,110,99,32,102,48,32,48,32,48,32,49,10,9,114,101,116,10]
theorem Yak (n:Nat) (h:n<10):Lib.itoa (n:Int)=[UInt8.ofNat (48+n)]:=by
 unfold Lib.itoa
 rw [if_neg (by omega),Int.toNat_natCast,Lib.decDigits,dif_pos h]
theorem Yxf:Lib.itoa 0=[48]:=Yak 0 (by decide)
theorem Yxe:Lib.itoa 1=[49]:=Yak 1 (by decide)
theorem Ynb:Zda Ywj = .ok oneP:=by
 rw [Zdo]
 have:Zaq TT (fun p=>Jl p.1 p.2.1.length p.2.2) Ywj = .ok oneP:=by kernel_rfl
 rw [this]
theorem Yhs:Zky oneP=Yvd:=by
 have k1:Zai 18=0:=rfl
 have k2:Zgh 18=[114,101,116]:=rfl
 simp [Zky,oneP,Zgn,Zdn,fnT,Jy,Zby,plT,Zmu,Zdd,Zmb,Zgg,Yxf,Yxe,k1,k2,List.range_succ,Yvd]
theorem Yna:Zqn oneP = .ok Yvd:=by
 have h0:Jl 0 0 [(0,0,1,[(18,0)])]=0:=by kernel_rfl
 have:=Ypg (mem:=0) (d:=[]) (fs:=[(0,0,1,[(18,0)])]) h0 (by have:=Yhs;unfold oneP at this;rw [this];decide)
 rw [<- Yhs]
 exact this
theorem Ysq (F k:Nat) (w:World) (hW:LibW w) (hF:Zdi w w.heap.size (some ⟨F,0,none⟩) oneP.2.2):Calls Tryz.prog 18 #[.agg #[.int .i64 0,.slice none 0 0,.slice (some ⟨F,0,none⟩) 1 k]] w fun e w'=>e = .returned (.tuple #[.string ⟨#[109,101,109,111,114,121,32,48,10,102,117,110,99,32,102,48,32,48,32,48,32,49,10,9,114,101,116,10]⟩,.int .i64 0])/\w.grownBy w' none:=by
 have h:=Ygn 0 [] oneP.2.2 none (some ⟨F,0,none⟩) 0 k w.heap.size w hW (Nat.le_refl _) (fun h0=>absurd h0 (by simp)) hF (by simp) (by
  intro f hf x hx
  simp [oneP] at hf
  subst hf
  simp at hx
  subst hx
  exact ⟨by decide,by decide⟩)
 have e:Zqn (0,[],oneP.2.2) = .ok Yvd:=Yna
 rw [e] at h
 exact h
theorem Ysp (pD pF:Option Addr) (cD cF n m F k:Nat) (w:World) (h:Zdi w n pF oneP.2.2) (h2:Zdi w m (some ⟨F,0,none⟩) oneP.2.2):Calls Tryz.prog 15 #[.agg #[.int .i64 0,.slice pD 0 cD,.slice pF 1 cF],.agg #[.int .i64 0,.slice none 0 0,.slice (some ⟨F,0,none⟩) 1 k]] w fun e w'=>e = .returned (.bool true)/\w.grownBy w' none:=by
 have:=Zze oneP oneP pD none pF (some ⟨F,0,none⟩) cD 0 cF k n m w (by decide) (by intro x hx;simp [oneP] at hx;subst hx;decide) (fun h0=>absurd h0 (by simp [oneP])) (fun h0=>absurd h0 (by simp [oneP])) h h2
 rw [Zik] at this
 exact this
def kn3:Nat->Nat
 | 0=>14
 | 1=>15
 | 2=>16
 | 3=>17
 | 4=>18
 | 5=>19
 | 6=>20
 | 7=>21
 | 8=>22
 | 9=>23
 | 10=>24
 | 11=>25
 | 12=>26
 | 13=>27
 | 14=>28
 | 15=>0
 | _=>5000
theorem Zdb:∀ i,i<16->∀ j,j<16->j≠i->kn3 j≠kn3 i:=by decide
theorem Zur (i:Nat) (h:i<16):i=0\/i=1\/i=2\/i=3\/i=4\/i=5\/i=6\/i=7\/i=8\/i=9\/i=10\/i=11\/i=12\/i=13\/i=14\/i=15:=by omega
theorem Zsq (j:Nat) (hj:j∈[1,2,3,4]):∀ i,i<16->kn3 i≠j:=by revert j;decide
def Zpn (q cD cF:Nat) (pD pF:Option Addr) (F2:Nat) (k2:Nat):Nat->Value
 | 0 => .nilIface
 | 1 => .bool true
 | 2 => .bool true
 | 3 => .int .i64 0
 | 4 => .bool true
 | 5 => .bool true
 | 6 => .bool true
 | 7 => .agg #[.int .i64 0,.slice pD 0 cD,.slice pF 1 cF]
 | 8 => .agg #[.int .i64 0,.slice none 0 0,.slice (some ⟨F2,0,none⟩) 1 k2]
 | 9 => .bool true
 | 10 => .bool true
 | 11 => .bool true
 | 12 => .string ⟨#[109,101,109,111,114,121,32,48,10,102,117,110,99,32,102,48,32,48,32,48,32,49,10,9,114,101,116,10]⟩
 | 13 => .bool true
 | 14 => .bool true
 | 15 => .bool true
 | _=>undef
def Yyi (q cD cF:Nat) (pD pF:Option Addr) (F2:Nat) (k2:Nat):Nat->World->Prop
 | 8=>fun w9=>∃ n,Zdi w9 n (some ⟨F2,0,none⟩) oneP.2.2
 | 9=>fun _=>True
 | _=>fun _=>True
theorem Yvf {q cD cF:Nat} {pD pF:Option Addr} {F2:Nat} {k2:Nat} {F22:Nat} {k22:Nat} {l:Array Bool} (hcl:∀ p∈([(1,0),(2,1),(3,2),(4,3),(4,2),(5,2),(5,4),(6,5),(7,6),(8,6),(9,7),(9,8),(9,6),(10,6),(10,9),(11,10),(12,11),(13,12),(13,11),(14,11),(14,13),(15,14)]:List (Nat × Nat)),l.getD (Prod.fst p) false=true->l.getD (Prod.snd p) false=true) (hun:l.getD 8 false=false):∀ i,i<16->l.getD i false=true->kn3 i<29->Zpn q cD cF pD pF F22 k22 i=Zpn q cD cF pD pF F2 k2 i:=by
 intro i hi hl _
 rcases Zur i hi with rfl|rfl|rfl|rfl|rfl|rfl|rfl|rfl|rfl|rfl|rfl|rfl|rfl|rfl|rfl|rfl <;> first|rfl|exact Zk (hl) hun
theorem Yve {q cD cF:Nat} {pD pF:Option Addr} {F2:Nat} {k2:Nat}  {l:Array Bool} (hcl:∀ p∈([(1,0),(2,1),(3,2),(4,3),(4,2),(5,2),(5,4),(6,5),(7,6),(8,6),(9,7),(9,8),(9,6),(10,6),(10,9),(11,10),(12,11),(13,12),(13,11),(14,11),(14,13),(15,14)]:List (Nat × Nat)),l.getD (Prod.fst p) false=true->l.getD (Prod.snd p) false=true) (hun:l.getD 9 false=false):∀ i,i<16->l.getD i false=true->kn3 i<29->Zpn q cD cF pD pF F2 k2 i=Zpn q cD cF pD pF F2 k2 i:=by
 intro i hi hl _
 rcases Zur i hi with rfl|rfl|rfl|rfl|rfl|rfl|rfl|rfl|rfl|rfl|rfl|rfl|rfl|rfl|rfl|rfl <;> rfl
theorem Yhr (w:World) (hW:LibW w):Calls Tryz.prog 11 #[] w fun e w'=>e = .returned (.bool true)/\w.grownBy w' none:=by
 have PA0:=Zug Ywj w hW
 rw [Ynb] at PA0
 have PA:=Hq PA0
 have LW:=Hq hW
 clear PA0 hW
 have htx:bs Ywj=⟨#[102,117,110,99,32,109,97,105,110,32,48,32,48,32,49,10,114,101,116]⟩:=rfl
 rw [htx] at PA
 go_enter Tryz.func11,Tryz.ntmps11
 go_upto_region 2 with (go_at_call 12;refine PA.out.mono ?_;rintro e w1 ⟨⟨D,F,cv,rfl,hown⟩,hg1⟩;obtain ⟨pD,cD,hvD⟩:=Zi hown.dt;obtain ⟨pF,cF,hvF⟩:=Zi hown.fr;rw [Yh] at hvD;simp only [oneP,List.length_nil,List.length_cons] at hvD hvF;subst hvD;subst hvF;have OW:=Hq hown;have G1:=Hq hg1;clear hown hg1)
 have BX:=Hq (heap_alloc_new w1 (.cells #[.int .i64 0,.slice pD 0 cD,.slice pF 1 cF] 26))
 have FP:=Hq (Jx (Zdp (fs:=oneP.2.2) OW.out) (Ga w1 (.cells #[.int .i64 0,.slice pD 0 cD,.slice pF 1 cF] 26) none) (by simp))
 have G2:=Hq (Za G1.out (Ga w1 (.cells #[.int .i64 0,.slice pD 0 cD,.slice pF 1 cF] 26) none))
 generalize w1.alloc (.cells #[.int .i64 0,.slice pD 0 cD,.slice pF 1 cF] 26)=w2 at BX FP G2 ⊢
 clear OW PA
 obtain ⟨q,hq⟩:∃ x,w1.heap.size=x:=⟨_,rfl⟩
 rw [hq] at BX FP ⊢
 clear hq G1
 have bt:∀ (W:World) (p:Option Addr),Zhl W p []:=fun W p h0=>absurd h0 (by simp)
 have BT:=Hq bt
 have htx2:bs Yvd=⟨#[109,101,109,111,114,121,32,48,10,102,117,110,99,32,102,48,32,48,32,48,32,49,10,9,114,101,116,10]⟩:=rfl
 have HT2:=Hq htx2
 clear bt htx2 htx
 go_upto_region 3 with (first
  | (go_at_call 22;refine (Zzy _).mono ?_;rintro e w3 ⟨⟨F1,k1,rfl,hf3⟩,hg3⟩;have F3:=Hq hf3;have G3:=Hq hg3;clear hf3 hg3)
  | (go_at_call 18;refine (Ysq F1 k1 w3 (Ym LW.out (Za G2.out G3.out)) F3.out).mono ?_;rintro e w4 ⟨rfl,hg4⟩;have G4:=Hq hg4;clear hg4))
 have G24:=Hq (Za G3.out G4.out)
 have FP4:=Hq (Jx FP.out G24.out (by simp))
 have BX4:=Hq (Zf BX.out G24.out (by simp))
 (try rename_i K3 hK3)
 refine Yd (n:=16) (J:=fun a0 l a1 w1=>∃ (F2:Nat) (k2:Nat),RJ a0 29 16 kn3 (Zpn q cD cF pD pF F2 k2) l a1/\Zas 16 16 0 [(1,0),(2,1),(3,2),(4,3),(4,2),(5,2),(5,4),(6,5),(7,6),(8,6),(9,7),(9,8),(9,6),(10,6),(10,9),(11,10),(12,11),(13,12),(13,11),(14,11),(14,13),(15,14)] [] (fun w9=>World.grownBy w4.drew w9 none) (fun _=>True) (Yyi q cD cF pD pF F2 k2) (fun _=>True) l w1) (by kernel_rfl) rfl (Yt (by kernel_rfl)) (fun l a1 w1 h=>by obtain ⟨_,_,h,_⟩:=h;exact h.sz) ⟨0,0,Yc rfl,Zu (Zb _ _) (True.intro)⟩ ?step ?fin
 case step =>
  intro l a1 w' i hJJ hi hin
  obtain ⟨F2,k2,hJ,hW⟩:=hJJ
  have hun:l.getD i false=false:=getD_both (mem_ready.1 hi).1
  have hns:=Xe hW hin hun
  have hg:=hW.g hns
  have BQ':=Zf BX4.out (Za (Ze (Zb w4 none)) hg) (by simp)
  have lq:=(Array.getElem?_eq_some_iff.1 BQ').1
  rcases Zur i hin with rfl|rfl|rfl|rfl|rfl|rfl|rfl|rfl|rfl|rfl|rfl|rfl|rfl|rfl|rfl|rfl
  · have e2:a1.tmps.getD 2 undef = .nilIface:=hJ.un 2 (fun i hi _=>Zsq 2 (by decide) i hi)
    exact Zc (Zd hJ hW hi hun (hne:=Zdb _ (by decide)) (hrun:=by simp [execOp,Act.eval,e2,lq,go_sem,Zpn])) (fun a9 w9 h9=>⟨F2,k2,h9⟩)
  · have e14:a1.tmps.getD 14 undef = .nilIface:=rjt hJ hi 0
    exact Zc (Zd hJ hW hi hun (hne:=Zdb _ (by decide)) (hrun:=by simp [execOp,Act.eval,e14,lq,go_sem,Zpn])) (fun a9 w9 h9=>⟨F2,k2,h9⟩)
  · have e15:a1.tmps.getD 15 undef = .bool true:=rjt hJ hi 1
    exact Zc (Zd hJ hW hi hun (hne:=Zdb _ (by decide)) (hrun:=by simp [execOp,Act.eval,e15,lq,go_sem,Zpn])) (fun a9 w9 h9=>⟨F2,k2,h9⟩)
  · have e4:a1.tmps.getD 4 undef = .int .i64 0:=hJ.un 4 (fun i hi _=>Zsq 4 (by decide) i hi)
    have eg:a1.tmps.getD 16 undef = .bool true:=rjt hJ hi 2
    exact Zc (Zqe hJ hW hi hun rfl (Zii (k:=2) (d:=16) (b:=true) rfl rfl (by rw [hJ.ts];decide) eg) rfl (by decide) (by decide) (Zdb _ (by decide)) (w':=w') (by simp [execOp,resolve,invoke,builtin,Act.eval,e4,lq,go_sem,Zpn]) (⟨by decide,by kernel_rfl,True.intro⟩)) (fun a9 w9 h9=>⟨F2,k2,h9⟩)
  · have e17:a1.tmps.getD 17 undef = .int .i64 0:=rjt hJ hi 3
    have eg:a1.tmps.getD 16 undef = .bool true:=rjt hJ hi 2
    exact Zc (Zqe hJ hW hi hun rfl (Zii (k:=2) (d:=16) (b:=true) rfl rfl (by rw [hJ.ts];decide) eg) rfl (by decide) (by decide) (Zdb _ (by decide)) (w':=w') (by simp [execOp,resolve,invoke,builtin,Act.eval,e17,lq,go_sem,Zpn]) (⟨by decide,by kernel_rfl,True.intro⟩)) (fun a9 w9 h9=>⟨F2,k2,h9⟩)
  · have e16:a1.tmps.getD 16 undef = .bool true:=rjt hJ hi 2
    have e18:a1.tmps.getD 18 undef = .bool true:=rjt hJ hi 4
    exact Zc (Zd hJ hW hi hun (hne:=Zdb _ (by decide)) (hrun:=by simp [execOp,Act.eval,e16,e18,lq,go_sem,Zpn])) (fun a9 w9 h9=>⟨F2,k2,h9⟩)
  · have e19:a1.tmps.getD 19 undef = .bool true:=rjt hJ hi 5
    exact Zc (Zd hJ hW hi hun (hne:=Zdb _ (by decide)) (hrun:=by simp [execOp,Act.eval,e19,lq,go_sem,Zpn])) (fun a9 w9 h9=>⟨F2,k2,h9⟩)
  · have e1:a1.tmps.getD 1 undef = .pointer (some ⟨q,0,none⟩):=hJ.un 1 (fun i hi _=>Zsq 1 (by decide) i hi)
    have eg:a1.tmps.getD 20 undef = .bool true:=rjt hJ hi 6
    have h0:=Cq _ _ 0 _ _ _ BQ'
    have h1:=Cq _ _ 1 _ _ _ BQ'
    have h2:=Cq _ _ 2 _ _ _ BQ'
    exact Zc (Zqe hJ hW hi hun rfl (Zii (k:=6) (d:=20) (b:=true) rfl rfl (by rw [hJ.ts];decide) eg) rfl (by decide) (by decide) (Zdb _ (by decide)) (w':=w') (by simp [execOp,resolve,invoke,builtin,Act.eval,e1,h0,h1,h2,lq,go_sem,Zpn]) (⟨by decide,by kernel_rfl,True.intro⟩)) (fun a9 w9 h9=>⟨F2,k2,h9⟩)
  · have eg:a1.tmps.getD 20 undef = .bool true:=rjt hJ hi 6
    refine Ya rfl (Zii (k:=6) (d:=20) (b:=true) rfl rfl (by rw [hJ.ts];decide) eg) (by simp [execOp,resolve,invoke,Act.eval,go_sem]) (Calls.mono (Zzy w') (fun e w2 he => ?_))
    obtain ⟨⟨F22,k22,rfl,hf2⟩,hg2⟩:=he
    refine ⟨_,rfl,F22,k22,?_,Zo hW (by decide) hun (by decide) (Zg _ hi (by kernel_rfl)) (Za hg hg2) (fun hne0 hun0 hB0=>hB0) (fun j hj hne hl hcu hF => ?_) (⟨_,hf2⟩)⟩
    · exact Yg (val:=Zpn q cD cF pD pF F22 k22) (Yj hJ (Yvf hW.cl hun)) (by decide) (by decide) (Zdb _ (by decide))
    · rcases Zur j hj with rfl|rfl|rfl|rfl|rfl|rfl|rfl|rfl|rfl|rfl|rfl|rfl|rfl|rfl|rfl|rfl <;> first|exact True.intro|exact absurd rfl hne|exact Zk (hW.cl (9,8) (by decide) (hl)) hun
  · have e21:a1.tmps.getD 21 undef = .agg #[.int .i64 0,.slice pD 0 cD,.slice pF 1 cF]:=rjt hJ hi 7
    have e22:a1.tmps.getD 22 undef = .agg #[.int .i64 0,.slice none 0 0,.slice (some ⟨F2,0,none⟩) 1 k2]:=rjt hJ hi 8
    obtain ⟨nq,hfq⟩:=hW.f hns 8 (by decide) (Zq hi 8 (by kernel_rfl)) (Zat (by decide))
    have eg:a1.tmps.getD 20 undef = .bool true:=rjt hJ hi 6
    refine Ya rfl (Zii (k:=6) (d:=20) (b:=true) rfl rfl (by rw [hJ.ts];decide) eg) (by simp [execOp,resolve,invoke,Act.eval,e21,e22,go_sem]) (Calls.mono (Ysp pD pF cD cF _ nq F2 k2 w' (Jx FP4.out (Za (Ze (Zb w4 none)) hg) (by simp)) hfq) (fun e w2 he => ?_))
    obtain ⟨rfl,hg2⟩:=he
    refine ⟨_,rfl,F2,k2,?_,Zo hW (by decide) hun (by decide) (Zg _ hi (by kernel_rfl)) (Za hg hg2) (fun hne0 hun0 hB0=>hB0) (fun j hj hne hl hcu hF => ?_) (True.intro)⟩
    · exact Yg (val:=Zpn q cD cF pD pF F2 k2) (Yj hJ (Yve hW.cl hun)) (by decide) (by decide) (Zdb _ (by decide))
    · rcases Zur j hj with rfl|rfl|rfl|rfl|rfl|rfl|rfl|rfl|rfl|rfl|rfl|rfl|rfl|rfl|rfl|rfl <;> first|exact True.intro|exact hF.imp fun n h=>Jx h hg2 (by simp)|exact absurd rfl hne
  · have e20:a1.tmps.getD 20 undef = .bool true:=rjt hJ hi 6
    have e23:a1.tmps.getD 23 undef = .bool true:=rjt hJ hi 9
    exact Zc (Zd hJ hW hi hun (hne:=Zdb _ (by decide)) (hrun:=by simp [execOp,Act.eval,e20,e23,lq,go_sem,Zpn])) (fun a9 w9 h9=>⟨F2,k2,h9⟩)
  · have e24:a1.tmps.getD 24 undef = .bool true:=rjt hJ hi 10
    exact Zc (Zd hJ hW hi hun (hne:=Zdb _ (by decide)) (hrun:=by simp [execOp,Act.eval,e24,lq,go_sem,Zpn])) (fun a9 w9 h9=>⟨F2,k2,h9⟩)
  · have e3:a1.tmps.getD 3 undef = .string ⟨#[109,101,109,111,114,121,32,48,10,102,117,110,99,32,102,48,32,48,32,48,32,49,10,9,114,101,116,10]⟩:=hJ.un 3 (fun i hi _=>Zsq 3 (by decide) i hi)
    have eg:a1.tmps.getD 25 undef = .bool true:=rjt hJ hi 11
    exact Zc (Zqe hJ hW hi hun rfl (Zii (k:=11) (d:=25) (b:=true) rfl rfl (by rw [hJ.ts];decide) eg) rfl (by decide) (by decide) (Zdb _ (by decide)) (w':=w') (by simp [execOp,resolve,invoke,builtin,Act.eval,e3,lq,go_sem,Zpn]) (⟨by decide,by kernel_rfl,True.intro⟩)) (fun a9 w9 h9=>⟨F2,k2,h9⟩)
  · have e26:a1.tmps.getD 26 undef = .string ⟨#[109,101,109,111,114,121,32,48,10,102,117,110,99,32,102,48,32,48,32,48,32,49,10,9,114,101,116,10]⟩:=rjt hJ hi 12
    have eg:a1.tmps.getD 25 undef = .bool true:=rjt hJ hi 11
    exact Zc (Zqe hJ hW hi hun rfl (Zii (k:=11) (d:=25) (b:=true) rfl rfl (by rw [hJ.ts];decide) eg) rfl (by decide) (by decide) (Zdb _ (by decide)) (w':=w') (by simp [execOp,resolve,invoke,builtin,Act.eval,e26,lq,go_sem,Zpn]) (⟨by decide,by kernel_rfl,True.intro⟩)) (fun a9 w9 h9=>⟨F2,k2,h9⟩)
  · have e25:a1.tmps.getD 25 undef = .bool true:=rjt hJ hi 11
    have e27:a1.tmps.getD 27 undef = .bool true:=rjt hJ hi 13
    exact Zc (Zd hJ hW hi hun (hne:=Zdb _ (by decide)) (hrun:=by simp [execOp,Act.eval,e25,e27,lq,go_sem,Zpn])) (fun a9 w9 h9=>⟨F2,k2,h9⟩)
  · have e28:a1.tmps.getD 28 undef = .bool true:=rjt hJ hi 14
    exact Zc (Zd hJ hW hi hun (hne:=Zdb _ (by decide)) (hrun:=by simp [execOp,Act.eval,e28,lq,go_sem,Zpn])) (fun a9 w9 h9=>⟨F2,k2,h9⟩)
 case fin =>
  intro l9 a1 w9 hJJ hl9
  obtain ⟨F2,k2,hJ,hW9⟩:=hJJ
  have hg9:=hW9.g (Ju hW9)
  have hput:=Ys hJ rfl hl9 (fun i j h1 h2 h3=>Zdb j h2 i h1 h3)
  subst hput
  clear hJ hW9 hl9
  (try refine hK3 _ _ ?_)
  simp only [Ja,kn3,Zpn,Act.put,List.setIfInBounds_toArray,List.set_cons_zero,List.set_cons_succ]
  have GG:=Hq (Za G2.out (Za G24.out (Za (Ze (Zb w4 none)) hg9)))
  clear hg9
  go_wp2
  go_ret
  exact ⟨rfl,GG.out⟩
open Go.Proofs.YteciblfmgdlipaaGreatDoor.CK
section
variable {H:Type} {enc:TypeId × Value->H} {P:Program} {w:World}
end
section
variable {H:Type} {enc:TypeId × Value->H} {w:World}
end
def Ywa (t:Txt):Prop:=(∃ c r,t=c::r/\Ycr c=true)/\∀ c∈t,tlB c=true
theorem Ygy {t:Txt} (hn:t.head? ≠ some 45) (h:¬ ([48,120].isPrefixOf t=true/\2<t.length)):Zex t=(Lib.decNat t).map fun (v:Nat)=>if v<9223372036854775808 then ((v:Int),false) else (0,true):=by
 by_cases hp:[48,120].isPrefixOf t=true
 · obtain ⟨r,rfl⟩:∃ r,t=48::120::r:=by
    match t,hp with
    | a::b::r,hp =>
      simp at hp
      obtain ⟨rfl,rfl⟩:=hp
      exact ⟨r,rfl⟩
    | [_],hp=>simp at hp
    | [],hp=>simp at hp
   have hr:r=[]:=by
    cases r with
    | nil=>rfl
    | cons a q=>exact absurd ⟨hp,by simp⟩ h
   subst hr
   rfl
 · unfold Zex
   rw [if_neg hp]
   have:(t.head? == some 45)=false:=by simpa using hn
   simp only [this,Bool.false_eq_true,if_false]
   cases Lib.decNat t with
   | none=>rfl
   | some v =>
     show some (if (v:Int)<9223372036854775808 then ((v:Int),false) else (0,true))=some (if v<9223372036854775808 then ((v:Int),false) else (0,true))
     by_cases hv:v<9223372036854775808
     · rw [if_pos (by omega),if_pos hv]
     · rw [if_neg (by omega),if_neg hv]
theorem Ygz (m:Txt):Zex (45::m)=(Lib.decNat m).map fun (v:Nat)=>if v<=9223372036854775808 then (-(v:Int),false) else (0,true):=by
 unfold Zex
 rw [if_neg (by simp)]
 have h45:(((45:UInt8)::m).head? == some 45)=true:=by simp
 simp only [h45,if_true,List.drop_succ_cons,List.drop_zero]
 cases Lib.decNat m with
 | none=>rfl
 | some v =>
   show some (if (v:Int)<=9223372036854775808 then (-(v:Int),false) else (0,true))=some (if v<=9223372036854775808 then (-(v:Int),false) else (0,true))
   by_cases hv:v<=9223372036854775808
   · rw [if_pos (by omega),if_pos hv]
   · rw [if_neg (by omega),if_neg hv]
def Ypy (t:Txt):Bool:=(match t with|[]=>false|c::_=>Ycr c) && t.all tlB
theorem Ykb {t:Txt} (h:Ypy t=true):Ywa t:=by
 unfold Ypy at h
 simp only [Bool.and_eq_true,List.all_eq_true] at h
 obtain ⟨h1,h2⟩:=h
 cases t with
 | nil=>cases h1
 | cons c r=>exact ⟨⟨c,r,rfl,h1⟩,h2⟩
def okC (c:UInt8):Bool:=c != 9 && c != 10 && c != 32 && c != 58
def Ygo:Txt->Bool
 | []=>true
 | [c]=>okC c
 | c::d::r=>okC c && !((c == 76 || c == 102) && Zpo d) && Ygo (d::r)
theorem Zxf (T:List ShR) (x:Txt):Xb T x=T.findIdx? fun r=>r.1.data.toList == x:=by
 unfold Xb
 congr 1
 funext r
 rw [Lib.toList_data]
theorem Yrx:∀ n:Fin 46,((shapeT.findIdx? fun r=>r.1.data.toList == Zgh (n.val:Int)) == some n.val && Ypy (Zgh (n.val:Int)) && Ygo (Zgh (n.val:Int)) && (Zgh (n.val:Int) != Jn) && (Zgh (n.val:Int) != Zey) && (Zgh (n.val:Int) != Zgf))=true:=by decide +kernel
theorem Ykj {t:Txt} {n:Nat} (h:Xb shapeT t=some n):TT.named t=some (n:Int):=by
 have e:TT.named t=(Xb shapeT t).map fun n=>(n:Int):=rfl
 rw [e,h];rfl
structure Ywc (op:Int):Prop where
 w:Ywa (Zgh op)
 p:Ygo (Zgh op)=true
 named:TT.named (Zgh op)=some op
 m:Zgh op≠Jn
 d:Zgh op≠Zey
 f:Zgh op≠Zgf
 kind:TT.kind op=Zai op
theorem Yse {op:Int} {s:ByteArray × Int × Int × Int} (h:Yx op=some s):Ywc op:=by
 have hr:0<=op/\op<46:=by
  by_cases hr:0<=op/\op<46
  · exact hr
  · rw [Zbr hr] at h;cases h
 obtain ⟨n,x,rfl,hn,h1,h2⟩:=Zcx hr
 have H:=Yrx ⟨n,hn⟩
 simp only [Bool.and_eq_true,bne_iff_ne,ne_eq,beq_iff_eq] at H
 obtain ⟨⟨⟨⟨⟨a1,a2⟩,a3⟩,a4⟩,a5⟩,a6⟩:=H
 refine ⟨Ykb a2,a3,?_,a4,a5,a6,?_⟩
 · exact Ykj (by rw [Zxf,a1])
 · show Zir _=_
   unfold Zir Zai
   rw [h2,Int.toNat_natCast,h1];rfl
theorem Zop {α:Type} (l:List α) (a d:α):(l++[a]).getLastD d=a:=by simp
theorem Ykv {α:Type} (l:List α) (a b:α):(l++[a]).set ((l++[a]).length - 1) b=l++[b]:=by
 rw [List.length_append,List.length_singleton,Nat.add_sub_cancel];simp [List.set_append]
theorem Zrh:∀ {l:List (Int × Int)},Zkb l=0->∀ x∈l,∃ s,Yx x.1=some s/\Zlc s.2.1.toNat x.2=true
 | [],_,x,h=>by cases h
 | y::r,h,x,hm=>by
   unfold Zkb at h
   cases hs:Yx y.1 with
   | none=>rw [hs] at h;cases h
   | some s =>
     rw [hs] at h
     simp only [] at h
     by_cases hk:Zlc s.2.1.toNat y.2=true
     · rw [if_pos hk] at h
       rcases List.mem_cons.1 hm with rfl|hm
       · exact ⟨s,hs,hk⟩
       · exact Zrh h x hm
     · rw [if_neg hk] at h;cases h
theorem Zve:∀ {fs:List FnR},Zwe fs=0->∀ f∈fs,fnE f=0
 | [],_,f,h=>absurd h (List.not_mem_nil)
 | g::r,h,f,hf=>by
   rw [Zwe] at h
   by_cases hg:fnE g=0
   · rw [if_pos hg] at h
     rcases List.mem_cons.1 hf with rfl|hf
     · exact hg
     · exact Zve h f hf
   · rw [if_neg hg] at h;exact absurd h hg
theorem Yas {f:FnR} (h:fnE f=0):(0<=f.1/\f.1<=16/\f.1<=f.2.1/\f.2.1<=64/\0<=f.2.2.1/\f.2.2.1<=1/\1<=f.2.2.2.length/\f.2.2.2.length<=4096)/\Zkb f.2.2.2=0:=by
 unfold fnE at h
 split at h
 · cases h
 · rename_i hb
   exact ⟨by omega,h⟩
theorem Zqm {P:PrP} (h:Jl P.1 P.2.1.length P.2.2=0):(0<=P.1/\P.1<=65536/\(P.2.1.length:Int)<=P.1/\1<=P.2.2.length/\P.2.2.length<=64)/\∀ f∈P.2.2,fnE f=0:=by
 unfold Jl at h
 split at h
 · cases h
 · rename_i hb
   exact ⟨by omega,Zve h⟩
structure OkP (P:PrP):Prop where
 e:Jl P.1 P.2.1.length P.2.2=0
 r:∀ f∈P.2.2,∀ x∈f.2.2.2,Zki x.2
theorem Zyc {l:Txt} {v:Nat} (h:Yz 0 l=some v):v<16 ^ l.length:=by
 cases hx:Zmc l with
 | false=>rw [Zbw l 0 hx] at h;cases h
 | true =>
   obtain ⟨v',h1,h2⟩:=Zdc l 0 hx
   rw [h] at h1;injection h1 with h1;subst h1
   simpa using h2
theorem Yha {t:Txt} {n:Int} {b:Bool} (h:Zex t=some (n,b)):Zki n:=by
 unfold Zki
 by_cases hx:[48,120].isPrefixOf t=true/\2<t.length
 · unfold Zex at h
   rw [if_pos hx.1] at h
   split at h
   · rename_i hl
     obtain ⟨v,hv,h⟩:=Option.map_eq_some_iff.1 h
     have h1:=Zyc hv
     have h2:(16:Nat) ^ (t.drop 2).length<=16 ^ 16:=Nat.pow_le_pow_right (by decide) hl.2
     injection h with h _
     unfold Zrq at h
     split at h <;> omega
   · cases h
 · by_cases hn:t.head? = some 45
   · match t,hn with
     | a::m,hn =>
       simp at hn
       subst hn
       rw [Ygz] at h
       obtain ⟨v,hv,h⟩:=Option.map_eq_some_iff.1 h
       split at h <;> (injection h with h _;omega)
   · rw [Ygy hn hx] at h
     obtain ⟨v,hv,h⟩:=Option.map_eq_some_iff.1 h
     split at h <;> (injection h with h _;omega)
def Zrp (ps:List Pc):Prop:=∀ n b,Pc.num n b∈ps->Zki n
theorem Ymi {l:Txt} {n:Int} {b:Bool} {k:Nat} (h:Zmm l=some (.num n b,k)):Zki n:=by
 cases l with
 | nil=>cases h
 | cons c r =>
   rw [Zmm] at h
   split at h
   · injection h with h;injection h with h _;cases h
   · split at h
     · obtain ⟨x,hx,h⟩:=Option.map_eq_some_iff.1 h
       injection h with h _;cases h
     · split at h
       · obtain ⟨x,hx,h⟩:=Option.map_eq_some_iff.1 h
         injection h with h _
         injection h with h1 h2
         subst h1
         exact Yha (b:=x.2) hx
       · cases h
theorem Zgx:∀ (f:Nat) (ap:Bool) (l:Txt) (ps:List Pc),Zpr f ap l=some ps->Zrp ps
 | 0,_,_,_,h=>by cases h
 | f+1,ap,[],ps,h=>by
   injection h with h;subst h
   exact fun n b hm=>absurd hm (List.not_mem_nil)
 | f+1,ap,c::r,ps,h=>by
   rw [Zpr] at h
   split at h
   · injection h with h;subst h
     exact fun n b hm=>absurd hm (List.not_mem_nil)
   split at h
   · exact Zgx f true r ps h
   split at h
   · obtain ⟨qs,hq,h⟩:=Option.map_eq_some_iff.1 h
     subst h
     intro n b hm
     rcases List.mem_cons.1 hm with hm|hm
     · cases hm
     · exact Zgx f true r qs hq n b hm
   split at h
   · cases h
   cases ho:Zmm (c::r) with
   | none=>rw [ho] at h;cases h
   | some pk =>
     obtain ⟨p,k⟩:=pk
     rw [ho] at h
     simp only [] at h
     obtain ⟨qs,hq,h⟩:=Option.map_eq_some_iff.1 h
     subst h
     intro n b hm
     rcases List.mem_cons.1 hm with hm|hm
     · subst hm
       exact Ymi ho
     · exact Zgx f false _ qs hq n b hm
def Ywo:Sd->Prop
 | .code _ (some (n,a,w))=>(TT.kind n=1->Zki a)/\(w≠none->TT.kind n≠1)
 | _=>True
theorem Zxz {lb:List Txt} {ps:List Pc} {x:Sd} (hp:Zrp ps) (h:Zfu TT lb ps=some x):Ywo x:=by
 cases ps with
 | nil =>
   injection h with h;subst h
   trivial
 | cons p r =>
   cases p with
   | num n b=>cases h
   | str t=>cases h
   | colon=>cases h
   | word t =>
     unfold Zfu at h
     simp only [] at h
     cases hn:TT.named t with
     | none=>rw [hn] at h;cases h
     | some n =>
       rw [hn] at h
       simp only [] at h
       split at h
       · rename_i h0
         split at h
         · injection h with h;subst h
           exact ⟨fun h1=>absurd (h0.symm.trans h1) (by decide),fun h1=>absurd rfl h1⟩
         · cases h
       · split at h
         · rename_i v b
           injection h with h;subst h
           exact ⟨fun _=>hp v b (by simp),fun h1=>absurd rfl h1⟩
         · split at h
           · rename_i h5
             obtain ⟨c,hc,h⟩:=Option.map_eq_some_iff.1 h
             subst h
             exact ⟨fun h1=>absurd (h5.symm.trans h1) (by decide),fun h1=>absurd rfl h1⟩
           · split at h
             · rename_i h34
               injection h with h;subst h
               exact ⟨fun h1=>by omega,fun _=>by omega⟩
             · cases h
         · cases h
theorem Ymw {ps:List Pc} {x:Sd} (hp:Zrp ps) (h:Zdl TT ps=some x):Ywo x:=by
 unfold Zdl at h
 split at h
 · split at h
   · split at h
     · injection h with h;subst h;trivial
     · cases h
   · split at h
     · split at h
       · injection h with h;subst h;trivial
       · cases h
     · split at h
       · split at h
         · injection h with h;subst h;trivial
         · cases h
       · exact Zxz hp h
 · exact Zxz hp h
theorem Zod:∀ (ps:List Pc) (p:Pc),p∈(Yb ps).2->p∈ps
 | [],p,h=>h
 | [a],p,h=>by
   unfold Yb at h
   split at h
   · rename_i e;cases e
   · exact h
 | a::b::r,p,h=>by
   unfold Yb at h
   split at h
   · rename_i t r' e
     injection e with e1 e2
     injection e2 with e2 e3
     subst e3
     exact List.mem_cons_of_mem _ (List.mem_cons_of_mem _ (Zod _ p h))
   · exact h
theorem Yla {ps:List Pc} {x:Sd} (hp:Zrp ps) (h:Zdj TT ps=some x):Ywo x:=by
 unfold Zdj at h
 split at h
 · injection h with h;subst h;trivial
 · have hs:Zrp (Yb ps).2:=fun n b hm=>hp n b (Zod ps _ hm)
   cases hlb:Yb ps with
   | mk lb r =>
     rw [hlb] at h hs
     cases lb with
     | nil=>exact Ymw hs h
     | cons t lb=>exact Zxz hs h
def KOk (fs:List FnR):Prop:=∀ f∈fs,∀ x∈f.2.2.2,TT.kind x.1=1->Zki x.2
def WOk (fs:List FnR) (w:Zdz):Prop:=∃ f x,fs[w.fn]? = some f/\f.2.2.2[w.pl]? = some x/\TT.kind x.1≠1
def SOk (s:St):Prop:=KOk s.funcs/\∀ w∈s.wants,WOk s.funcs w
theorem Yqq {s s':St} {x:Sd} {big:Bool} {n:Nat} (hs:SOk s) (hx:Ywo x) (h:Jv TT s x big n = .ok s'):SOk s':=by
 unfold Jv at h
 split at h
 · cases h
 rename_i hfit
 split at h
 · cases h
 cases x with
 | nothing=>injection h with h;subst h;exact hs
 | mem m=>injection h with h;subst h;exact hs
 | data t=>injection h with h;subst h;exact hs
 | fn nm a l r =>
   simp only [] at h
   split at h
   · cases h
   · injection h with h;subst h
     refine ⟨fun f hf x hx => ?_,fun w hw => ?_⟩
     · rcases List.mem_append.1 hf with hf|hf
       · exact hs.1 f hf x hx
       · simp at hf;subst hf
         exact absurd hx (List.not_mem_nil)
     · obtain ⟨f,y,h1,h2,h3⟩:=hs.2 w hw
       exact ⟨f,y,by show (s.funcs++_)[w.fn]? = _;rw [List.getElem?_append_left (List.getElem?_eq_some_iff.1 h1).1];exact h1,h2,h3⟩
 | code lb ins =>
   simp only [] at h
   split at h
   · cases h
   · rename_i m hm
     cases ins with
     | none=>injection h with h;subst h;exact hs
     | some q =>
       obtain ⟨op,a,w⟩:=q
       simp only [] at h
       injection h with h
       have hne:s.funcs≠[]:=by
        intro e
        apply hfit
        simp [Zfh,e]
       obtain ⟨A,f,hA⟩:∃ A f,s.funcs=A++[f]:=⟨_,_,(List.dropLast_concat_getLast hne).symm⟩
       have hl:Xr s=f:=by unfold Xr;rw [hA,Zop]
       have hp:Jr s (op,a)=A++[(f.1,f.2.1,f.2.2.1,f.2.2.2++[(op,a)])]:=by
        unfold Jr
        rw [hl,hA,Ykv]
       have hW:∀ v,WOk s.funcs v->WOk (Jr s (op,a)) v:=by
        rintro v ⟨g,y,h1,h2,h3⟩
        rw [hp]
        rw [hA] at h1
        by_cases hv:v.fn<A.length
        · rw [List.getElem?_append_left hv] at h1
          exact ⟨g,y,by rw [List.getElem?_append_left hv];exact h1,h2,h3⟩
        · have hlt:=(List.getElem?_eq_some_iff.1 h1).1
          rw [List.length_append,List.length_singleton] at hlt
          have hve:v.fn=A.length:=by omega
          have hg:g=f:=by
           rw [hve] at h1
           simpa using h1.symm
          subst hg
          refine ⟨_,y,by rw [hve];simp;rfl,?_,h3⟩
          show (g.2.2.2++[(op,a)])[v.pl]? = _
          rw [List.getElem?_append_left (List.getElem?_eq_some_iff.1 h2).1]
          exact h2
       subst h
       refine ⟨?_,?_⟩
       · show KOk (Jr s (op,a))
         rw [hp]
         intro g hg y hy hk
         rcases List.mem_append.1 hg with hg|hg
         · exact hs.1 g (by rw [hA];exact List.mem_append_left _ hg) y hy hk
         · simp at hg;subst hg
           rcases List.mem_append.1 hy with hy|hy
           · exact hs.1 f (by rw [hA];simp) y hy hk
           · simp at hy;subst hy
             exact hx.1 hk
       · intro v hv
         show WOk (Jr s (op,a)) v
         cases w with
         | none=>exact hW v (hs.2 v hv)
         | some t =>
           replace hv:v∈s.wants++[⟨s.funcs.length - 1,(Xr s).2.2.2.length,n,t,TT.kind op == 3⟩]:=hv
           rcases List.mem_append.1 hv with hv|hv
           · exact hW v (hs.2 v hv)
           · simp only [List.mem_singleton] at hv
             subst hv
             rw [hp,hl,hA]
             refine ⟨_,(op,a),by simp;rfl,by simp,hx.2 (by simp)⟩
theorem Zup:∀ (ls:List Txt) (s s':St) (n:Nat),SOk s->Zcm TT s n ls = .ok s'->SOk s'
 | [],s,s',n,hs,h=>by injection h with h;subst h;exact hs
 | l::ls,s,s',n,hs,h=>by
   rw [Zcm] at h
   cases hl:Zjv TT s l n with
   | error e=>rw [hl] at h;cases h
   | ok s1 =>
     rw [hl] at h
     refine Zup ls s1 s' (n+1) ?_ h
     unfold Zjv at hl
     cases hp:Zpm l with
     | none=>rw [hp] at hl;cases hl
     | some ps =>
       rw [hp] at hl
       simp only [] at hl
       cases hx:Zdj TT ps with
       | none=>rw [hx] at hl;cases hl
       | some x =>
         rw [hx] at hl
         exact Yqq hs (Yla (Zgx _ _ _ _ hp) hx) hl
theorem Yqy {fs:List FnR} {w:Zdz} {a:Int} (hk:KOk fs) (hw:WOk fs w):KOk (Zpl fs w.fn w.pl a)/\∀ v,WOk fs v->WOk (Zpl fs w.fn w.pl a) v:=by
 obtain ⟨f,x,h1,h2,h3⟩:=hw
 have hs:Zpl fs w.fn w.pl a=fs.set w.fn (f.1,f.2.1,f.2.2.1,f.2.2.2.set w.pl (x.1,a)):=by
  unfold Zpl
  rw [h1]
  simp only [h2]
 have hl:=(List.getElem?_eq_some_iff.1 h1).1
 have hpl:=(List.getElem?_eq_some_iff.1 h2).1
 rw [hs]
 refine ⟨fun g hg y hy hky => ?_,?_⟩
 · rcases List.mem_or_eq_of_mem_set hg with hg|hg
   · exact hk g hg y hy hky
   · subst hg
     rcases List.mem_or_eq_of_mem_set hy with hy|hy
     · exact hk f (List.mem_of_getElem? h1) y hy hky
     · subst hy;exact absurd hky h3
 · rintro v ⟨g,y,g1,g2,g3⟩
   by_cases hv:w.fn=v.fn
   · rw [<- hv,h1] at g1
     injection g1 with g1
     subst g1
     by_cases hp:w.pl=v.pl
     · rw [<- hp,h2] at g2
       injection g2 with g2
       subst g2
       exact ⟨_,(x.1,a),by rw [<- hv,List.getElem?_set_self hl],by rw [<- hp];exact List.getElem?_set_self hpl,h3⟩
     · exact ⟨_,y,by rw [<- hv,List.getElem?_set_self hl],by show (f.2.2.2.set _ _)[v.pl]? = _;rw [List.getElem?_set_ne hp];exact g2,g3⟩
   · exact ⟨g,y,by rw [List.getElem?_set_ne hv];exact g1,g2,g3⟩
theorem Yat (s:St):∀ (ws:List Zdz) (fs fs':List FnR),KOk fs->(∀ w∈ws,WOk fs w)->Zhw s fs ws = .ok fs'->KOk fs'
 | [],fs,fs',hk,_,h=>by injection h with h;subst h;exact hk
 | w::r,fs,fs',hk,hw,h=>by
   rw [Zhw] at h
   cases hf:Zmo s w with
   | none=>rw [hf] at h;cases h
   | some n =>
     rw [hf] at h
     obtain ⟨h1,h2⟩:=Yqy (a:=(n:Int)) hk (hw w (List.mem_cons_self ..))
     exact Yat s r _ fs' h1 (fun v hv=>h2 v (hw v (List.mem_cons_of_mem _ hv))) h
theorem Yvs {chk:PrP->Int} {t:Txt} {P:PrP} (h:Zaq TT chk t = .ok P):chk P=0/\KOk P.2.2:=by
 unfold Zaq at h
 split at h
 · cases h
 cases hl:Zcm TT St0 1 (Zci t) with
 | error e=>rw [hl] at h;cases h
 | ok s =>
   rw [hl] at h
   simp only [] at h
   have hs:=Zup (Zci t) St0 s 1 ⟨fun f hf=>absurd hf (List.not_mem_nil),fun w hw=>absurd hw (List.not_mem_nil)⟩ hl
   cases hf:Zhw s s.funcs s.wants with
   | error e=>rw [hf] at h;cases h
   | ok fs =>
     rw [hf] at h
     simp only [] at h
     split at h
     · rename_i hc
       injection h with h
       subst h
       exact ⟨hc,Yat s s.wants s.funcs fs hs.1 hs.2 hf⟩
     · cases h
theorem Yrg {t:Txt} {P:PrP} (h:Zda t = .ok P):OkP P:=by
 rw [Zdo] at h
 cases hp:Zaq TT (fun p=>Jl p.1 p.2.1.length p.2.2) t with
 | error e=>rw [hp] at h;cases h
 | ok Q =>
   rw [hp] at h
   injection h with h
   subst h
   obtain ⟨h1,h2⟩:=Yvs hp
   refine ⟨h1,fun f hf x hx => ?_⟩
   obtain ⟨s,g1,g2⟩:=Zrh (Yas ((Zqm h1).2 f hf)).2 x hx
   have hk:=(Yse g1).kind
   have hks:Zai x.1=s.2.1:=by unfold Zai;rw [g1]
   by_cases h1:TT.kind x.1=1
   · exact h2 f hf x hx h1
   · have hr:0<=s.2.1/\s.2.1<7:=by
      refine Zpz s ?_
      unfold Yx at g1
      split at g1
      · exact List.mem_of_getElem? g1
      · cases g1
     have hb:∀ k,bK k<=4096:=fun k=>by unfold bK;split <;> decide
     have h1':s.2.1≠1:=by omega
     unfold Zlc at g2
     split at g2
     · have:x.2=0:=by simpa using g2
       unfold Zki;omega
     · split at g2
       · omega
       · have h4:=hb s.2.1.toNat
         simp only [Bool.and_eq_true,decide_eq_true_eq] at g2
         unfold Zki;omega
end Go.Proofs.YteciblfmgdlipaaGreatDoor.AS
