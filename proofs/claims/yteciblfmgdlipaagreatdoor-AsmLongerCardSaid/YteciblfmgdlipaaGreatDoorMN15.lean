/-
  Part of a proof: contracts of functions and lemmas, each stated by its own theorem. Conditions: as each theorem states.
-/
import Derived.Test.YteciblfmgdlipaaGreatDoorMN11
import Derived.Test.YteciblfmgdlipaaGreatDoorMN12
import Derived.Test.YteciblfmgdlipaaGreatDoorMN14
set_option linter.unusedSimpArgs false
set_option linter.unusedVariables false
set_option maxRecDepth 100000
set_option maxHeartbeats 16000000
namespace Go.Proofs.YteciblfmgdlipaaGreatDoor.AS
open Go.RowKit Go.Great CK
def TT:Tab:=⟨fun t=>(Xn shapeT t).map fun n=>(n:Int),fun n=>Zhw n.toNat,fun t=>(Xn callT t).map fun n=>(n:Int)⟩
structure Rel (c:CS) (s:St):Prop where
 mem:c.mem=s.mem
 ms:c.ms=s.memSet
 data:c.data=s.data
 funcs:c.funcs=s.funcs
 names:∀ u,c.fm u=(s.names.findIdx? (· == u)).map fun n=>(n:Int)
 nlen:s.names.length=s.funcs.length
 llen:c.lm.length=s.funcs.length
 slen:s.labels.length=s.funcs.length
 lm:∀ (k:Nat) (f:Txt->Option Int),c.lm[k]? = some f->∀ u,f u=((s.labels.getD k []).find? fun x=>x.1 == u).map fun x=>(x.2:Int)
 blk:c.blk=s.wants.map fun w=>⟨w.line,w.fn,w.pl,w.word,!w.jump⟩
theorem Zuu:Rel C0 St0:=⟨rfl,rfl,rfl,rfl,fun u=>rfl,rfl,rfl,rfl,fun k f h=>by simp [C0] at h,rfl⟩
def Zbf (c:CS) (x:Option Int):List Txt->CS × Option Int
 | []=>(c,x)
 | t::r=>Zbf (Zfo c x t).1 (Zfo c x t).2 r
theorem Zte (c:CS) (x:Option Int) (t:Txt):(Zfo c x t).1.funcs=c.funcs:=by
 unfold Zfo
 simp only []
 split <;> rfl
theorem Zoj (line:Int):∀ (n:Nat) (ps:List Pc) (c:CS) (x:Option Int) (lab:Bool),ps.length<=n->c.funcs.length≠0 ->
 Zdg line c x lab ps=Zbe line (Zbf c x (Yi ps).1).1 (Zbf c x (Yi ps).1).2 (lab || !(Yi ps).1.isEmpty) (Yi ps).2:=by
 intro n
 induction n with
 | zero =>
   intro ps c x lab hn hf
   have:ps=[]:=List.eq_nil_of_length_eq_zero (by omega)
   subst this
   rw [Xq _ _ _ _ _ (by intro t r e;cases e)]
   simp [Yi,Zbf]
 | succ n ih =>
   intro ps c x lab hn hf
   by_cases hp:∃ t r,ps = .word t :: .colon::r
   · obtain ⟨t,r,rfl⟩:=hp
     rw [Zbx,if_neg hf,ih r _ _ true (by simp only [List.length_cons] at hn;omega) (by rw [Zte];exact hf)]
     simp [Yi,Zbf]
   · rw [Xq _ _ _ _ _ (fun t r e=>hp ⟨t,r,e⟩)]
     have:Yi ps=([],ps):=by
      unfold Yi
      split
      · exact absurd ⟨_,_,rfl⟩ hp
      · rfl
     rw [this]
     simp [Zbf]
theorem Zwu (l:List (Txt × Nat)) (t:Txt) (a:Nat) (u:Txt) (h:(l.any fun x=>x.1 == t)=false) :
 ((l++[(t,a)]).find? fun x=>x.1 == u)=if u=t then some (t,a) else l.find? fun x=>x.1 == u:=by
 rw [List.find?_append]
 by_cases e:u=t
 · subst e
   rw [if_pos rfl]
   have:l.find? (fun x=>x.1 == u)=none:=by
    rw [List.find?_eq_none]
    intro x hx hxu
    rw [List.any_eq_false] at h
    exact h x hx hxu
   rw [this]
   simp
 · rw [if_neg e]
   have:([(t,a)]:List (Txt × Nat)).find? (fun x=>x.1 == u)=none:=by
    simp [List.find?,beq_eq_false_iff_ne.2 (Ne.symm e)]
   rw [this]
   simp
theorem Zrt (l:List (Txt × Nat)) (t:Txt):(l.any fun x=>x.1 == t)=(l.find? fun x=>x.1 == t).isSome:=by
 induction l with
 | nil=>rfl
 | cons a r ih =>
   rw [List.any_cons,List.find?_cons]
   cases h:a.1 == t
   · simpa using ih
   · simp
theorem Zqw:∀ (lb:List Txt) (c:CS),(Zbf c (some 142) lb).2=some 142
 | [],c=>rfl
 | t::r,c=>by
   rw [Zbf]
   have:(Zfo c (some 142) t).2=some 142:=by
    unfold Zfo
    simp only []
    split <;> rfl
   rw [this]
   exact Zqw r _
theorem Yau {c:CS} {s:St} {k:Nat} (h:Rel c s) (hk:s.funcs.length=k+1):∃ f,c.lm[k]? = some f/\c.lm.getD k (fun _=>none)=f/\c.funcs.length - 1=k/\∀ u,f u=((s.labels.getD k []).find? fun x=>x.1 == u).map fun x=>(x.2:Int):=by
 have hl:k<c.lm.length:=by rw [h.llen];omega
 refine ⟨c.lm[k],List.getElem?_eq_getElem hl,by rw [List.getD_eq_getElem?_getD,List.getElem?_eq_getElem hl];rfl,by rw [h.funcs];omega,h.lm k _ (List.getElem?_eq_getElem hl)⟩
theorem Zop {c:CS} {s:St} {k:Nat} (h:Rel c s) (hk:s.funcs.length=k+1) (x:Option Int) (t:Txt) (ha:((s.labels.getD k []).any fun x=>x.1 == t)=true):Zfo c x t=(c,amV x 142):=by
 obtain ⟨f,h1,h2,h3,h4⟩:=Yau h hk
 unfold Zfo
 simp only [h3,h2]
 rw [if_pos]
 rw [h4 t,Option.isSome_map,<- Zrt]
 exact ha
theorem Zie {α:Type} (l:List α) (k:Nat) (v d:α) (h:k<l.length):(l.set k v).getD k d=v:=by
 rw [List.getD_eq_getElem?_getD,List.getElem?_set_self h];rfl
theorem Zpj {α:Type} (l:List α) (j k:Nat) (v d:α) (h:j≠k):(l.set k v).getD j d=l.getD j d:=by
 rw [List.getD_eq_getElem?_getD,List.getElem?_set_ne (Ne.symm h),<- List.getD_eq_getElem?_getD]
theorem Zoo {c:CS} {s:St} {k:Nat} (h:Rel c s) (hk:s.funcs.length=k+1) (x:Option Int) (t:Txt) (ha:((s.labels.getD k []).any fun x=>x.1 == t)=false) :
 (Zfo c x t).2=x/\Rel (Zfo c x t).1 { s with labels:=s.labels.set k (s.labels.getD k []++[(t,(s.funcs.getD k (0,0,0,[])).2.2.2.length)]) }:=by
 obtain ⟨f,h1,h2,h3,h4⟩:=Yau h hk
 have hno:(f t).isSome=false:=by rw [h4 t,Option.isSome_map,<- Zrt];exact ha
 have e:Zfo c x t=({ c with lm:=c.lm.set k fun u=>if u=t then some ((c.funcs.getD k (0,0,0,[])).2.2.2.length:Int) else f u },x):=by
  unfold Zfo
  simp only [h3,h2,hno]
  rfl
 rw [e]
 refine ⟨rfl,h.mem,h.ms,h.data,h.funcs,h.names,h.nlen,by simp only [List.length_set];exact h.llen,by simp only [List.length_set];exact h.slen,fun j g hj u => ?_,h.blk⟩
 have hsl:k<s.labels.length:=by rw [h.slen];omega
 have hcl:k<c.lm.length:=(List.getElem?_eq_some_iff.1 h1).1
 by_cases ej:j=k
 · subst ej
   rw [List.getElem?_set_self hcl] at hj
   injection hj with hj
   subst hj
   simp only []
   rw [Zie _ _ _ _ hsl,Zwu _ _ _ _ ha]
   split
   · rw [h.funcs];rfl
   · exact h4 u
 · rw [List.getElem?_set_ne (Ne.symm ej)] at hj
   rw [Zpj _ _ _ _ _ ej]
   exact h.lm j g hj u
theorem Zyc {α:Type} (l:List α) (k:Nat) (d:α) (h:k<l.length):l.set k (l.getD k d)=l:=by
 rw [List.getD_eq_getElem?_getD,List.getElem?_eq_getElem h]
 simp
theorem Zqb {k:Nat}:∀ (lb:List Txt) (c:CS) (s:St),Rel c s->s.funcs.length=k+1 ->
 (match Zio (s.funcs.getD k (0,0,0,[])).2.2.2.length (s.labels.getD k []) lb with
   | none=>(Zbf c none lb).2=some 142
   | some m=>(Zbf c none lb).2=none/\Rel (Zbf c none lb).1 { s with labels:=s.labels.set k m })
 | [],c,s,h,hk=>by
   have hsl:k<s.labels.length:=by rw [h.slen];omega
   simp only [Zio,Zbf]
   rw [Zyc _ _ _ hsl]
   exact ⟨trivial,h⟩
 | t::r,c,s,h,hk=>by
   have hsl:k<s.labels.length:=by rw [h.slen];omega
   rw [Zio]
   cases ha:(s.labels.getD k []).any fun x=>x.1 == t with
   | true =>
     simp only [if_true,Zbf]
     rw [Zop h hk none t ha]
     exact Zqw r c
   | false =>
     obtain ⟨e1,h1⟩:=Zoo h hk none t ha
     have ih:=Zqb r _ _ h1 hk
     simp only [Zbf,e1]
     simp only [Zie _ _ _ _ hsl,List.set_set] at ih
     simpa using ih
theorem Zqr (t:Txt):TT.named t=(Xn shapeT t).map fun n=>(n:Int):=rfl
theorem Yas (t:Txt):TT.sys t=(Xn callT t).map fun n=>(n:Int):=rfl
theorem Zmv {s:St} {k:Nat} (hk:s.funcs.length=k+1):Zgh s=s.funcs.getD k (0,0,0,[]):=by
 unfold Zgh
 rw [List.getD_eq_getElem?_getD,List.getLastD_eq_getLast?,List.getLast?_eq_getElem?,hk]
 rfl
theorem Zuv {c:CS} {s:St} {k:Nat} (h:Rel c s) (hk:s.funcs.length=k+1) (i:Int × Int):Rel (Zeg c i) { s with funcs:=Zcl s i }:=by
 have hc:c.funcs.length - 1=k:=by rw [h.funcs];omega
 refine ⟨h.mem,h.ms,h.data,?_,h.names,?_,?_,?_,h.lm,h.blk⟩
 · show c.funcs.set _ _=Zcl s i
   unfold Zcl
   rw [Zmv hk,hk,Nat.add_sub_cancel]
   simp only [hc]
   rw [h.funcs]
 · show s.names.length=(Zcl s i).length
   unfold Zcl;rw [List.length_set];exact h.nlen
 · show c.lm.length=(Zcl s i).length
   unfold Zcl;rw [List.length_set];exact h.llen
 · show s.labels.length=(Zcl s i).length
   unfold Zcl;rw [List.length_set];exact h.slen
theorem Ybx {c:CS} {s:St} {k:Nat} (h:Rel c s) (hk:s.funcs.length=k+1) (line:Nat) (t:Txt) (j:Bool):Rel (Zrq c line t (!j)) { s with wants:=s.wants++[⟨k,(s.funcs.getD k (0,0,0,[])).2.2.2.length,line,t,j⟩] }:=by
 have hc:c.funcs.length - 1=k:=by rw [h.funcs];omega
 refine ⟨h.mem,h.ms,h.data,h.funcs,h.names,h.nlen,h.llen,h.slen,h.lm,?_⟩
 unfold Zrq
 simp only [hc,List.map_append,List.map_cons,List.map_nil]
 rw [h.blk,h.funcs]
def Yfz (s:St) (k line:Nat) (n a:Int) (w:Option Txt):St :=
 { s with wants:=(match w with|none=>s.wants|some t=>s.wants++[⟨k,(s.funcs.getD k (0,0,0,[])).2.2.2.length,line,t,TT.kind n == 3⟩]),funcs:=Zcl s (n,a) }
theorem Zoq {c:CS} {s:St} {k:Nat} (h:Rel c s) (hk:s.funcs.length=k+1) (line n:Nat) (a:Int):Rel (Zeg c (n,a)) (Yfz s k line n a none):=Zuv h hk _
theorem Zyf {c:CS} {s:St} {k:Nat} (h:Rel c s) (hk:s.funcs.length=k+1) (line n:Nat) (t:Txt) (kd:Int) (hkd:Zhw n=kd) (h34:kd=3\/kd=4):Rel (Zeg (Zrq c line t (kd == 4)) (n,0)) (Yfz s k line n 0 (some t)):=by
 have e:(kd == 4) = !(kd == 3):=by rcases h34 with e|e <;> subst e <;> rfl
 have e2:(TT.kind (n:Int) == 3)=(kd == 3):=by show (Zhw (n:Int).toNat == 3)=_;rw [Int.toNat_natCast,hkd]
 rw [e]
 have h1:=Zuv (Ybx h hk line t (kd == 3)) hk ((n:Int),0)
 unfold Yfz
 simp only [e2]
 exact h1
theorem Zra {c:CS} {s:St} {k:Nat} (h:Rel c s) (hk:s.funcs.length=k+1) (line:Nat) (x:Option Int) (lb:List Txt) (q:Pc) (rest:List Pc) :
 (match Zna TT lb (q::rest) with
   | none=>Zfp line c x (q::rest)=none
   | some y=>∃ n a w c',y = .code lb (some (n,a,w))/\Zfp line c x (q::rest)=some (c',if Zgq (q::rest)=true then amV x 143 else x)/\Rel c' (Yfz s k line n a w)):=by
 have hf:c.funcs.length≠0:=by rw [h.funcs];omega
 cases q with
 | num v b=>rfl
 | str t=>rfl
 | colon=>rfl
 | word t =>
   cases hn:Xn shapeT t with
   | none =>
     have e:TT.named t=none:=by rw [Zqr,hn];rfl
     simp only [Zna,e]
     unfold Zfp
     simp only [hn]
   | some n =>
     have e:TT.named t=some (n:Int):=by rw [Zqr,hn];rfl
     have ek:TT.kind (n:Int)=Zhw n:=by show Zhw (n:Int).toNat=_;rw [Int.toNat_natCast]
     have ei:Zfp line c x (.word t::rest)=Zdz line c x n (Zhw n) rest:=by unfold Zfp;simp only [hn,if_neg hf]
     rw [ei]
     clear ei
     simp only [Zna,e,ek]
     generalize hkd:Zhw n=kd
     by_cases h0:kd=0
     · rw [if_pos h0]
       cases rest with
       | nil=>exact ⟨n,0,none,_,rfl,by unfold Zdz;rw [if_pos h0];rfl,Zoq h hk line n 0⟩
       | cons r rs=>unfold Zdz;rw [if_pos h0]
     · rw [if_neg h0]
       have hins:Zdz line c x n kd rest=(match rest with
        | [.num v big]=>some (Zeg c (n,v),if big then amV x 143 else x)
        | [.word s] =>
          if kd=3\/kd=4 then some (Zeg (Zrq c line s (kd == 4)) (n,0),x)
          else if kd=5 then (match Xn callT s with|none=>none|some j=>some (Zeg c (n,j),x))
          else none
        | _=>none):=by unfold Zdz;rw [if_neg h0];first|rfl|(split <;> rfl)
       rw [hins]
       match rest with
       | []=>rfl
       | [.num v b]=>exact ⟨n,v,none,_,rfl,by cases b <;> rfl,Zoq h hk line n v⟩
       | [.str u]=>rfl
       | [.colon]=>rfl
       | [.word u] =>
         by_cases h34:kd=3\/kd=4
         · have h5:¬ kd=5:=by omega
           simp only [if_neg h5,if_pos h34]
           exact ⟨n,0,some u,_,rfl,rfl,Zyf h hk line n u kd hkd h34⟩
         · by_cases h5:kd=5
           · simp only [if_pos h5,if_neg h34]
             cases hj:Xn callT u with
             | none =>
               have e:TT.sys u=none:=by rw [Yas,hj];rfl
               rw [e];rfl
             | some j =>
               have e:TT.sys u=some (j:Int):=by rw [Yas,hj];rfl
               rw [e]
               exact ⟨n,j,none,_,rfl,rfl,Zoq h hk line n j⟩
           · simp only [if_neg h5,if_neg h34]
       | _::_::_=>simp
theorem Ycw (c:CS) (x:Option Int) (t:Txt):∃ L,(Zfo c x t).1={ c with lm:=L }:=by
 unfold Zfo
 simp only []
 split
 · exact ⟨c.lm,rfl⟩
 · exact ⟨_,rfl⟩
theorem Zqx:∀ (lb:List Txt) (c:CS) (x:Option Int),∃ L,(Zbf c x lb).1={ c with lm:=L }
 | [],c,x=>⟨c.lm,rfl⟩
 | t::r,c,x=>by
   obtain ⟨L,h⟩:=Ycw c x t
   obtain ⟨L2,h2⟩:=Zqx r (Zfo c x t).1 (Zfo c x t).2
   refine ⟨L2,?_⟩
   rw [Zbf,h2,h]
theorem Yde (line:Int) (c:CS) (L:List (Txt->Option Int)) (x:Option Int) (ps:List Pc):Zfp line { c with lm:=L } x ps=(Zfp line c x ps).map fun r=>({ r.1 with lm:=L },r.2):=by
 unfold Zfp
 split
 · split
   · rfl
   · split
     · rfl
     · unfold Zdz
       split
       · split <;> rfl
       · split
         · rfl
         · split
           · rfl
           · split
             · split <;> rfl
             · rfl
         · rfl
 · rfl
theorem Ztc (line:Int) (c:CS) (x:Option Int) (q:Pc) (r:List Pc):Zbe line c x true (q::r)=Zfp line c x (q::r):=by
 cases q with
 | word t=>exact Zhv line c x t r
 | num v b=>rfl
 | str t=>rfl
 | colon=>rfl
theorem Zpr:∀ (n:Nat) (ps:List Pc),ps.length<=n->Zgq (Yi ps).2=Zgq ps:=by
 intro n
 induction n with
 | zero =>
   intro ps hn
   have:ps=[]:=List.eq_nil_of_length_eq_zero (by omega)
   subst this;rfl
 | succ n ih =>
   intro ps hn
   by_cases hp:∃ t r,ps = .word t :: .colon::r
   · obtain ⟨t,r,rfl⟩:=hp
     have:=ih r (by simp only [List.length_cons] at hn;omega)
     simp only [Yi]
     rw [this]
     simp [Zgq]
   · have:Yi ps=([],ps):=by
      unfold Yi
      split
      · exact absurd ⟨_,_,rfl⟩ hp
      · rfl
     rw [this]
def Ziq (line:Int) (c:CS) (r:Option (CS × Option Int)) (e:Except Int St):Prop :=
 match e with
 | .ok s'=>∃ c',r=some (c',none)/\Rel c' s'
 | .error y=>(y=141/\r=none)\/∃ c',r=some (c',some y)
theorem Zep (s:St):s.funcs.isEmpty=true ↔ s.funcs.length=0:=by cases s.funcs <;> simp
theorem Znp {c:CS} {s:St} (h:Rel c s) (line:Nat) (lb:List Txt) (r:List Pc) (hf:s.funcs.length≠0) (hne:lb≠[]\/r≠[]) :
 Ziq line c (match r with|[]=>some (Zbf c none lb)|q::rest=>Zfp line (Zbf c none lb).1 (Zbf c none lb).2 (q::rest))
  (match Zna TT lb r with|none => .error 141|some x=>Zbv TT s x (Zgq r) line):=by
 obtain ⟨k,hk⟩:∃ k,s.funcs.length=k+1:=⟨s.funcs.length - 1,by omega⟩
 have hl:=Zqb lb c s h hk
 have hfit:∀ lb' ins,Zes s (.code lb' ins)=true:=fun lb' ins=>by
  unfold Zes
  cases hs:s.funcs.isEmpty
  · rfl
  · exact absurd ((Zep s).1 hs) hf
 have hlast:=Zmv hk
 have hlen:s.labels.length - 1=k:=by rw [h.slen];omega
 have hgl:s.labels.getLastD []=s.labels.getD k []:=by
  rw [List.getD_eq_getElem?_getD,List.getLastD_eq_getLast?,List.getLast?_eq_getElem?,hlen]
 cases r with
 | nil =>
   simp only [Zna,Zbv,hfit,Zgq,List.any_nil,Bool.not_true,Bool.false_eq_true,if_false]
   rw [hlast,hgl]
   cases ha:Zio (s.funcs.getD k (0,0,0,[])).2.2.2.length (s.labels.getD k []) lb with
   | none =>
     rw [ha] at hl
     right
     exact ⟨(Zbf c none lb).1,congrArg some (Prod.ext rfl hl)⟩
   | some m =>
     rw [ha] at hl
     refine ⟨(Zbf c none lb).1,congrArg some (Prod.ext rfl hl.1),?_⟩
     rw [hlen]
     exact hl.2
 | cons q rest =>
   simp only []
   cases ha:Zio (s.funcs.getD k (0,0,0,[])).2.2.2.length (s.labels.getD k []) lb with
   | none =>
     rw [ha] at hl
     simp only [] at hl
     obtain ⟨L,hL⟩:=Zqx lb c none
     rw [hl,hL,Yde]
     have hb:=Zra h hk line (some 142) lb q rest
     cases hi:Zna TT lb (q::rest) with
     | none =>
       rw [hi] at hb
       left
       exact ⟨rfl,by rw [hb];rfl⟩
     | some y =>
       rw [hi] at hb
       obtain ⟨n,a,w,c',rfl,h2,h3⟩:=hb
       rw [h2]
       simp only [Zbv,hfit,Bool.not_true,Bool.false_eq_true,if_false,hlast,hgl,ha]
       cases hbg:Zgq (q::rest)
       · right;exact ⟨_,rfl⟩
       · right;exact ⟨_,rfl⟩
   | some m =>
     rw [ha] at hl
     simp only [] at hl
     rw [hl.1]
     have hb:=Zra hl.2 hk line none lb q rest
     cases hi:Zna TT lb (q::rest) with
     | none =>
       rw [hi] at hb
       left
       exact ⟨rfl,hb⟩
     | some y =>
       rw [hi] at hb
       obtain ⟨n,a,w,c',rfl,h2,h3⟩:=hb
       rw [h2]
       simp only [Zbv,hfit,Bool.not_true,Bool.false_eq_true,if_false,hlast,hgl,ha]
       cases hbg:Zgq (q::rest)
       · refine ⟨c',rfl,?_⟩
         rw [hlen,hk,Nat.add_sub_cancel]
         exact h3
       · right;exact ⟨c',rfl⟩
theorem Znx (ps:List Pc):Zil none ps=if Zgq ps=true then some 143 else none:=by
 unfold Zil
 have:ps.any Ztj=Zgq ps:=by
  unfold Zgq
  congr 1
  (try (funext p;cases p <;> rfl))
 rw [this]
theorem Zim (t:Txt) (r:List Pc):Zgq (.word t::r)=Zgq r:=by simp [Zgq]
theorem Zze {c:CS} {s:St} (h:Rel c s) (line:Nat) (r:List Pc) :
 Ziq line c (Zxs c none r) (match (match r with|[.num n _]=>some (Sd.mem n)|_=>none) with|none => .error 141|some x=>Zbv TT s x (Zgq r) line):=by
 by_cases hr:∃ n b,r=[.num n b]
 · obtain ⟨n,b,rfl⟩:=hr
   have hn:Zbo [.num n b] 1=some [n]:=rfl
   have hb:Zgq [.num n b]=b:=by cases b <;> rfl
   simp only [Zxs,hn,Zbv,hb]
   by_cases hc:c.ms=true\/0<c.funcs.length
   · rw [if_pos hc]
     have hfit:Zes s (.mem n)=false:=by
      unfold Zes
      rcases hc with hc|hc
      · rw [<- h.ms,hc];rfl
      · rw [h.funcs] at hc
        cases hs:s.funcs with
        | nil=>rw [hs] at hc;simp at hc
        | cons a r=>simp
     simp only [hfit]
     exact Or.inl ⟨rfl,rfl⟩
   · rw [if_neg hc]
     have hfit:Zes s (.mem n)=true:=by
      unfold Zes
      have h1:s.memSet=false:=by rw [<- h.ms];cases hm:c.ms;rfl;exact absurd (Or.inl hm) hc
      have h2:s.funcs=[]:=List.eq_nil_of_length_eq_zero (by rw [<- h.funcs];omega)
      rw [h1,h2];rfl
     simp only [hfit,Bool.not_true,Bool.false_eq_true,if_false,Znx,hb]
     cases b
     · exact ⟨_,rfl,⟨rfl,rfl,h.data,h.funcs,h.names,h.nlen,h.llen,h.slen,h.lm,h.blk⟩⟩
     · exact Or.inr ⟨_,rfl⟩
 · have e1:(match r with|[.num n _]=>some (Sd.mem n)|_=>none)=none:=by
    split
    · exact absurd ⟨_,_,rfl⟩ hr
    · rfl
   rw [e1]
   refine Or.inl ⟨rfl,?_⟩
   unfold Zxs
   split
   · rfl
   · rename_i xs hx
     exfalso
     apply hr
     unfold Zbo at hx
     split at hx
     · rename_i hc
       obtain ⟨h1,h2⟩:=hc
       match r,h1 with
       | [x],_ =>
         simp only [List.all_cons,List.all_nil,Bool.and_true] at h2
         obtain ⟨v1,b1,rfl⟩:=Zvp (Zhx h2)
         exact ⟨_,_,rfl⟩
     · cases hx
theorem Zwy {c:CS} {s:St} (h:Rel c s) (line:Nat) (r:List Pc) :
 Ziq line c (Zdh c none r) (match (match r with|[.str b]=>some (Sd.data b)|_=>none) with|none => .error 141|some x=>Zbv TT s x (Zgq r) line):=by
 by_cases hr:∃ b,r=[.str b]
 · obtain ⟨b,rfl⟩:=hr
   have hb:Zgq [.str b]=false:=rfl
   simp only [Zdh,Zbv,hb]
   by_cases hc:0<c.funcs.length
   · rw [if_pos hc]
     have hfit:Zes s (.data b)=false:=by
      unfold Zes
      rw [h.funcs] at hc
      cases hs:s.funcs with
      | nil=>rw [hs] at hc;simp at hc
      | cons a r=>simp
     simp only [hfit]
     exact Or.inl ⟨rfl,rfl⟩
   · rw [if_neg hc]
     have hfit:Zes s (.data b)=true:=by
      unfold Zes
      have h2:s.funcs=[]:=List.eq_nil_of_length_eq_zero (by rw [<- h.funcs];omega)
      rw [h2];rfl
     simp only [hfit,Bool.not_true,Bool.false_eq_true,if_false]
     exact ⟨_,rfl,⟨h.mem,h.ms,by rw [h.data],h.funcs,h.names,h.nlen,h.llen,h.slen,h.lm,h.blk⟩⟩
 · have e1:(match r with|[.str b]=>some (Sd.data b)|_=>none)=none:=by
    split
    · exact absurd ⟨_,rfl⟩ hr
    · rfl
   rw [e1]
   refine Or.inl ⟨rfl,?_⟩
   unfold Zdh
   split
   · exact absurd ⟨_,rfl⟩ hr
   · rfl
theorem Zlo (l:List Txt) (nm u:Txt) (h:l.findIdx? (· == nm)=none):(l++[nm]).findIdx? (· == u)=if u=nm then some l.length else l.findIdx? (· == u):=by
 rw [List.findIdx?_append]
 by_cases e:u=nm
 · subst e
   rw [h,if_pos rfl]
   simp [List.findIdx?_cons]
 · rw [if_neg e]
   have:([nm]:List Txt).findIdx? (· == u)=none:=by simp [List.findIdx?_cons,beq_eq_false_iff_ne.2 (Ne.symm e)]
   rw [this]
   cases l.findIdx? (· == u) <;> rfl
theorem Yet {c:CS} {s:St} (h:Rel c s) (nm:Txt) (a l k:Int) (hn:s.names.findIdx? (· == nm)=none) :
 Rel { c with funcs:=c.funcs++[(a,l,k,[])],fm:=fun u=>if u=nm then some (c.funcs.length:Int) else c.fm u,lm:=c.lm++[fun _=>none] } { s with funcs:=s.funcs++[(a,l,k,[])],names:=s.names++[nm],labels:=s.labels++[[]] }:=by
 refine ⟨h.mem,h.ms,h.data,by rw [h.funcs],fun u => ?_,by simp [h.nlen],by simp [h.llen],by simp [h.slen],fun j f hj u => ?_,h.blk⟩
 · show (if u=nm then some (c.funcs.length:Int) else c.fm u)=_
   rw [Zlo _ _ _ hn]
   split
   · rw [h.nlen,h.funcs];rfl
   · exact h.names u
 · show f u=_
   by_cases e:j<c.lm.length
   · rw [List.getElem?_append_left e] at hj
     have hsl:j<s.labels.length:=by rw [h.slen,<- h.llen];exact e
     rw [List.getD_eq_getElem?_getD,List.getElem?_append_left hsl,<- List.getD_eq_getElem?_getD]
     exact h.lm j f hj u
   · have hjl:=(List.getElem?_eq_some_iff.1 hj).1
     simp at hjl
     have ej:j=c.lm.length:=by omega
     subst ej
     rw [List.getElem?_append_right (Nat.le_refl _),Nat.sub_self] at hj
     simp at hj
     subst hj
     rw [List.getD_eq_getElem?_getD,h.llen,<- h.slen,List.getElem?_append_right (Nat.le_refl _),Nat.sub_self]
     rfl
theorem Zdj (l:List Txt) (nm:Txt):l.contains nm=(l.findIdx? (· == nm)).isSome:=by
 rw [List.findIdx?_isSome]
 induction l with
 | nil=>rfl
 | cons a r ih =>
   rw [List.contains_cons,List.any_cons,ih]
   congr 1
   cases h:nm == a
   · symm;rw [beq_eq_false_iff_ne] at h ⊢;exact Ne.symm h
   · symm;rw [beq_iff_eq] at h ⊢;exact h.symm
theorem Ydh {c:CS} {s:St} (h:Rel c s) (line:Nat) (r:List Pc) :
 Ziq line c (Zcu c none r) (match (match r with|[.word nm,.num a _,.num l _,.num k _]=>some (Sd.fn nm a l k)|_=>none) with|none => .error 141|some x=>Zbv TT s x (Zgq r) line):=by
 by_cases hr:∃ nm a b1 l b2 k b3,r=[.word nm,.num a b1,.num l b2,.num k b3]
 · obtain ⟨nm,a,b1,l,b2,k,b3,rfl⟩:=hr
   have hn:Zbo [.num a b1,.num l b2,.num k b3] 3=some [a,l,k]:=rfl
   have hi:(c.fm nm).isSome=s.names.contains nm:=by rw [h.names,Zdj];cases s.names.findIdx? (· == nm) <;> rfl
   simp only [Zcu,hn,Zbv,Zes,Bool.not_true,Bool.false_eq_true,if_false,Znx,Zim,hi]
   cases hb:Zgq [.num a b1,.num l b2,.num k b3]
   · cases hc:s.names.contains nm
     · simp only [Bool.false_eq_true,if_false]
       refine ⟨_,rfl,Yet h nm a l k ?_⟩
       rw [Zdj] at hc
       cases hx:s.names.findIdx? (· == nm)
       · rfl
       · rw [hx] at hc;cases hc
     · right;exact ⟨_,rfl⟩
   · right
     cases hc:s.names.contains nm <;> exact ⟨_,rfl⟩
 · have e1:(match r with|[.word nm,.num a _,.num l _,.num k _]=>some (Sd.fn nm a l k)|_=>none)=none:=by
    split
    · exact absurd ⟨_,_,_,_,_,_,_,rfl⟩ hr
    · rfl
   rw [e1]
   refine Or.inl ⟨rfl,?_⟩
   unfold Zcu
   split
   · rename_i nm rest
     split
     · rename_i a l k hnum
       exfalso
       apply hr
       unfold Zbo at hnum
       split at hnum
       · rename_i hc
         obtain ⟨h1,h2⟩:=hc
         match rest,h1 with
         | [x,y,z],_ =>
           simp only [List.all_cons,List.all_nil,Bool.and_true,Bool.and_eq_true] at h2
           obtain ⟨i1,i2,i3⟩:=h2
           obtain ⟨v1,b1,rfl⟩:=Zvp (Zhx i1)
           obtain ⟨v2,b2,rfl⟩:=Zvp (Zhx i2)
           obtain ⟨v3,b3,rfl⟩:=Zvp (Zhx i3)
           exact ⟨_,_,_,_,_,_,_,rfl⟩
       · cases hnum
     · rfl
   · rfl
theorem Zwl {T:Tab} {lb:List Txt} {r:List Pc} {x:Sd} (h:Zna T lb r=some x):∃ ins,x = .code lb ins:=by
 unfold Zna at h
 split at h
 · injection h with h;exact ⟨_,h.symm⟩
 · split at h
   · cases h
   · split at h
     · split at h
       · injection h with h;exact ⟨_,h.symm⟩
       · cases h
     · split at h
       · injection h with h;exact ⟨_,h.symm⟩
       · split at h
         · obtain ⟨y,_,h⟩:=Option.map_eq_some_iff.1 h
           exact ⟨_,h.symm⟩
         · split at h
           · injection h with h;exact ⟨_,h.symm⟩
           · cases h
       · cases h
 · cases h
theorem Zwm {line:Int} {c:CS} {x:Option Int} {ps:List Pc} (h:c.funcs.length=0):Zfp line c x ps=none:=by
 unfold Zfp
 split
 · split
   · rfl
   · rw [if_pos h]
 · rfl
theorem Zma {s:St} {lb:List Txt} {r:List Pc} {b:Bool} {line:Nat} (h:s.funcs.length=0):(match Zna TT lb r with|none=>(.error 141:Except Int St)|some x=>Zbv TT s x b line) = .error 141:=by
 cases hi:Zna TT lb r with
 | none=>rfl
 | some x =>
   obtain ⟨ins,rfl⟩:=Zwl hi
   have:Zes s (.code lb ins)=false:=by
    unfold Zes
    rw [(Zep s).2 h];rfl
   simp only [Zbv,this]
   rfl
theorem Zpf {ps:List Pc} (h:∀ t r,ps ≠ .word t :: .colon::r):Yi ps=([],ps):=by
 unfold Yi
 split
 · exact absurd rfl (h _ _)
 · rfl
theorem Zvy (T:Tab) (u:Txt) (r:List Pc) (e:u=Zaf):Ztb T (.word u::r)=(match r with|[.num n _]=>some (Sd.mem n)|_=>none):=if_pos e
theorem Zta (T:Tab) (u:Txt) (r:List Pc) (e1:¬ u=Zaf) (e:u=Zhe):Ztb T (.word u::r)=(match r with|[.str b]=>some (Sd.data b)|_=>none):=(if_neg e1).trans (if_pos e)
theorem Zzi (T:Tab) (u:Txt) (r:List Pc) (e1:¬ u=Zaf) (e2:¬ u=Zhe) (e:u=Zis):Ztb T (.word u::r)=(match r with|[.word nm,.num a _,.num l _,.num k _]=>some (Sd.fn nm a l k)|_=>none):=(if_neg e1).trans ((if_neg e2).trans (if_pos e))
theorem Zvx {c:CS} {s:St} (h:Rel c s) (line:Nat) (t:Txt):Ziq line c (lnC line c t) (Zit TT s t line):=by
 unfold lnC Zit
 cases hp:Zqm t with
 | none=>exact Or.inl ⟨rfl,rfl⟩
 | some ps =>
   show Ziq line c (Zdg line c none false ps) (match Zuq TT ps with|none => .error 141|some x=>Zbv TT s x (Zgq ps) line)
   cases ps with
   | nil =>
     rw [Xq _ _ _ _ _ (by intro t r e;cases e)]
     exact ⟨c,rfl,h⟩
   | cons q r =>
     by_cases hlab:∃ u r',q::r = .word u :: .colon::r'
     · obtain ⟨u,r',e⟩:=hlab
       rw [e]
       have hsaid:Zuq TT (.word u :: .colon::r')=Zna TT (u::(Yi r').1) (Yi r').2:=rfl
       have hbig:Zgq (.word u :: .colon::r')=Zgq (Yi r').2:=by rw [Zpr r'.length r' (Nat.le_refl _)];simp [Zgq]
       rw [hsaid,hbig]
       by_cases hf:s.funcs.length=0
       · rw [Zbx,if_pos (by rw [h.funcs];exact hf),Zma hf]
         exact Or.inl ⟨rfl,rfl⟩
       · have hb:=Znp h line (u::(Yi r').1) (Yi r').2 hf (Or.inl (by simp))
         rw [Zoj line (r'.length+2) _ c none false (by simp) (by rw [h.funcs];exact hf)]
         have e2:Yi (.word u :: .colon::r')=(u::(Yi r').1,(Yi r').2):=rfl
         rw [e2]
         simp only [List.isEmpty_cons,Bool.not_false,Bool.or_true]
         cases hr:(Yi r').2 with
         | nil=>rw [hr] at hb;exact hb
         | cons a b=>rw [hr] at hb;rw [Ztc];exact hb
     · have hl0:Yi (q::r)=([],q::r):=by
        exact Zpf (fun t r' e=>hlab ⟨t,r',e⟩)
       have hsaid:Zuq TT (q::r)=Ztb TT (q::r):=by unfold Zuq;simp only [hl0]
       rw [Xq _ _ _ _ _ (fun t r' e=>hlab ⟨t,r',e⟩),hsaid]
       have hins:∀ (q:Pc),Ziq line c (Zfp line c none (q::r)) (match Zna TT [] (q::r) with|none => .error 141|some x=>Zbv TT s x (Zgq (q::r)) line):=fun q=>by
        by_cases hf:s.funcs.length=0
        · rw [Zwm (by rw [h.funcs];exact hf),Zma hf]
          exact Or.inl ⟨rfl,rfl⟩
        · exact Znp h line [] (q::r) hf (Or.inr (by simp))
       cases q with
       | num v b=>exact Or.inl ⟨rfl,rfl⟩
       | str u=>exact Or.inl ⟨rfl,rfl⟩
       | colon=>exact Or.inl ⟨rfl,rfl⟩
       | word u =>
         rw [Zim]
         by_cases e1:u=Zaf
         · have a1:Zbe line c none false (.word u::r)=Zxs c none r:=if_pos ⟨rfl,e1⟩
           rw [a1,Zvy TT u r e1]
           exact Zze h line r
         · by_cases e2:u=Zhe
           · have a1:Zbe line c none false (.word u::r)=Zdh c none r:=(if_neg (fun h=>e1 h.2)).trans (if_pos ⟨rfl,e2⟩)
             rw [a1,Zta TT u r e1 e2]
             exact Zwy h line r
           · by_cases e3:u=Zis
             · have a1:Zbe line c none false (.word u::r)=Zcu c none r:=(if_neg (fun h=>e1 h.2)).trans ((if_neg (fun h=>e2 h.2)).trans (if_pos ⟨rfl,e3⟩))
               rw [a1,Zzi TT u r e1 e2 e3]
               exact Ydh h line r
             · have a1:Zbe line c none false (.word u::r)=Zfp line c none (.word u::r):=(if_neg (fun h=>e1 h.2)).trans ((if_neg (fun h=>e2 h.2)).trans (if_neg (fun h=>e3 h.2)))
               have a2:Ztb TT (.word u::r)=Zna TT [] (.word u::r):=(if_neg e1).trans ((if_neg e2).trans (if_neg e3))
               rw [a1,a2]
               have:=hins (.word u)
               rw [Zim] at this
               exact this
theorem Zjp:∀ (ls:List Txt) (c:CS) (s:St) (n:Nat),Rel c s->(match Zbp TT s n ls with | .ok s'=>∃ c',Zqv c n ls = .ok c'/\Rel c' s' | .error (y,k)=>Zqv c n ls = .error (y,(k:Int)))
 | [],c,s,n,h=>⟨c,rfl,h⟩
 | l::r,c,s,n,h=>by
   have hb:=Zvx h n l
   rw [Zbp,Zqv]
   cases he:Zit TT s l n with
   | error y =>
     rw [he] at hb
     rcases hb with ⟨rfl,hb⟩|⟨c',hb⟩
     · simp only [hb]
     · simp only [hb]
   | ok s' =>
     rw [he] at hb
     obtain ⟨c',hb,hr⟩:=hb
     simp only [hb]
     exact Zjp r c' s' (n+1) hr
theorem Zwv {c:CS} {s:St} (h:Rel c s) (w:Zty):Zlp c ⟨w.line,w.fn,w.pl,w.word,!w.jump⟩=(Zzv s w).map fun n=>(n:Int):=by
 unfold Zlp Zzv
 cases w.jump with
 | false=>simp only [Bool.not_false,if_true,Bool.false_eq_true,if_false];exact h.names _
 | true =>
   simp only [Bool.not_true,Bool.false_eq_true,if_false,if_true,Int.toNat_natCast]
   by_cases e:w.fn<c.lm.length
   · have:=h.lm w.fn _ (List.getElem?_eq_getElem e) w.word
     have e9:(c.lm.getD w.fn fun _=>none)=c.lm[w.fn]:=by rw [List.getD_eq_getElem?_getD,List.getElem?_eq_getElem e];rfl
     rw [e9,this]
     cases (s.labels.getD w.fn []).find? (fun x=>x.1 == w.word) <;> rfl
   · rw [List.getD_eq_getElem?_getD,List.getElem?_eq_none (by omega),List.getD_eq_getElem?_getD,List.getElem?_eq_none (by rw [h.slen,<- h.llen];omega)]
     rfl
theorem Znj {c:CS} {s:St} (h:Rel c s):∀ (ws:List Zty) (fs:List FnR),Zcv c fs (ws.map fun w=>⟨w.line,w.fn,w.pl,w.word,!w.jump⟩)=(match Zpk s fs ws with | .ok fs' => .ok fs' | .error n => .error (n:Int))
 | [],fs=>rfl
 | w::r,fs=>by
   rw [List.map_cons,Zcv,Zpk,Zwv h w]
   cases hf:Zzv s w with
   | none=>rfl
   | some n =>
     simp only [Option.map_some,Int.toNat_natCast]
     exact Znj h r _
theorem Zfj (t:Txt):Jo t=(match Zmo TT (fun p=>Jv p.1 p.2.1.length p.2.2) t with | .ok p => .ok p | .error (y,k) => .error (y,(k:Int))):=by
 unfold Jo Zmo
 by_cases hl:65536<t.length
 · rw [if_pos hl,if_pos hl];rfl
 · rw [if_neg hl,if_neg hl]
   have hb:=Zjp (Zat t) C0 St0 1 Zuu
   cases he:Zbp TT St0 1 (Zat t) with
   | error e =>
     rw [he] at hb
     obtain ⟨y,k⟩:=e
     simp only [] at hb
     rw [show ((1:Nat):Int)=1 from rfl] at hb
     rw [hb]
   | ok s =>
     rw [he] at hb
     obtain ⟨c,hb,hr⟩:=hb
     rw [show ((1:Nat):Int)=1 from rfl] at hb
     rw [hb]
     simp only []
     have hf:=Znj hr s.wants c.funcs
     rw [<- hr.blk,hr.funcs] at hf
     rw [hr.funcs,hf]
     cases Zpk s s.funcs s.wants with
     | error n=>rfl
     | ok fs =>
       simp only []
       rw [hr.mem,hr.data]
       by_cases h0:Jv s.mem s.data.length fs=0
       · rw [if_pos h0,if_pos h0]
       · rw [if_neg h0,if_neg h0];rfl
def Yfy:Txt:=[102,117,110,99,32,109,97,105,110,32,48,32,48,32,49,10,114,101,116]
def Yfd:Txt:=[109,101,109,111,114,121,32,48,10,102,117,110,99,32,102,48,32,48,32,48,32,49,10,9,114,101,116,10]
theorem Zqz (n:Nat) (h:n<10):Lib.itoa (n:Int)=[UInt8.ofNat (48+n)]:=by
 unfold Lib.itoa
 rw [if_neg (by omega),Int.toNat_natCast,Lib.decDigits,dif_pos h]
theorem Ygi:Lib.itoa 0=[48]:=Zqz 0 (by decide)
theorem Ygh:Lib.itoa 1=[49]:=Zqz 1 (by decide)
theorem Zzk:Jo Yfy = .ok oneP:=by
 rw [Zfj]
 have:Zmo TT (fun p=>Jv p.1 p.2.1.length p.2.2) Yfy = .ok oneP:=by kernel_rfl
 rw [this]
theorem Zwd:Zfi oneP=Yfd:=by
 have k1:Zlj 18=0:=rfl
 have k2:Zsx 18=[114,101,116]:=rfl
 simp [Zfi,oneP,Zci,Zaj,fnT,Xi,Jl,plT,Zgw,Zad,Zgj,Zch,Ygi,Ygh,k1,k2,List.range_succ,Yfd]
theorem Zzj:Zjl oneP = .ok Yfd:=by
 have h0:Jv 0 0 [(0,0,1,[(18,0)])]=0:=by kernel_rfl
 have:=Yaw (mem:=0) (d:=[]) (fs:=[(0,0,1,[(18,0)])]) h0 (by have:=Zwd;unfold oneP at this;rw [this];decide)
 rw [<- Zwd]
 exact this
theorem Ycy (F k:Nat) (w:World) (hW:LibW w) (hF:Zcg w w.heap.size (some ⟨F,0,none⟩) oneP.2.2):Calls Tryz.prog 18 #[.agg #[.int .i64 0,.slice none 0 0,.slice (some ⟨F,0,none⟩) 1 k]] w fun e w'=>e = .returned (.tuple #[.string ⟨#[109,101,109,111,114,121,32,48,10,102,117,110,99,32,102,48,32,48,32,48,32,49,10,9,114,101,116,10]⟩,.int .i64 0])/\w.grownBy w' none:=by
 have h:=Zve 0 [] oneP.2.2 none (some ⟨F,0,none⟩) 0 k w.heap.size w hW (Nat.le_refl _) (fun h0=>absurd h0 (by simp)) hF (by simp) (by
  intro f hf x hx
  simp [oneP] at hf
  subst hf
  simp at hx
  subst hx
  exact ⟨by decide,by decide⟩)
 have e:Zjl (0,[],oneP.2.2) = .ok Yfd:=Zzj
 rw [e] at h
 exact h
theorem Ycx (pD pF:Option Addr) (cD cF n m F k:Nat) (w:World) (h:Zcg w n pF oneP.2.2) (h2:Zcg w m (some ⟨F,0,none⟩) oneP.2.2):Calls Tryz.prog 15 #[.agg #[.int .i64 0,.slice pD 0 cD,.slice pF 1 cF],.agg #[.int .i64 0,.slice none 0 0,.slice (some ⟨F,0,none⟩) 1 k]] w fun e w'=>e = .returned (.bool true)/\w.grownBy w' none:=by
 have:=Zye oneP oneP pD none pF (some ⟨F,0,none⟩) cD 0 cF k n m w (by decide) (by intro x hx;simp [oneP] at hx;subst hx;decide) (fun h0=>absurd h0 (by simp [oneP])) (fun h0=>absurd h0 (by simp [oneP])) h h2
 rw [Zol] at this
 exact this
def kn3:Nat->Nat
 | 0=>14
 | 1=>15
 | 2=>16
 | 3=>17
 | 4=>18
 | 5=>19
 | 6=>20
 | 7=>21
 | 8=>22
 | 9=>23
 | 10=>24
 | 11=>25
 | 12=>26
 | 13=>27
 | 14=>28
 | 15=>0
 | _=>5000
theorem Zac:∀ i,i<16->∀ j,j<16->j≠i->kn3 j≠kn3 i:=by decide
theorem Zmw (i:Nat) (h:i<16):i=0\/i=1\/i=2\/i=3\/i=4\/i=5\/i=6\/i=7\/i=8\/i=9\/i=10\/i=11\/i=12\/i=13\/i=14\/i=15:=by omega
theorem Zli (j:Nat) (hj:j∈[1,2,3,4]):∀ i,i<16->kn3 i≠j:=by revert j;decide
def Zir (q cD cF:Nat) (pD pF:Option Addr) (F2:Nat) (k2:Nat):Nat->Value
 | 0 => .nilIface
 | 1 => .bool true
 | 2 => .bool true
 | 3 => .int .i64 0
 | 4 => .bool true
 | 5 => .bool true
 | 6 => .bool true
 | 7 => .agg #[.int .i64 0,.slice pD 0 cD,.slice pF 1 cF]
 | 8 => .agg #[.int .i64 0,.slice none 0 0,.slice (some ⟨F2,0,none⟩) 1 k2]
 | 9 => .bool true
 | 10 => .bool true
 | 11 => .bool true
 | 12 => .string ⟨#[109,101,109,111,114,121,32,48,10,102,117,110,99,32,102,48,32,48,32,48,32,49,10,9,114,101,116,10]⟩
 | 13 => .bool true
 | 14 => .bool true
 | 15 => .bool true
 | _=>undef
def Yhc (q cD cF:Nat) (pD pF:Option Addr) (F2:Nat) (k2:Nat):Nat->World->Prop
 | 8=>fun w9=>∃ n,Zcg w9 n (some ⟨F2,0,none⟩) oneP.2.2
 | 9=>fun _=>True
 | _=>fun _=>True
theorem Yff {q cD cF:Nat} {pD pF:Option Addr} {F2:Nat} {k2:Nat} {F22:Nat} {k22:Nat} {l:Array Bool} (hcl:∀ p∈([(1,0),(2,1),(3,2),(4,3),(4,2),(5,2),(5,4),(6,5),(7,6),(8,6),(9,7),(9,8),(9,6),(10,6),(10,9),(11,10),(12,11),(13,12),(13,11),(14,11),(14,13),(15,14)]:List (Nat × Nat)),l.getD (Prod.fst p) false=true->l.getD (Prod.snd p) false=true) (hun:l.getD 8 false=false):∀ i,i<16->l.getD i false=true->kn3 i<29->Zir q cD cF pD pF F22 k22 i=Zir q cD cF pD pF F2 k2 i:=by
 intro i hi hl _
 rcases Zmw i hi with rfl|rfl|rfl|rfl|rfl|rfl|rfl|rfl|rfl|rfl|rfl|rfl|rfl|rfl|rfl|rfl
 · rfl
 · rfl
 · rfl
 · rfl
 · rfl
 · rfl
 · rfl
 · rfl
 · exact Zm (hl) hun
 · rfl
 · rfl
 · rfl
 · rfl
 · rfl
 · rfl
 · rfl
theorem Yfe {q cD cF:Nat} {pD pF:Option Addr} {F2:Nat} {k2:Nat}  {l:Array Bool} (hcl:∀ p∈([(1,0),(2,1),(3,2),(4,3),(4,2),(5,2),(5,4),(6,5),(7,6),(8,6),(9,7),(9,8),(9,6),(10,6),(10,9),(11,10),(12,11),(13,12),(13,11),(14,11),(14,13),(15,14)]:List (Nat × Nat)),l.getD (Prod.fst p) false=true->l.getD (Prod.snd p) false=true) (hun:l.getD 9 false=false):∀ i,i<16->l.getD i false=true->kn3 i<29->Zir q cD cF pD pF F2 k2 i=Zir q cD cF pD pF F2 k2 i:=by
 intro i hi hl _
 rcases Zmw i hi with rfl|rfl|rfl|rfl|rfl|rfl|rfl|rfl|rfl|rfl|rfl|rfl|rfl|rfl|rfl|rfl
 · rfl
 · rfl
 · rfl
 · rfl
 · rfl
 · rfl
 · rfl
 · rfl
 · rfl
 · rfl
 · rfl
 · rfl
 · rfl
 · rfl
 · rfl
 · rfl
theorem Zwc (w:World) (hW:LibW w):Calls Tryz.prog 11 #[] w fun e w'=>e = .returned (.bool true)/\w.grownBy w' none:=by
 have PA0:=Zhq Yfy w hW
 rw [Zzk] at PA0
 have PA:=Hq PA0
 have LW:=Hq hW
 clear PA0 hW
 have htx:bs Yfy=⟨#[102,117,110,99,32,109,97,105,110,32,48,32,48,32,49,10,114,101,116]⟩:=rfl
 rw [htx] at PA
 go_enter Tryz.func11,Tryz.ntmps11
 go_upto_region 2 with (go_at_call 12;refine PA.out.mono ?_;rintro e w1 ⟨⟨D,F,cv,rfl,hown⟩,hg1⟩;obtain ⟨pD,cD,hvD⟩:=Zk hown.dt;obtain ⟨pF,cF,hvF⟩:=Zk hown.fr;rw [Jf] at hvD;simp only [oneP,List.length_nil,List.length_cons] at hvD hvF;subst hvD;subst hvF;have OW:=Hq hown;have G1:=Hq hg1;clear hown hg1)
 have BX:=Hq (heap_alloc_new w1 (.cells #[.int .i64 0,.slice pD 0 cD,.slice pF 1 cF] 26))
 have FP:=Hq (Xl (Zfk (fs:=oneP.2.2) OW.out) (Ga w1 (.cells #[.int .i64 0,.slice pD 0 cD,.slice pF 1 cF] 26) none) (by simp))
 have G2:=Hq (Za G1.out (Ga w1 (.cells #[.int .i64 0,.slice pD 0 cD,.slice pF 1 cF] 26) none))
 generalize w1.alloc (.cells #[.int .i64 0,.slice pD 0 cD,.slice pF 1 cF] 26)=w2 at BX FP G2 ⊢
 clear OW PA
 obtain ⟨q,hq⟩:∃ x,w1.heap.size=x:=⟨_,rfl⟩
 rw [hq] at BX FP ⊢
 clear hq G1
 have bt:∀ (W:World) (p:Option Addr),Zdq W p []:=fun W p h0=>absurd h0 (by simp)
 have BT:=Hq bt
 have htx2:bs Yfd=⟨#[109,101,109,111,114,121,32,48,10,102,117,110,99,32,102,48,32,48,32,48,32,49,10,9,114,101,116,10]⟩:=rfl
 have HT2:=Hq htx2
 clear bt htx2 htx
 go_upto_region 3 with (first
  | (go_at_call 22;refine (Zqo _).mono ?_;rintro e w3 ⟨⟨F1,k1,rfl,hf3⟩,hg3⟩;have F3:=Hq hf3;have G3:=Hq hg3;clear hf3 hg3)
  | (go_at_call 18;refine (Ycy F1 k1 w3 (Zq LW.out (Za G2.out G3.out)) F3.out).mono ?_;rintro e w4 ⟨rfl,hg4⟩;have G4:=Hq hg4;clear hg4))
 have G24:=Hq (Za G3.out G4.out)
 have FP4:=Hq (Xl FP.out G24.out (by simp))
 have BX4:=Hq (Zh BX.out G24.out (by simp))
 (try rename_i K3 hK3)
 refine Yw (n:=16) (J:=fun a0 l a1 w1=>∃ (F2:Nat) (k2:Nat),RJ a0 29 16 kn3 (Zir q cD cF pD pF F2 k2) l a1/\Zbj 16 16 0 [(1,0),(2,1),(3,2),(4,3),(4,2),(5,2),(5,4),(6,5),(7,6),(8,6),(9,7),(9,8),(9,6),(10,6),(10,9),(11,10),(12,11),(13,12),(13,11),(14,11),(14,13),(15,14)] [] (fun w9=>World.grownBy w4.drew w9 none) (fun _=>True) (Yhc q cD cF pD pF F2 k2) (fun _=>True) l w1) (by kernel_rfl) rfl (Xm (by kernel_rfl)) (fun l a1 w1 h=>by obtain ⟨_,_,h,_⟩:=h;exact h.sz) ⟨0,0,Yv rfl,Yb (Zd _ _) (True.intro)⟩ ?step ?fin
 case step =>
  intro l a1 w' i hJJ hi hin
  obtain ⟨F2,k2,hJ,hW⟩:=hJJ
  have hun:l.getD i false=false:=getD_both (mem_ready.1 hi).1
  have hns:=Jb hW hin hun
  have hg:=hW.g hns
  have BQ':=Zh BX4.out (Za (Zf (Zd w4 none)) hg) (by simp)
  have lq:=(Array.getElem?_eq_some_iff.1 BQ').1
  rcases Zmw i hin with rfl|rfl|rfl|rfl|rfl|rfl|rfl|rfl|rfl|rfl|rfl|rfl|rfl|rfl|rfl|rfl
  · have e2:a1.tmps.getD 2 undef = .nilIface:=hJ.un 2 (fun i hi _=>Zli 2 (by decide) i hi)
    exact Zg (Zc hJ hW hi hun rfl (by rfl) rfl (by decide) (by decide) (Zac _ (by decide)) (w':=w') (by simp [execOp,resolve,invoke,builtin,Act.eval,e2,lq,go_sem,Zir]) (⟨by decide,by kernel_rfl,True.intro⟩)) (fun a9 w9 h9=>⟨F2,k2,h9⟩)
  · have e14:a1.tmps.getD 14 undef = .nilIface:=(Ze hJ hi 0 (by kernel_rfl))
    exact Zg (Zc hJ hW hi hun rfl (by rfl) rfl (by decide) (by decide) (Zac _ (by decide)) (w':=w') (by simp [execOp,resolve,invoke,builtin,Act.eval,e14,lq,go_sem,Zir]) (⟨by decide,by kernel_rfl,True.intro⟩)) (fun a9 w9 h9=>⟨F2,k2,h9⟩)
  · have e15:a1.tmps.getD 15 undef = .bool true:=(Ze hJ hi 1 (by kernel_rfl))
    exact Zg (Zc hJ hW hi hun rfl (by rfl) rfl (by decide) (by decide) (Zac _ (by decide)) (w':=w') (by simp [execOp,resolve,invoke,builtin,Act.eval,e15,lq,go_sem,Zir]) (⟨by decide,by kernel_rfl,True.intro⟩)) (fun a9 w9 h9=>⟨F2,k2,h9⟩)
  · have e4:a1.tmps.getD 4 undef = .int .i64 0:=hJ.un 4 (fun i hi _=>Zli 4 (by decide) i hi)
    have eg:a1.tmps.getD 16 undef = .bool true:=(Ze hJ hi 2 (by kernel_rfl))
    exact Zg (Zc hJ hW hi hun rfl (Zdr (k:=2) (d:=16) (b:=true) rfl rfl (by rw [hJ.ts];decide) eg) rfl (by decide) (by decide) (Zac _ (by decide)) (w':=w') (by simp [execOp,resolve,invoke,builtin,Act.eval,e4,lq,go_sem,Zir]) (⟨by decide,by kernel_rfl,True.intro⟩)) (fun a9 w9 h9=>⟨F2,k2,h9⟩)
  · have e17:a1.tmps.getD 17 undef = .int .i64 0:=(Ze hJ hi 3 (by kernel_rfl))
    have eg:a1.tmps.getD 16 undef = .bool true:=(Ze hJ hi 2 (by kernel_rfl))
    exact Zg (Zc hJ hW hi hun rfl (Zdr (k:=2) (d:=16) (b:=true) rfl rfl (by rw [hJ.ts];decide) eg) rfl (by decide) (by decide) (Zac _ (by decide)) (w':=w') (by simp [execOp,resolve,invoke,builtin,Act.eval,e17,lq,go_sem,Zir]) (⟨by decide,by kernel_rfl,True.intro⟩)) (fun a9 w9 h9=>⟨F2,k2,h9⟩)
  · have e16:a1.tmps.getD 16 undef = .bool true:=(Ze hJ hi 2 (by kernel_rfl))
    have e18:a1.tmps.getD 18 undef = .bool true:=(Ze hJ hi 4 (by kernel_rfl))
    exact Zg (Zc hJ hW hi hun rfl (by rfl) rfl (by decide) (by decide) (Zac _ (by decide)) (w':=w') (by simp [execOp,resolve,invoke,builtin,Act.eval,e16,e18,lq,go_sem,Zir]) (⟨by decide,by kernel_rfl,True.intro⟩)) (fun a9 w9 h9=>⟨F2,k2,h9⟩)
  · have e19:a1.tmps.getD 19 undef = .bool true:=(Ze hJ hi 5 (by kernel_rfl))
    exact Zg (Zc hJ hW hi hun rfl (by rfl) rfl (by decide) (by decide) (Zac _ (by decide)) (w':=w') (by simp [execOp,resolve,invoke,builtin,Act.eval,e19,lq,go_sem,Zir]) (⟨by decide,by kernel_rfl,True.intro⟩)) (fun a9 w9 h9=>⟨F2,k2,h9⟩)
  · have e1:a1.tmps.getD 1 undef = .pointer (some ⟨q,0,none⟩):=hJ.un 1 (fun i hi _=>Zli 1 (by decide) i hi)
    have eg:a1.tmps.getD 20 undef = .bool true:=(Ze hJ hi 6 (by kernel_rfl))
    have h0:=Cq _ _ 0 _ _ _ BQ'
    have h1:=Cq _ _ 1 _ _ _ BQ'
    have h2:=Cq _ _ 2 _ _ _ BQ'
    exact Zg (Zc hJ hW hi hun rfl (Zdr (k:=6) (d:=20) (b:=true) rfl rfl (by rw [hJ.ts];decide) eg) rfl (by decide) (by decide) (Zac _ (by decide)) (w':=w') (by simp [execOp,resolve,invoke,builtin,Act.eval,e1,h0,h1,h2,lq,go_sem,Zir]) (⟨by decide,by kernel_rfl,True.intro⟩)) (fun a9 w9 h9=>⟨F2,k2,h9⟩)
  · have eg:a1.tmps.getD 20 undef = .bool true:=(Ze hJ hi 6 (by kernel_rfl))
    refine Zx rfl (Zdr (k:=6) (d:=20) (b:=true) rfl rfl (by rw [hJ.ts];decide) eg) (by simp [execOp,resolve,invoke,Act.eval,go_sem]) (Calls.mono (Zqo w') (fun e w2 he => ?_))
    obtain ⟨⟨F22,k22,rfl,hf2⟩,hg2⟩:=he
    refine ⟨_,rfl,F22,k22,?_,Zu hW (by decide) hun (by decide) (Zi _ hi (by kernel_rfl)) (Za hg hg2) (fun hne0 hun0 hB0=>hB0) (fun j hj hne hl hcu hF => ?_) (⟨_,hf2⟩)⟩
    · exact Xd (val:=Zir q cD cF pD pF F22 k22) (Xf hJ (Yff hW.cl hun)) (by decide) (by decide) (Zac _ (by decide))
    · rcases Zmw j hj with rfl|rfl|rfl|rfl|rfl|rfl|rfl|rfl|rfl|rfl|rfl|rfl|rfl|rfl|rfl|rfl
      · exact True.intro
      · exact True.intro
      · exact True.intro
      · exact True.intro
      · exact True.intro
      · exact True.intro
      · exact True.intro
      · exact True.intro
      · exact absurd rfl hne
      · exact Zm (hW.cl (9,8) (by decide) (hl)) hun
      · exact True.intro
      · exact True.intro
      · exact True.intro
      · exact True.intro
      · exact True.intro
      · exact True.intro
  · have e21:a1.tmps.getD 21 undef = .agg #[.int .i64 0,.slice pD 0 cD,.slice pF 1 cF]:=(Ze hJ hi 7 (by kernel_rfl))
    have e22:a1.tmps.getD 22 undef = .agg #[.int .i64 0,.slice none 0 0,.slice (some ⟨F2,0,none⟩) 1 k2]:=(Ze hJ hi 8 (by kernel_rfl))
    obtain ⟨nq,hfq⟩:=hW.f hns 8 (by decide) (Zb hi 8 (by kernel_rfl)) (Zcc (by decide))
    have eg:a1.tmps.getD 20 undef = .bool true:=(Ze hJ hi 6 (by kernel_rfl))
    refine Zx rfl (Zdr (k:=6) (d:=20) (b:=true) rfl rfl (by rw [hJ.ts];decide) eg) (by simp [execOp,resolve,invoke,Act.eval,e21,e22,go_sem]) (Calls.mono (Ycx pD pF cD cF _ nq F2 k2 w' (Xl FP4.out (Za (Zf (Zd w4 none)) hg) (by simp)) hfq) (fun e w2 he => ?_))
    obtain ⟨rfl,hg2⟩:=he
    refine ⟨_,rfl,F2,k2,?_,Zu hW (by decide) hun (by decide) (Zi _ hi (by kernel_rfl)) (Za hg hg2) (fun hne0 hun0 hB0=>hB0) (fun j hj hne hl hcu hF => ?_) (True.intro)⟩
    · exact Xd (val:=Zir q cD cF pD pF F2 k2) (Xf hJ (Yfe hW.cl hun)) (by decide) (by decide) (Zac _ (by decide))
    · rcases Zmw j hj with rfl|rfl|rfl|rfl|rfl|rfl|rfl|rfl|rfl|rfl|rfl|rfl|rfl|rfl|rfl|rfl
      · exact True.intro
      · exact True.intro
      · exact True.intro
      · exact True.intro
      · exact True.intro
      · exact True.intro
      · exact True.intro
      · exact True.intro
      · exact hF.imp fun n h=>Xl h hg2 (by simp)
      · exact absurd rfl hne
      · exact True.intro
      · exact True.intro
      · exact True.intro
      · exact True.intro
      · exact True.intro
      · exact True.intro
  · have e20:a1.tmps.getD 20 undef = .bool true:=(Ze hJ hi 6 (by kernel_rfl))
    have e23:a1.tmps.getD 23 undef = .bool true:=(Ze hJ hi 9 (by kernel_rfl))
    exact Zg (Zc hJ hW hi hun rfl (by rfl) rfl (by decide) (by decide) (Zac _ (by decide)) (w':=w') (by simp [execOp,resolve,invoke,builtin,Act.eval,e20,e23,lq,go_sem,Zir]) (⟨by decide,by kernel_rfl,True.intro⟩)) (fun a9 w9 h9=>⟨F2,k2,h9⟩)
  · have e24:a1.tmps.getD 24 undef = .bool true:=(Ze hJ hi 10 (by kernel_rfl))
    exact Zg (Zc hJ hW hi hun rfl (by rfl) rfl (by decide) (by decide) (Zac _ (by decide)) (w':=w') (by simp [execOp,resolve,invoke,builtin,Act.eval,e24,lq,go_sem,Zir]) (⟨by decide,by kernel_rfl,True.intro⟩)) (fun a9 w9 h9=>⟨F2,k2,h9⟩)
  · have e3:a1.tmps.getD 3 undef = .string ⟨#[109,101,109,111,114,121,32,48,10,102,117,110,99,32,102,48,32,48,32,48,32,49,10,9,114,101,116,10]⟩:=hJ.un 3 (fun i hi _=>Zli 3 (by decide) i hi)
    have eg:a1.tmps.getD 25 undef = .bool true:=(Ze hJ hi 11 (by kernel_rfl))
    exact Zg (Zc hJ hW hi hun rfl (Zdr (k:=11) (d:=25) (b:=true) rfl rfl (by rw [hJ.ts];decide) eg) rfl (by decide) (by decide) (Zac _ (by decide)) (w':=w') (by simp [execOp,resolve,invoke,builtin,Act.eval,e3,lq,go_sem,Zir]) (⟨by decide,by kernel_rfl,True.intro⟩)) (fun a9 w9 h9=>⟨F2,k2,h9⟩)
  · have e26:a1.tmps.getD 26 undef = .string ⟨#[109,101,109,111,114,121,32,48,10,102,117,110,99,32,102,48,32,48,32,48,32,49,10,9,114,101,116,10]⟩:=(Ze hJ hi 12 (by kernel_rfl))
    have eg:a1.tmps.getD 25 undef = .bool true:=(Ze hJ hi 11 (by kernel_rfl))
    exact Zg (Zc hJ hW hi hun rfl (Zdr (k:=11) (d:=25) (b:=true) rfl rfl (by rw [hJ.ts];decide) eg) rfl (by decide) (by decide) (Zac _ (by decide)) (w':=w') (by simp [execOp,resolve,invoke,builtin,Act.eval,e26,lq,go_sem,Zir]) (⟨by decide,by kernel_rfl,True.intro⟩)) (fun a9 w9 h9=>⟨F2,k2,h9⟩)
  · have e25:a1.tmps.getD 25 undef = .bool true:=(Ze hJ hi 11 (by kernel_rfl))
    have e27:a1.tmps.getD 27 undef = .bool true:=(Ze hJ hi 13 (by kernel_rfl))
    exact Zg (Zc hJ hW hi hun rfl (by rfl) rfl (by decide) (by decide) (Zac _ (by decide)) (w':=w') (by simp [execOp,resolve,invoke,builtin,Act.eval,e25,e27,lq,go_sem,Zir]) (⟨by decide,by kernel_rfl,True.intro⟩)) (fun a9 w9 h9=>⟨F2,k2,h9⟩)
  · have e28:a1.tmps.getD 28 undef = .bool true:=(Ze hJ hi 14 (by kernel_rfl))
    exact Zg (Zc hJ hW hi hun rfl (by rfl) rfl (by decide) (by decide) (Zac _ (by decide)) (w':=w') (by simp [execOp,resolve,invoke,builtin,Act.eval,e28,lq,go_sem,Zir]) (⟨by decide,by kernel_rfl,True.intro⟩)) (fun a9 w9 h9=>⟨F2,k2,h9⟩)
 case fin =>
  intro l9 a1 w9 hJJ hl9
  obtain ⟨F2,k2,hJ,hW9⟩:=hJJ
  have hg9:=hW9.g (Jx hW9)
  have hput:=Xk hJ rfl hl9 (fun i j h1 h2 h3=>Zac j h2 i h1 h3)
  subst hput
  clear hJ hW9 hl9
  (try refine hK3 _ _ ?_)
  simp only [Je,kn3,Zir,Act.put,List.setIfInBounds_toArray,List.set_cons_zero,List.set_cons_succ]
  have GG:=Hq (Za G2.out (Za G24.out (Za (Zf (Zd w4 none)) hg9)))
  clear hg9
  go_wp2
  go_ret
  exact ⟨rfl,GG.out⟩
theorem Zet (c:UInt8) (r:Txt):Zat (c::r)=if c.toNat=10 then []::Zat r else (match Zat r with|[]=>[[c]]|l::m=>(c::l)::m):=rfl
theorem Zii:∀ (t m:Txt),Zat (t++10::m)=Zat t++Zat m
 | [],m=>by rw [List.nil_append,Zet,if_pos (by decide)];rfl
 | c::r,m=>by
   have ih:=Zii r m
   rw [List.cons_append,Zet,Zet,ih]
   by_cases h:c.toNat=10
   · rw [if_pos h,if_pos h];rfl
   · rw [if_neg h,if_neg h]
     have hne:=Zpn r
     cases hr:Zat r with
     | nil=>exact absurd hr hne
     | cons l q=>rfl
def nlC (t:Txt):Nat:=t.countP fun c=>c.toNat == 10
theorem Zfw:∀ (t:Txt),(Zat t).length=nlC t+1
 | []=>rfl
 | c::r=>by
   have ih:=Zfw r
   have hne:=Zpn r
   rw [Zet]
   unfold nlC at ih ⊢
   by_cases h:c.toNat=10
   · rw [if_pos h,List.countP_cons_of_pos (by simpa using h),List.length_cons,ih]
   · rw [if_neg h,List.countP_cons_of_neg (by simpa using h)]
     cases hr:Zat r with
     | nil=>exact absurd hr hne
     | cons l q=>rw [hr] at ih;exact ih
theorem Zqq (t:Txt) (k:Nat) (c:UInt8) (h:t[k]? = some c):nlC (t.take (k+1))=nlC (t.take k)+(if c.toNat=10 then 1 else 0):=by
 unfold nlC
 rw [List.take_add_one,h,List.countP_append]
 by_cases e:c.toNat=10
 · simp [e]
 · simp [e]
theorem Yaz (t:Txt) (k:Nat):nlC (t.take k)<=k:=by
 unfold nlC
 exact Nat.le_trans List.countP_le_length (by rw [List.length_take];omega)
theorem Zum {T:Tab} {s:St} {x:Sd} {b:Bool} {line:Nat} {y:Int} (h:Zbv T s x b line = .error y):y=141\/y=142\/y=143:=by
 unfold Zbv at h
 split at h
 · injection h with h;exact Or.inl h.symm
 · split at h
   · injection h with h;exact Or.inr (Or.inr h.symm)
   · split at h
     · cases h
     · cases h
     · cases h
     · split at h
       · injection h with h;exact Or.inr (Or.inl h.symm)
       · cases h
     · split at h
       · injection h with h;exact Or.inr (Or.inl h.symm)
       · simp only at h
         split at h
         · cases h
         · cases h
theorem Zof {T:Tab} {s s':St} {x:Sd} {b:Bool} {line:Nat} (h:Zbv T s x b line = .ok s'):∀ w∈s'.wants,w∈s.wants\/w.line=line:=by
 unfold Zbv at h
 split at h
 · cases h
 · split at h
   · cases h
   · split at h
     · injection h with h;subst h;exact fun w hw=>Or.inl hw
     · injection h with h;subst h;exact fun w hw=>Or.inl hw
     · injection h with h;subst h;exact fun w hw=>Or.inl hw
     · split at h
       · cases h
       · injection h with h;subst h;exact fun w hw=>Or.inl hw
     · split at h
       · cases h
       · simp only at h
         split at h
         · injection h with h;subst h;exact fun w hw=>Or.inl hw
         · injection h with h
           subst h
           intro w hw
           simp only at hw
           split at hw
           · exact Or.inl hw
           · rcases List.mem_append.1 hw with hw|hw
             · exact Or.inl hw
             · simp at hw;subst hw;exact Or.inr rfl
theorem Zvz {T:Tab} {s:St} {l:Txt} {line:Nat} {y:Int} (h:Zit T s l line = .error y):y=141\/y=142\/y=143:=by
 unfold Zit at h
 split at h
 · injection h with h;exact Or.inl h.symm
 · split at h
   · injection h with h;exact Or.inl h.symm
   · exact Zum h
theorem Zpe {T:Tab} {s s':St} {l:Txt} {line:Nat} (h:Zit T s l line = .ok s'):∀ w∈s'.wants,w∈s.wants\/w.line=line:=by
 unfold Zit at h
 split at h
 · cases h
 · split at h
   · cases h
   · exact Zof h
theorem Zjq (T:Tab):∀ (ls:List Txt) (s:St) (n:Nat),(match Zbp T s n ls with
 | .error (y,k)=>(y=141\/y=142\/y=143)/\n<=k/\k<n+ls.length
 | .ok s'=>∀ w∈s'.wants,w∈s.wants\/(n<=w.line/\w.line<n+ls.length))
 | [],s,n=>fun w hw=>Or.inl hw
 | l::r,s,n=>by
   rw [Zbp]
   cases h:Zit T s l n with
   | error y=>exact ⟨Zvz h,Nat.le_refl _,by simp⟩
   | ok s1 =>
     have ih:=Zjq T r s1 (n+1)
     have hw1:=Zpe h
     simp only
     cases h2:Zbp T s1 (n+1) r with
     | error e =>
       obtain ⟨y,k⟩:=e
       rw [h2] at ih
       exact ⟨ih.1,by omega,by have:=ih.2.2;simp only [List.length_cons];omega⟩
     | ok s' =>
       rw [h2] at ih
       intro w hw
       rcases ih w hw with h3|h3
       · rcases hw1 w h3 with h4|h4
         · exact Or.inl h4
         · exact Or.inr ⟨by omega,by simp only [List.length_cons];omega⟩
       · exact Or.inr ⟨by omega,by have:=h3.2;simp only [List.length_cons];omega⟩
theorem Znk {s:St}:∀ (ws:List Zty) (fs:List FnR) (n:Nat),Zpk s fs ws = .error n->∃ w∈ws,w.line=n
 | [],fs,n,h=>by cases h
 | w::r,fs,n,h=>by
   rw [Zpk] at h
   split at h
   · injection h with h;exact ⟨w,by simp,h⟩
   · obtain ⟨w',h1,h2⟩:=Znk r _ n h
     exact ⟨w',List.mem_cons_of_mem _ h1,h2⟩
theorem Zel (T:Tab):∀ (a b:List Txt) (s:St) (n:Nat),Zbp T s n (a++b)=(match Zbp T s n a with | .error e => .error e | .ok s'=>Zbp T s' (n+a.length) b)
 | [],b,s,n=>rfl
 | l::r,b,s,n=>by
   rw [List.cons_append,Zbp,Zbp]
   cases Zit T s l n with
   | error y=>rfl
   | ok s1 =>
     simp only
     rw [Zel T r b s1 (n+1),List.length_cons,show n+(r.length+1)=n+1+r.length by omega]
theorem Zhp {t:Txt} {y n:Int} (h:Jo t = .error (y,n)):y≠0/\0<=n/\n<=(nlC t:Int)+1:=by
 rw [Zfj] at h
 unfold Zmo at h
 split at h
 · rename_i p hp
   cases h
 · rename_i y' k hp
   injection h with h
   injection h with h1 h2
   subst h1;subst h2
   split at hp
   · injection hp with hp;injection hp with h1 h2;subst h1;subst h2;exact ⟨by decide,by omega,by omega⟩
   · have ha:=Zjq TT (Zat t) St0 1
     split at hp
     · rename_i e he
       rw [he] at ha
       injection hp with hp
       subst hp
       simp only at ha
       have hc:=Zfw t
       exact ⟨by omega,by omega,by omega⟩
     · rename_i s he
       rw [he] at ha
       split at hp
       · rename_i m hm
         injection hp with hp;injection hp with h1 h2;subst h1;subst h2
         obtain ⟨w,h1,h2⟩:=Znk _ _ _ hm
         have hc:=Zfw t
         rcases ha w h1 with h3|h3
         · simp [St0] at h3
         · exact ⟨by decide,by omega,by omega⟩
       · simp only at hp
         split at hp
         · cases hp
         · rename_i hne
           injection hp with hp;injection hp with h1 h2;subst h1;subst h2
           exact ⟨hne,by omega,by omega⟩
theorem Zmn {t m:Txt} {y n:Int} (h:Jo t = .error (y,n)) (hn:n≠0) (hy:y≠142) (hl:(t++10::m).length<=65536):Jo (t++10::m) = .error (y,n):=by
 rw [Zfj] at h ⊢
 have hl1:¬ 65536<t.length:=by rw [List.length_append] at hl;omega
 have hl2:¬ 65536<(t++10::m).length:=by omega
 unfold Zmo at h ⊢
 rw [if_neg hl1] at h
 rw [if_neg hl2,Zii,Zel]
 split at h
 · cases h
 · rename_i y' k hp
   injection h with h
   injection h with h1 h2
   subst h1;subst h2
   split at hp
   · rename_i e he
     injection hp with hp
     subst hp
     rw [he]
   · rename_i s he
     exfalso
     split at hp
     · injection hp with hp;injection hp with h1 h2;exact hy h1.symm
     · simp only at hp
       split at hp
       · cases hp
       · injection hp with hp;injection hp with h1 h2
         subst h2
         exact hn rfl
end Go.Proofs.YteciblfmgdlipaaGreatDoor.AS
