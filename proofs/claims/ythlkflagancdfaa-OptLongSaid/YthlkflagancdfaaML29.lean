/-
  Part of a proof: contracts of functions and lemmas, each stated by its own theorem. Conditions: as each theorem states.
-/
import Derived.Test.YthlkflagancdfaaML28
import Derived.Test.YthlkflagancdfaaML12
set_option linter.unusedSimpArgs false
set_option linter.unusedVariables false
set_option maxRecDepth 100000
set_option maxHeartbeats 16000000
namespace Go.Proofs.Ythlkflagancdfaa.OT
open Go.RowKit Go.Great
open Go.Proofs.Ythlkflagancdfaa.CK
theorem Zvf {fs:List FnP} {hs:Nat->List Int} {k:Nat} {f:FnP} (h:fs[k]? = some f):szP (Zhe fs hs (k+1))+szC f.2.2.2=szP (Zhe fs hs k)+szC (Zaw f.2.2.2 (hs k)):=by
 have hg:(Zhe fs hs k)[k]? = some f:=by rw [Zha h,if_neg (Nat.lt_irrefl k)]
 have:=Zwb (g:=Zy f (Zaw f.2.2.2 (hs k))) hg
 rw [Zvg h]
 exact this
theorem Zps (fs:List FnP) (hs:Nat->List Int):∀ k,k<=fs.length->szP (Zhe fs hs k)<=szP fs
 | 0,_=>by rw [Zve];exact Nat.le_refl _
 | k+1,h=>by
   obtain ⟨f,hf⟩:∃ f,fs[k]? = some f:=⟨_,List.getElem?_eq_getElem (by omega)⟩
   have h1:=Zps fs hs k (by omega)
   have h2:=Zvf (hs:=hs) hf
   have h3:=Zye f.2.2.2 (hs k)
   omega
theorem Zlr {fs:List FnP} {hs:Nat->List Int} {i n:Nat} {fn:FnP} (hf:fs[i]? = some fn) (hn:n<fn.2.2.2.length) (hh:hB (hs i) n=false):∀ k,i<k->k<=fs.length->szP (Zhe fs hs k)<szP fs
 | 0,h,_=>by omega
 | k+1,h,hk=>by
   obtain ⟨f,hfk⟩:∃ f,fs[k]? = some f:=⟨_,List.getElem?_eq_getElem (by omega)⟩
   have h2:=Zvf (hs:=hs) hfk
   by_cases e:i=k
   · subst e
     rw [hf] at hfk
     injection hfk with hfk
     subst hfk
     have h1:=Zps fs hs i (by omega)
     have h3:=Zwd hn hh
     omega
   · have h1:=Zlr hf hn hh k (by omega) (by omega)
     have h3:=Zye f.2.2.2 (hs k)
     omega
theorem Ydr (fs:List FnP) (hs:Nat->List Int) (V:List Bool):szP (Zfo fs hs V)<=szP (Zhe fs hs fs.length):=by
 unfold Zfo
 rw [Ypz fun f _=>Ydt V f.2.2.2]
 refine Ypy ?_
 have h:=Zio (Zhe fs hs fs.length) (vB V) fs.length (by rw [Jb];exact Nat.le_refl _)
 have e:(Zhe fs hs fs.length).take fs.length=Zhe fs hs fs.length:=List.take_of_length_le (by rw [Jb];exact Nat.le_refl _)
 rw [e] at h
 exact h
theorem Yck (fs:List FnP) (hs:Nat->List Int) (V:List Bool):(Zfo fs hs V).length=Yo (vB V) fs.length:=by
 unfold Zfo
 rw [List.length_map,Yn _ _ _ (by rw [Jb];exact Nat.le_refl _)]
theorem Zur {hs:Nat->List Int} {V:List Bool}:∀ {r i:Nat} {p:Nat × Nat},Zcn hs V r i=some p->i<=p.1/\p.1<i+r/\(V.getD p.1 false=false\/(p.2<(hs p.1).length/\(hs p.1).getD p.2 0<0))
 | 0,i,p,h=>by cases h
 | r+1,i,p,h=>by
   rw [Zcn] at h
   by_cases hv:V.getD i false=false
   · rw [if_pos hv] at h;injection h with h;subst h;exact ⟨Nat.le_refl _,by simp only [];omega,Or.inl hv⟩
   · rw [if_neg hv] at h
     cases hf:(hs i).findIdx? (fun h=>decide (h<0)) with
     | some n =>
       rw [hf] at h;injection h with h;subst h
       obtain ⟨hn,hd,_⟩:=List.findIdx?_eq_some_iff_getElem.1 hf
       exact ⟨Nat.le_refl _,by simp only [];omega,Or.inr ⟨hn,by rw [List.getD_eq_getElem?_getD,List.getElem?_eq_getElem hn];simpa using hd⟩⟩
     | none =>
       rw [hf] at h
       obtain ⟨h1,h2,h3⟩:=Zur h
       exact ⟨by omega,by omega,h3⟩
theorem Yix {fs:List FnP} {hs:Nat->List Int} {V:List Bool} {p:Nat × Nat} (h:Zcn hs V fs.length 0=some p) (hl:∀ (f:Nat) (fn:FnP),fs[f]? = some fn->(hs f).length=fn.2.2.2.length):szP (Zfo fs hs V)+(Zfo fs hs V).length<szP fs+fs.length:=by
 obtain ⟨_,h2,h3⟩:=Zur h
 have hi:p.1<fs.length:=by omega
 have a1:=Ydr fs hs V
 have a2:=Zps fs hs fs.length (Nat.le_refl _)
 have a3:=Zvd fs hs V
 rcases h3 with h3|⟨h3,h4⟩
 · have:=Yck fs hs V
   have:=Zhk (b:=vB V) hi h3
   omega
 · obtain ⟨fn,hf⟩:∃ f,fs[p.1]? = some f:=⟨_,List.getElem?_eq_getElem hi⟩
   have:=Zlr hf (n:=p.2) (by rw [<- hl _ _ hf];exact h3) (by unfold hB;exact decide_eq_false (Int.not_le.2 h4)) fs.length hi (Nat.le_refl _)
   omega
theorem Zlm {c:List Ins}:∀ {r:List Ins} {n:Nat},(∀ x∈r,jmp x.1=true->((Zfm c x.2.toNat:Nat):Int)=x.2)->Zbo c r n=none
 | [],n,_=>rfl
 | x::r,n,h=>by
   rw [Zbo,if_neg (fun e=>e.2 (h x (List.mem_cons_self ..) e.1))]
   exact Zlm fun y hy=>h y (List.mem_cons_of_mem _ hy)
theorem Zob:∀ {fs:List FnP} {i:Nat},(∀ f∈fs,Zbo f.2.2.2 f.2.2.2 0=none)->Zcy fs i=none
 | [],i,_=>rfl
 | f::r,i,h=>by
   rw [Zcy,h f (List.mem_cons_self ..)]
   exact Zob fun g hg=>h g (List.mem_cons_of_mem _ hg)
theorem Yar {c:List Ins} {y:Ins} (h:y∈Xb c) (hj:jmp y.1=true):∃ x∈c,jmp x.1=true/\y=(x.1,((Zfm c x.2.toNat:Nat):Int)):=by
 unfold Xb reJ at h
 obtain ⟨x,hx,e⟩:=List.mem_map.1 h
 by_cases hjx:jmp x.1=true
 · rw [if_pos hjx] at e
   exact ⟨x,hx,hjx,e.symm⟩
 · rw [if_neg hjx] at e
   subst e
   exact absurd hj hjx
theorem Zvz {fs:List FnP} (h:∀ f∈fs,Zhh f.2.2.2):Zcy (Zau fs) 0=none:=by
 refine Zob fun g hg => ?_
 unfold Zau at hg
 obtain ⟨f,hf,rfl⟩:=List.mem_map.1 hg
 have ok:=h f hf
 show Zbo (Xb f.2.2.2) (Xb f.2.2.2) 0=none
 refine Zlm fun y hy hj => ?_
 obtain ⟨x,hx,hjx,rfl⟩:=Yar hy hj
 obtain ⟨h0,h1⟩:=ok.j x hx hjx
 show ((Zfm (Xb f.2.2.2) ((Zfm f.2.2.2 x.2.toNat:Nat):Int).toNat:Nat):Int)=_
 rw [Int.toNat_natCast,Yas ok.st (by omega)]
theorem Zuf (b:Nat->Bool) {a:Int} (h:InR a):InR ((Yo b a.toNat:Nat):Int):=by
 have:=Zcq b a.toNat
 unfold InR at h ⊢
 omega
theorem Znd {g:Int->Int} {c:List Ins} (h:Zbd c) (hg:∀ x∈c,jmp x.1=true->InR (g x.2)):Zbd (reJ g c):=by
 intro y hy
 unfold reJ at hy
 obtain ⟨x,hx,e⟩:=List.mem_map.1 hy
 by_cases hj:jmp x.1=true
 · rw [if_pos hj] at e;subst e;exact hg x hx hj
 · rw [if_neg hj] at e;subst e;exact h x hx
theorem Zxl {V:List Bool} {c:List Ins} (h:Zbd c):Zbd (Zfb V c):=by
 intro y hy
 unfold Zfb at hy
 obtain ⟨x,hx,e⟩:=List.mem_map.1 hy
 by_cases hj:x.1=17
 · rw [if_pos hj] at e;subst e;exact Zuf (vB V) (h x hx)
 · rw [if_neg hj] at e;subst e;exact h x hx
theorem Yce {c:List Ins} {hs:List Int} (h:Zbd c):Zbd (Zaw c hs):=by
 unfold Zaw
 have h2:Zbd (Jd c (hB hs) c.length):=fun x hx=>h x (Zel hx)
 exact Znd h2 fun x hx _=>Zuf (hB hs) (h2 x hx)
theorem Zuu {c:List Ins} (h:Zbd c) (ok:Zhh c):Zbd (Xb c):=by
 unfold Xb
 refine Znd h fun x hx hj => ?_
 obtain ⟨h0,h1⟩:=ok.j x hx hj
 have h2:=(Zxi ok.st (show x.2.toNat<c.length by omega)).1
 have h3:=ok.l
 unfold InR
 omega
theorem Zrs {fs:List FnP} (h:∀ f∈fs,Zbd f.2.2.2) (ok:∀ f∈fs,Zhh f.2.2.2):∀ f∈Zau fs,Zbd f.2.2.2:=fun g hg=>by
 unfold Zau at hg
 obtain ⟨f,hf,rfl⟩:=List.mem_map.1 hg
 exact Zuu (h f hf) (ok f hf)
theorem Zxm {fs:List FnP} {hs:Nat->List Int} {V:List Bool} (h:∀ f∈fs,Zbd f.2.2.2):∀ f∈Zfo fs hs V,Zbd f.2.2.2:=fun g hg=>by
 unfold Zfo at hg
 obtain ⟨f,hf,rfl⟩:=List.mem_map.1 hg
 refine Zxl ?_
 have hm:=Zel hf
 unfold Zhe at hm
 obtain ⟨i,hi,e⟩:=List.mem_mapIdx.1 hm
 have hmem:=h _ (List.getElem_mem hi)
 rw [if_pos hi] at e
 rw [<- e]
 exact Yce hmem
theorem Ygs (b:BitVec 64):InR b.toInt:=by
 have h1:=BitVec.le_toInt b
 have h2:=BitVec.toInt_lt (x:=b)
 unfold InR
 omega
theorem Zxd {c:List Ins} (h:Zbd c) (n:Nat):InR (Zu c n).2:=by
 by_cases hn:n<c.length
 · exact Zrt h hn
 · unfold Zu
   rw [List.getD_eq_getElem?_getD,List.getElem?_eq_none (by omega)]
   unfold InR
   simp
theorem Yfm {c:List Ins} {n L:Nat} {f:Zaq} (hr:Zbd c) (h:Xn c n L=some f):Zbd f.put:=by
 have z:InR 0:=by unfold InR;omega
 rcases Zew h with h|h|h|h
 · unfold Js at h
   simp only [] at h
   repeat' split at h
   all_goals first
    | (cases h;done)
    | (injection h with h;subst h;intro y hy;simp at hy;done)
    | (injection h with h;subst h;intro y hy;simp at hy;subst hy;exact z)
    | (injection h with h;subst h;intro y hy;simp at hy;subst hy;exact Zxd hr _)
 · unfold Jm at h
   simp only [] at h
   repeat' split at h
   all_goals first
    | (cases h;done)
    | (injection h with h;subst h;intro y hy;simp at hy;done)
    | (injection h with h;subst h;intro y hy;simp at hy;subst hy;exact Zxd hr _)
    | (injection h with h;subst h;intro y hy;simp at hy;subst hy;exact Ygs _)
 · unfold Zde at h
   simp only [] at h
   repeat' split at h
   all_goals first
    | (cases h;done)
    | (injection h with h;subst h;intro y hy;simp at hy;done)
    | (injection h with h;subst h;intro y hy;simp at hy;subst hy;exact Zxd hr _)
 · unfold Zaz at h
   split at h
   · injection h with h;subst h;intro y hy;simp at hy;subst hy;exact z
   · cases h
theorem Zxk {c:List Ins} {n long:Nat} {put:List Ins} (hr:Zbd c) (hp:Zbd put) (hok:Ynu c n long put):Zbd (Zbi c n long put):=by
 unfold Zbi
 have hm:∀ x∈c.take n++put++c.drop (n+long),x∈c\/x∈put:=fun x hx=>by
  rcases List.mem_append.1 hx with hx|hx
  · rcases List.mem_append.1 hx with hx|hx
    · exact Or.inl (List.mem_of_mem_take hx)
    · exact Or.inr hx
  · exact Or.inl (List.mem_of_mem_drop hx)
 refine Znd (fun x hx=>(hm x hx).elim (hr x) (hp x)) fun x hx hj => ?_
 have hb:0<=x.2/\x.2<c.length:=(hm x hx).elim (fun h=>hok.j x h hj) (fun h=>hok.k x h hj)
 obtain ⟨h0,h1⟩:=hb
 unfold Zdo InR
 have h2:=hok.l
 have h3:=hok.p
 have h4:=hok.t
 split
 · omega
 · split <;> omega
def Stp (mem:Int) (nd:Nat) (fs fs':List FnP):Prop:=∃ hs V p what,OkP mem nd fs hs V/\Zbp fs hs V=some (p,what,fs')
def muP (fs:List FnP):Nat:=2*(szP fs+fs.length)+if (Zcy fs 0).isSome then 1 else 0
def InP (fs:List FnP):Prop:=fs.length<=64/\∀ f∈fs,Zbd f.2.2.2
theorem Yfa {mem:Int} {nd:Nat} {fs:List FnP} {hs:Nat->List Int} {V:List Bool} (h:OkP mem nd fs hs V):Zkj fs:=Zqj h.1 (fun fn hm=>h.2.2.1 fn hm)
theorem Zmg {mem:Int} {nd:Nat} {fs:List FnP} {hs:Nat->List Int} {V:List Bool} (h:OkP mem nd fs hs V):∀ (f:Nat) (fn:FnP),fs[f]? = some fn->(hs f).length=fn.2.2.2.length:=fun f fn hf=>by
 obtain ⟨s,_,hi,e⟩:=h.2.2.2.1 f fn hf
 rw [<- e];exact hi.hl
theorem Yli {mem:Int} {nd:Nat} {fs:List FnP} {hs:Nat->List Int} {V:List Bool} (h:OkP mem nd fs hs V) (hd:Zcn hs V fs.length 0=none):∀ f∈fs,Zhh f.2.2.2:=fun f hf=>Zuv (Yfa h) hf (by
 obtain ⟨i,hi,e⟩:=List.getElem_of_mem hf
 have hfi:fs[i]? = some f:=by rw [List.getElem?_eq_getElem hi,e]
 obtain ⟨s,hrun,hinv,hsi⟩:=h.2.2.2.1 i f hfi
 refine Zsq (Yfa h) hf hrun fun n hn2 => ?_
 have:=(Zgi hd i (Nat.zero_le _) (by omega)).2 n (by rw [<- hsi,hinv.hl];exact hn2)
 rw [hsi];exact this)
theorem Zyf {mem:Int} {nd:Nat} {fs fs':List FnP} (hi:InP fs) (h:Stp mem nd fs fs'):InP fs'/\muP fs'<muP fs:=by
 obtain ⟨hs,V,p,what,ho,hq⟩:=h
 obtain ⟨hn,hr⟩:=hi
 have PO:=Yfa ho
 unfold Zbp at hq
 cases hd:Zcn hs V fs.length 0 with
 | some q =>
   rw [hd] at hq
   simp only [Option.some.injEq,Prod.mk.injEq] at hq
   obtain ⟨-,-,rfl⟩:=hq
   have h1:=Yix hd (Zmg ho)
   refine ⟨⟨Nat.le_trans (Zvd _ _ _) hn,Zxm hr⟩,?_⟩
   unfold muP
   split <;> split <;> omega
 | none =>
   rw [hd] at hq
   simp only [] at hq
   have hc:=Yli ho hd
   cases hu:Zcy fs 0 with
   | some q =>
     rw [hu] at hq
     simp only [Option.some.injEq,Prod.mk.injEq] at hq
     obtain ⟨-,-,rfl⟩:=hq
     refine ⟨⟨by rw [Zlp];exact hn,Zrs hr hc⟩,?_⟩
     unfold muP
     rw [Zvz hc,hu,Zwa,Zlp]
     simp
   | none =>
     rw [hu] at hq
     simp only [] at hq
     cases hw:Zqb fs 0 with
     | none=>rw [hw] at hq;cases hq
     | some q =>
       obtain ⟨i,n,x⟩:=q
       rw [hw] at hq
       simp only [Option.some.injEq,Prod.mk.injEq] at hq
       obtain ⟨-,-,rfl⟩:=hq
       obtain ⟨fn,_,hf,hnl,hm⟩:=Zlv hw
       rw [Nat.sub_zero] at hf
       have hmem:=List.mem_of_getElem? hf
       have hok:=Zyl PO hmem hnl hm
       have h1:=Ykc hf (Yds (Ylo (Zws _ _) hm hok.t))
       have h2:=Ykm fs i n x
       refine ⟨⟨by rw [h2];exact hn,fun g hg => ?_⟩,?_⟩
       · unfold Ykn at hg
         rw [hf] at hg
         rcases List.mem_or_eq_of_mem_set hg with hg|rfl
         · exact hr g hg
         · exact Zxk (hr fn hmem) (Yfm (hr fn hmem) hm) hok
       · unfold muP
         split <;> split <;> omega
structure Li (s:Int) (k m:Nat) (c:List Ins):Prop where
 len:c.length<=4096
 lt:1+2*m<c.length
 z:c[0]? = some (3,s)
 nu:∀ j,j<m->c[1+2*j]? = some (3,((k+j:Nat):Int))/\c[2+2*j]? = some (20,0)
 op:∀ p x,1+2*m<=p->c[p]? = some x->(x=(0,0)/\p+1<c.length)\/(x.1=14/\(p:Int)<x.2/\x.2<c.length)\/x=(18,0)
theorem Ywy {s:Int} {k m:Nat} {c:List Ins} (L:Li s k m c):Lg (s+Zsf k m) s k m (c.drop (1+2*m)) c:=by
 refine ⟨?_,rfl,L.len,by have:=L.lt;simp;omega,fun i x hx => ?_,fun i x hx _ => ?_⟩
 · apply List.ext_getElem?
   intro p
   rcases p with _|p
   · rw [L.z];rfl
   · rw [List.getElem?_cons_succ]
     by_cases hp:p<2*m
     · rw [List.getElem?_append_left (by rw [Jn];exact hp)]
       obtain ⟨j,hj⟩:∃ j,p=2*j\/p=2*j+1:=⟨p / 2,by omega⟩
       rcases hj with rfl|rfl
       · rw [(Zeh m k j (by omega)).1,show 2*j+1=1+2*j by omega,(L.nu j (by omega)).1]
       · rw [(Zeh m k j (by omega)).2,show 2*j+1+1=2+2*j by omega,(L.nu j (by omega)).2]
     · rw [List.getElem?_append_right (by rw [Jn];omega),Jn,List.getElem?_drop]
       congr 1;omega
 · rw [List.getElem?_drop] at hx
   rcases L.op _ x (by omega) hx with ⟨rfl,h⟩|h|rfl
   · exact Or.inl rfl
   · exact Or.inr (Or.inl ⟨h.1,by have:=h.2.1;exact this,h.2.2⟩)
   · exact Or.inr (Or.inr (Or.inl rfl))
 · rw [List.getElem?_drop] at hx
   rcases L.op _ x (by omega) hx with ⟨rfl,h⟩|h|rfl
   · exact ⟨by decide,fun _=>h⟩
   · exact ⟨by rw [h.1];decide,fun e=>by rw [h.1] at e;exact absurd e (by decide)⟩
   · exact ⟨by decide,fun e=>absurd e (by decide)⟩
section
variable {S s:Int} {k m:Nat} {C c:List Ins}
theorem Zdr {c:List Ins} {p:Nat} {x:Ins} (hc:c[p]? = some x) (h1:x.1≠1) (h2:x.1≠2) (h3:x.1≠18) (h4:jmp x.1=false):Jp c p=[p+1]:=by
 unfold Jp
 rw [hc]
 simp only [jmp,Bool.or_eq_false_iff,beq_eq_false_iff_ne] at h4
 simp only []
 unfold Xm
 rw [if_neg (by rintro (h|h|h) <;> contradiction),if_neg h4.1.1,if_neg (by rintro ⟨h|h,_⟩;exact h4.1.2 h;exact h4.2 h)]
 simp only [List.map_cons,List.map_nil]
 congr 1
theorem Zgt (L:Lg S s k m C c):∀ p,p<=1+2*m->Reach c p
 | 0,_=>Reach.z
 | p+1,h=>by
   have r:=Zgt L p (by omega)
   have hl:=Zpa L
   have hn:=L.ne
   refine Reach.next r (by omega) ?_
   rcases Yry L (p:=p) (by omega) with ⟨_,hc⟩|⟨j,hj,e,hc⟩|⟨j,hj,e,hc⟩|⟨i,x,e,_,hc⟩
   · rw [Zdr hc (by simp) (by simp) (by simp) rfl];simp
   · rw [Zdr hc (by simp) (by simp) (by simp) rfl];simp
   · rw [Zdr hc (by simp) (by simp) (by simp) rfl];simp
   · omega
theorem Xbg (L:Lg S s k m C c) (ha:∀ p,p<c.length->Reach c p):Li s k m c:=by
 have hl:=Zpa L
 have hn:=L.ne
 refine ⟨L.len,by omega,Xbj L,fun j hj=>Ztz L hj,fun p x hp hx => ?_⟩
 have hpl:=(List.getElem?_eq_some_iff.1 hx).1
 obtain ⟨i,rfl⟩:∃ i,p=1+2*m+i:=⟨p - (1+2*m),by omega⟩
 rw [Xbi L] at hx
 obtain ⟨g1,g2⟩:=L.go i x hx (ha _ hpl)
 rcases L.op i x hx with rfl|h|rfl|rfl
 · exact Or.inl ⟨rfl,g2 rfl⟩
 · exact Or.inr (Or.inl h)
 · exact Or.inr (Or.inr rfl)
 · exact absurd rfl g1
theorem Zhm (g:Int->Int) (c:List Ins) (p:Nat):(reJ g c)[p]? = (c[p]?).map fun x=>if jmp x.1=true then (x.1,g x.2) else x:=by
 unfold reJ;rw [List.getElem?_map]
theorem Ytc (L:Lg S s k m C c) {h:List Int} (hb:∀ p,p<c.length->(hB h p=true ↔ Reach c p)):Li s k m (Zaw c h):=by
 have hl:=Zpa L
 have hn:=L.ne
 have hst:∀ p,p<=1+2*m->Yo (hB h) p=p:=by
  intro p
  induction p with
  | zero=>intro _;rfl
  | succ p ih =>
    intro hp
    rw [Yo,ih (by omega),if_pos ((hb p (by omega)).2 (Zgt L p (by omega)))]
 have hlen:(Zaw c h).length=Yo (hB h) c.length:=by unfold Zaw reJ;rw [List.length_map,Yn _ _ _ (Nat.le_refl _)]
 have put:∀ j x,c[j]? = some x->Reach c j->(Zaw c h)[Yo (hB h) j]? = some (if jmp x.1=true then (x.1,((Yo (hB h) x.2.toNat:Nat):Int)) else x):=fun j x hx hr=>by
  have hj:=(List.getElem?_eq_some_iff.1 hx).1
  unfold Zaw
  rw [Zhm,Zub c (hB h) c.length (Nat.le_refl _) j x hj ((hb j hj).2 hr) hx]
  rfl
 have inside:∀ j,j<c.length->Reach c j->Yo (hB h) j<(Zaw c h).length:=fun j hj hr=>by
  have:=put j _ (List.getElem?_eq_getElem hj) hr
  exact (List.getElem?_eq_some_iff.1 this).1
 refine ⟨?_,?_,?_,fun j hj=>⟨?_,?_⟩,fun p x hp hx => ?_⟩
 · have:=Zcq (hB h) c.length
   have:=L.len
   omega
 · have:=inside (1+2*m) (by omega) (Zgt L _ (Nat.le_refl _))
   rw [hst _ (Nat.le_refl _)] at this
   exact this
 · have:=put 0 _ (Xbj L) Reach.z
   rwa [hst 0 (by omega)] at this
 · have:=put (1+2*j) _ (Ztz L hj).1 (Zgt L _ (by omega))
   rwa [hst _ (by omega)] at this
 · have:=put (2+2*j) _ (Ztz L hj).2 (Zgt L _ (by omega))
   rwa [hst _ (by omega)] at this
 · unfold Zaw at hx
   rw [Zhm] at hx
   obtain ⟨y,hy,rfl⟩:=Option.map_eq_some_iff.1 hx
   obtain ⟨j,h1,h2,h3,h4⟩:=Zgu c (hB h) c.length (Nat.le_refl _) p y hy
   have hjm:1+2*m<=j:=by
    by_cases e:1+2*m<=j
    · exact e
    · rw [hst j (by omega)] at h4;omega
   obtain ⟨i,rfl⟩:∃ i,j=1+2*m+i:=⟨j - (1+2*m),by omega⟩
   have hr:=(hb _ h1).1 h2
   have hC:=h3
   rw [Xbi L] at hC
   obtain ⟨g1,g2⟩:=L.go i y hC hr
   rcases L.op i y hC with rfl|⟨q1,q2,q3⟩|rfl|rfl
   · have hlt:=g2 rfl
     have hr2:Reach c (1+2*m+i+1):=Reach.next hr h1 (by rw [Zdr h3 (by decide) (by decide) (by decide) rfl];simp)
     have hin:=inside _ hlt hr2
     rw [Yo,if_pos h2] at hin
     exact Or.inl ⟨rfl,by omega⟩
   · obtain ⟨op,a⟩:=y
     simp only [] at q1 q2 q3
     subst q1
     obtain ⟨t,rfl⟩:=Int.eq_ofNat_of_zero_le (show 0<=a by omega)
     have hr2:Reach c t:=Reach.next hr h1 (by
      unfold Jp
      rw [h3]
      simp [Xm])
     have hin:=inside t (by omega) hr2
     have hlt:=Zpw (b:=hB h) (show 1+2*m+i<t by omega) h2
     refine Or.inr (Or.inl ?_)
     rw [if_pos (show jmp 14=true from rfl)]
     simp only [Int.toNat_natCast]
     exact ⟨trivial,by omega,by omega⟩
   · exact Or.inr (Or.inr rfl)
   · exact absurd rfl g1
end
section
variable {s:Int} {k m:Nat} {c:List Ins}
theorem Ygh (L:Li s k m c) {a b:Nat} (ha:a<c.length) (hm:1+2*m<=a) (h:Zap c a=some b):a<b/\b<c.length:=by
 unfold Zap at h
 have hx:c[a]? = some (Zu c a):=by
  unfold Zu
  rw [List.getD_eq_getElem?_getD,List.getElem?_eq_getElem ha];rfl
 rcases L.op a _ hm hx with ⟨e,h1⟩|⟨e,h1,h2⟩|e
 · rw [e,if_pos rfl] at h
   injection h with h
   omega
 · rw [if_neg (by rw [e];decide),if_pos e] at h
   injection h with h
   omega
 · rw [e,if_neg (by decide),if_neg (by decide)] at h
   cases h
theorem Zwt (L:Li s k m c):∀ (g:Nat) (seen:List Nat) (a:Nat),a<c.length->1+2*m<=a->a<=Zhp c g seen a/\Zhp c g seen a<c.length
 | 0,seen,a,ha,_=>⟨Nat.le_refl _,ha⟩
 | g+1,seen,a,ha,hm=>by
   unfold Zhp
   by_cases h1:a∈seen
   · rw [if_pos h1];exact ⟨Nat.le_refl _,ha⟩
   · rw [if_neg h1]
     cases h:Zap c a with
     | none=>exact ⟨Nat.le_refl _,ha⟩
     | some b =>
       obtain ⟨h2,h3⟩:=Ygh L ha hm h
       have:=Zwt L g (a::seen) b h3 (by omega)
       simp only []
       omega
theorem Ywz (L:Li s k m c) {a:Nat} (ha:a<c.length) (hm:1+2*m<=a):a<=Zfm c a/\Zfm c a<c.length:=Zwt L _ [] a ha hm
theorem Zwu (L:Li s k m c) {a:Nat} (ha:a<c.length) (hm:1+2*m<=a) (h:Zfm c a=a):c[a]? = some (18,0):=by
 have hx:c[a]? = some (Zu c a):=by
  unfold Zu
  rw [List.getD_eq_getElem?_getD,List.getElem?_eq_getElem ha];rfl
 cases hs:Zap c a with
 | some b =>
   obtain ⟨h2,h3⟩:=Ygh L ha hm hs
   unfold Zfm Zhp at h
   rw [if_neg (by simp),hs] at h
   simp only [] at h
   have:=Zwt L c.length [a] b h3 (by omega)
   omega
 | none =>
   unfold Zap at hs
   rcases L.op a _ hm hx with ⟨e,h1⟩|⟨e,h1,h2⟩|e
   · rw [e,if_pos rfl] at hs;cases hs
   · rw [if_neg (by rw [e];decide),if_pos e] at hs;cases hs
   · rw [hx,e]
theorem Ygg (L:Li s k m c):Li s k m (Xb c):=by
 have hl:=Zje c
 unfold Xb at hl ⊢
 refine ⟨by rw [hl];exact L.len,by rw [hl];exact L.lt,by rw [Zhm,L.z];rfl,fun j hj=>⟨by rw [Zhm,(L.nu j hj).1];rfl,by rw [Zhm,(L.nu j hj).2];rfl⟩,fun p x hp hx => ?_⟩
 rw [Zhm] at hx
 obtain ⟨y,hy,rfl⟩:=Option.map_eq_some_iff.1 hx
 rw [hl]
 rcases L.op p y hp hy with ⟨rfl,h1⟩|⟨h0,h1,h2⟩|rfl
 · exact Or.inl ⟨rfl,h1⟩
 · obtain ⟨op,a⟩:=y
   simp only [] at h0 h1 h2
   subst h0
   obtain ⟨t,rfl⟩:=Int.eq_ofNat_of_zero_le (show 0<=a by omega)
   rw [if_pos (show jmp 14=true from rfl)]
   simp only [Int.toNat_natCast]
   have:=Ywz L (a:=t) (by omega) (by omega)
   exact Or.inr (Or.inl ⟨trivial,by omega,by omega⟩)
 · exact Or.inr (Or.inr rfl)
end
section
variable {s:Int} {k m:Nat} {c:List Ins}
theorem Zcd {c:List Ins} {p:Nat} {x:Ins} (h:c[p]? = some x):Zu c p=x:=by
 unfold Zu;rw [List.getD_eq_getElem?_getD,h];rfl
theorem Xbh (L:Li s k m c) {p:Nat} {x:Ins} (hx:c[p]? = some x):x=(3,s)\/(∃ a,x=(3,a))\/x=(20,0)\/(1+2*m<=p/\((x=(0,0)/\p+1<c.length)\/(x.1=14/\(p:Int)<x.2/\x.2<c.length)\/x=(18,0))):=by
 by_cases h0:p=0
 · subst h0;rw [L.z] at hx;injection hx with hx;exact Or.inl hx.symm
 · by_cases h1:p<1+2*m
   · obtain ⟨j,hj⟩:∃ j,p=1+2*j\/p=2+2*j:=⟨(p - 1) / 2,by omega⟩
     rcases hj with e|e
     · subst e;rw [(L.nu j (by omega)).1] at hx;injection hx with hx;exact Or.inr (Or.inl ⟨_,hx.symm⟩)
     · subst e;rw [(L.nu j (by omega)).2] at hx;injection hx with hx;exact Or.inr (Or.inr (Or.inl hx.symm))
   · exact Or.inr (Or.inr (Or.inr ⟨by omega,L.op p x (by omega) hx⟩))
theorem Zty (L:Li s k m c) {t:Nat} (h:t<=1+2*m):Zba c t=false:=by
 unfold Zba
 rw [List.any_eq_false]
 intro x hx
 obtain ⟨p,hp⟩:=List.getElem?_of_mem hx
 rcases Xbh L hp with rfl|⟨a,rfl⟩|rfl|⟨h1,⟨rfl,_⟩|⟨h2,h3,h4⟩|rfl⟩
 · simp [jmp]
 · simp [jmp]
 · simp [jmp]
 · simp [jmp]
 · have:x.2≠(t:Int):=by omega
   simp [this]
 · simp [jmp]
theorem Zjv {c:List Ins} {n:Nat} {x:Ins} (h:c[n]? = some x) (h0:x.1≠0) (h1:jmp x.1=false):Js c n=none:=by
 have e:=Zcd h
 unfold Js
 rw [e]
 have h14:x.1≠14:=fun e=>by rw [e] at h1;cases h1
 simp only []
 rw [if_neg h0,if_neg (fun hh=>h14 hh.1),if_neg (fun hh=>by rw [h1] at hh;cases hh.1),if_neg (fun hh=>h14 hh.1)]
theorem Ypo (a b:BitVec 64):CW.two 20 a b=(a+b,0):=rfl
theorem Ygi (L:Li s k (m+1) c) (hs:InR s) (hk:InR (k:Int)) (hsk:InR (s+k)):Xn c 0 (Jl c 0)=some ⟨3,[(3,s+k)],4⟩:=by
 have hlt:=L.lt
 have h0:=Zcd L.z
 have n0:=L.nu 0 (by omega)
 have h1:=Zcd n0.1
 have h2:=Zcd n0.2
 simp only [Nat.mul_zero,Nat.add_zero] at h1 h2
 have hl:Jl c 0=3:=by
  unfold Jl
  rw [if_pos ⟨by omega,Zty L (by omega)⟩,if_pos ⟨by omega,Zty L (by omega)⟩]
 rw [hl]
 unfold Xn
 rw [Zjv L.z (by simp) rfl]
 have hadd:(wd s+wd (k:Int)).toInt=s+k:=by
  rw [BitVec.toInt_add,Zhu hs,Zhu hk]
  obtain ⟨a1,a2⟩:=hsk
  rw [Int.bmod_eq_of_le (by omega) (by omega)]
 have ho:Jm c 0 3=some ⟨3,[(3,s+k)],4⟩:=by
  unfold Jm
  simp only [Nat.zero_add]
  rw [h0,h1,h2]
  simp only []
  rw [if_neg (by simp),if_neg (by decide),if_neg (show ¬ CW.opn 3=1 from by decide),if_pos ⟨trivial,Nat.le_refl _,show CW.opn 20=2 from by decide⟩,Ypo]
  simp only [if_true,hadd]
 rw [ho]
 rfl
theorem Zma {c:List Ins} {n long:Nat} {put:List Ins} (hn:n+long<=c.length) (p:Nat) :
 (Zbi c n long put)[p]? = ((if p<n then c[p]? else if p<n+put.length then put[p - n]? else c[p - put.length+long]?).map fun x=>if jmp x.1=true then (x.1,Zdo n long put.length x.2) else x):=by
 unfold Zbi
 rw [Zhm]
 congr 1
 by_cases h1:p<n
 · rw [if_pos h1,List.append_assoc,List.getElem?_append_left (by simp;omega),List.getElem?_take_of_lt h1]
 · rw [if_neg h1,List.append_assoc,List.getElem?_append_right (by simp;omega),List.length_take,Nat.min_eq_left (by omega)]
   by_cases h2:p<n+put.length
   · rw [if_pos h2,List.getElem?_append_left (by omega)]
   · rw [if_neg h2,List.getElem?_append_right (by omega),List.getElem?_drop]
     congr 1;omega
theorem Zlz {c:List Ins} {n long:Nat} {put:List Ins} (hn:n+long<=c.length):(Zbi c n long put).length=c.length+put.length - long:=by
 unfold Zbi reJ
 simp
 omega
theorem Ymh (L:Li s k (m+1) c):Li (s+k) (k+1) m (Zbi c 0 3 [(3,s+k)]):=by
 have hlt:=L.lt
 have hlen:=Zlz (c:=c) (n:=0) (long:=3) (put:=[(3,s+(k:Int))]) (by omega)
 have hg:=fun p=>Zma (c:=c) (n:=0) (long:=3) (put:=[(3,s+(k:Int))]) (by omega) p
 simp only [List.length_cons,List.length_nil,Nat.zero_add] at hlen hg
 have hl:=L.len
 refine ⟨by omega,by omega,by rw [hg 0];rfl,fun j hj => ?_,fun p x hp hx => ?_⟩
 · have:=L.nu (j+1) (by omega)
   constructor
   · rw [hg,if_neg (by omega),if_neg (by omega),show 1+2*j - 1+3=1+2*(j+1) by omega,this.1,show k+1+j=k+(j+1) by omega];rfl
   · rw [hg,if_neg (by omega),if_neg (by omega),show 2+2*j - 1+3=2+2*(j+1) by omega,this.2];rfl
 · rw [hg,if_neg (by omega),if_neg (by omega)] at hx
   obtain ⟨y,hy,rfl⟩:=Option.map_eq_some_iff.1 hx
   rw [hlen]
   rcases L.op (p - 1+3) y (by omega) hy with ⟨rfl,h1⟩|⟨h0,h1,h2⟩|rfl
   · exact Or.inl ⟨rfl,by omega⟩
   · obtain ⟨op,a⟩:=y
     simp only [] at h0 h1 h2
     subst h0
     rw [if_pos (show jmp 14=true from rfl)]
     simp only [Zdo]
     rw [if_neg (by omega),if_neg (by omega)]
     exact Or.inr (Or.inl ⟨(by first|rfl|trivial),by omega,by omega⟩)
   · exact Or.inr (Or.inr rfl)
end
section
variable {s:Int} {k:Nat} {c:List Ins}
theorem Ymi (L:Li s k 0 c) {n:Nat} {x:Zaq} (hn:n<c.length) (h1:1<=n) (hm:Xn c n (Jl c n)=some x) :
 (∃ y,c[n]? = some y/\n+1<c.length/\x=⟨1,[],2⟩)\/x=⟨1,[(18,0)],3⟩:=by
 obtain ⟨y,hy⟩:∃ y,c[n]? = some y:=⟨_,List.getElem?_eq_getElem hn⟩
 have hi:=Zcd hy
 have ot:∀ {f:Zaq},y.1≠3->y.1≠13->y.1≠7->y.1≠5->y.1≠6->y.1≠34->y.1≠35->y.1≠8->(Jm c n (Jl c n)).or ((Zde c n (Jl c n)).or (Zaz c n (Jl c n)))=none:=by
  intro f e3 e13 e7 e5 e6 e34 e35 e8
  have a:Jm c n (Jl c n)=none:=by
   unfold Jm
   rw [hi]
   simp only []
   rw [if_pos (Or.inl e3)]
  have b:Zde c n (Jl c n)=none:=by
   unfold Zde
   rw [hi]
   by_cases hl:Jl c n<2
   · rw [if_pos hl]
   · rw [if_neg hl]
     simp only []
     rw [if_neg (by rintro ⟨h|h,_⟩ <;> contradiction),if_neg (fun h=>e7 h.1),if_neg (fun h=>e5 h.1),if_neg (fun h=>e5 h.1),if_neg (by rintro ⟨h|h|h,_⟩ <;> contradiction)]
  have d:Zaz c n (Jl c n)=none:=by
   unfold Zaz
   rw [hi,if_neg (fun h=>e8 h.2.1)]
  rw [a,b,d];rfl
 rcases L.op n y (by omega) hy with ⟨rfl,h2⟩|⟨h0,h2,h3⟩|rfl
 · unfold Xn Js at hm
   rw [hi] at hm
   simp only [if_true] at hm
   injection hm with hm
   exact Or.inl ⟨_,hy,h2,hm.symm⟩
 · obtain ⟨op,a⟩:=y
   simp only [] at h0 h2 h3
   subst h0
   unfold Xn at hm
   rw [ot (f:=x) (by simp) (by simp) (by simp) (by simp) (by simp) (by simp) (by simp) (by simp)] at hm
   unfold Js at hm
   rw [hi] at hm
   simp only [] at hm
   rw [if_neg (by decide)] at hm
   by_cases ha:a=(n:Int)+1
   · rw [if_pos ⟨trivial,ha⟩] at hm
     injection hm with hm
     exact Or.inl ⟨_,hy,by omega,hm.symm⟩
   · rw [if_neg (fun h=>ha h.2),if_neg (fun h=>ha h.2)] at hm
     obtain ⟨t,rfl⟩:=Int.eq_ofNat_of_zero_le (show 0<=a by omega)
     obtain ⟨z,hz⟩:∃ z,c[t]? = some z:=⟨_,List.getElem?_eq_getElem (by omega)⟩
     have hiz:=Zcd hz
     simp only [Int.toNat_natCast] at hm
     rw [hiz] at hm
     rcases L.op t z (by omega) hz with ⟨rfl,_⟩|⟨q,_⟩|rfl
     · rw [if_neg (by simp)] at hm;cases hm
     · rw [if_neg (by rw [q];simp)] at hm;cases hm
     · rw [if_pos ⟨trivial,Or.inl rfl⟩] at hm
       injection hm with hm
       exact Or.inr hm.symm
 · unfold Xn at hm
   rw [ot (f:=x) (by simp) (by simp) (by simp) (by simp) (by simp) (by simp) (by simp) (by simp),Zjv hy (by decide) rfl] at hm
   cases hm
theorem Yru (L:Li s k 0 c) {n:Nat} (h1:1<=n) (hn:n+1<c.length):Li s k 0 (Zbi c n 1 []):=by
 have hlen:=Zlz (c:=c) (n:=n) (long:=1) (put:=[]) (by omega)
 have hg:=fun p=>Zma (c:=c) (n:=n) (long:=1) (put:=[]) (by omega) p
 simp only [List.length_nil,Nat.add_zero,Nat.sub_zero] at hlen hg
 have hl:=L.len
 refine ⟨by omega,by omega,by rw [hg 0,if_pos (by omega),L.z];rfl,fun j hj=>absurd hj (Nat.not_lt_zero _),fun p x hp hx => ?_⟩
 rw [hg] at hx
 rw [hlen]
 by_cases hpn:p<n
 · rw [if_pos hpn] at hx
   obtain ⟨y,hy,rfl⟩:=Option.map_eq_some_iff.1 hx
   rcases L.op p y hp hy with ⟨rfl,h2⟩|⟨h0,h2,h3⟩|rfl
   · exact Or.inl ⟨rfl,by omega⟩
   · obtain ⟨op,a⟩:=y
     simp only [] at h0 h2 h3
     subst h0
     rw [if_pos (show jmp 14=true from rfl)]
     simp only [Zdo]
     refine Or.inr (Or.inl ⟨(by first|rfl|trivial),?_⟩)
     split
     · omega
     · split
       · omega
       · omega
   · exact Or.inr (Or.inr rfl)
 · rw [if_neg hpn,if_neg hpn] at hx
   obtain ⟨y,hy,rfl⟩:=Option.map_eq_some_iff.1 hx
   rcases L.op (p+1) y (by omega) hy with ⟨rfl,h2⟩|⟨h0,h2,h3⟩|rfl
   · exact Or.inl ⟨rfl,by omega⟩
   · obtain ⟨op,a⟩:=y
     simp only [] at h0 h2 h3
     subst h0
     rw [if_pos (show jmp 14=true from rfl)]
     simp only [Zdo]
     rw [if_neg (by omega),if_neg (by omega)]
     exact Or.inr (Or.inl ⟨(by first|rfl|trivial),by omega,by omega⟩)
   · exact Or.inr (Or.inr rfl)
theorem Yrs (L:Li s k 0 c) {n:Nat} (h1:1<=n) (hn:n<c.length):Li s k 0 (Zbi c n 1 [(18,0)]):=by
 have hlen:=Zlz (c:=c) (n:=n) (long:=1) (put:=[(18,0)]) (by omega)
 have hg:=fun p=>Zma (c:=c) (n:=n) (long:=1) (put:=[(18,0)]) (by omega) p
 simp only [List.length_cons,List.length_nil,Nat.zero_add] at hlen hg
 have hl:=L.len
 have hlt:=L.lt
 have pl:∀ a:Int,Zdo n 1 1 a=a:=fun a=>by
  unfold Zdo
  split
  · rfl
  · split <;> omega
 refine ⟨by omega,by omega,by rw [hg 0,if_pos (by omega),L.z];rfl,fun j hj=>absurd hj (Nat.not_lt_zero _),fun p x hp hx => ?_⟩
 rw [hg] at hx
 rw [hlen]
 have go:∀ y,c[p]? = some y->(x=if jmp y.1=true then (y.1,Zdo n 1 1 y.2) else y)->(x=(0,0)/\p+1<c.length+1 - 1)\/(x.1=14/\(p:Int)<x.2/\x.2<(c.length+1 - 1:Nat))\/x=(18,0):=fun y hy e=>by
  rw [pl] at e
  have:x=y:=by rw [e];split <;> rfl
  rw [this]
  simpa using L.op p y hp hy
 by_cases hpn:p<n
 · rw [if_pos hpn] at hx
   obtain ⟨y,hy,e⟩:=Option.map_eq_some_iff.1 hx
   exact go y hy e.symm
 · rw [if_neg hpn] at hx
   by_cases e:p<n+1
   · have:p=n:=by omega
     subst this
     rw [if_pos e] at hx
     simp [jmp] at hx
     exact Or.inr (Or.inr hx.symm)
   · rw [if_neg e,show p - 1+1=p by omega] at hx
     obtain ⟨y,hy,e⟩:=Option.map_eq_some_iff.1 hx
     exact go y hy e.symm
end
theorem Ygj {s:Int} {k:Nat} {c:List Ins} (L:Li s k 0 c):Xn c 0 (Jl c 0)=none:=by
 have hlt:=L.lt
 obtain ⟨y,hy⟩:∃ y,c[1]? = some y:=⟨_,List.getElem?_eq_getElem (by omega)⟩
 have h0:=Zcd L.z
 have h1:=Zcd hy
 have hop:y.1=0\/y.1=14\/y.1=18:=by
  rcases L.op 1 y (by omega) hy with ⟨rfl,_⟩|⟨h,_⟩|rfl
  · exact Or.inl rfl
  · exact Or.inr (Or.inl h)
  · exact Or.inr (Or.inr rfl)
 unfold Xn
 rw [Zjv L.z (by simp) rfl]
 have a:Jm c 0 (Jl c 0)=none:=by
  unfold Jm
  simp only [Nat.zero_add]
  rw [h0,h1]
  simp only []
  by_cases hl:Jl c 0<2
  · rw [if_pos (Or.inr hl)]
  · rw [if_neg (by simp;omega),if_neg (by omega)]
    have ho:CW.opn y.1≠1:=by rcases hop with e|e|e <;> rw [e] <;> decide
    rw [if_neg ho,if_neg (fun h=>by have:=h.1;omega),if_neg (fun h=>by have:=h.2.1;omega),if_neg (fun h=>by have:=h.2;omega),if_neg (fun h=>by have:=h.2;omega)]
 have b:Zde c 0 (Jl c 0)=none:=by
  unfold Zde
  simp only [Nat.zero_add]
  rw [h0,h1]
  by_cases hl:Jl c 0<2
  · rw [if_pos hl]
  · rw [if_neg hl]
    simp only []
    rw [if_neg (fun h=>by have:=h.2;omega),if_neg (fun h=>absurd h.1 (by decide)),if_neg (fun h=>absurd h.1 (by decide)),if_neg (fun h=>absurd h.1 (by decide)),if_neg (by rintro ⟨h|h|h,_⟩ <;> simp at h)]
 have d:Zaz c 0 (Jl c 0)=none:=by
  unfold Zaz
  rw [h0,if_neg (fun h=>absurd h.2.1 (by simp))]
 rw [a,b,d];rfl
theorem Zsk {c:List Ins}:∀ {r:List Ins} {n:Nat},Zbo c r n=none->∀ x∈r,jmp x.1=true->((Zfm c x.2.toNat:Nat):Int)=x.2
 | [],_,_,x,hx,_=>by cases hx
 | y::r,n,h,x,hx,hj=>by
   unfold Zbo at h
   by_cases e:jmp y.1=true/\((Zfm c y.2.toNat:Nat):Int)≠y.2
   · rw [if_pos e] at h;cases h
   · rw [if_neg e] at h
     rcases List.mem_cons.1 hx with rfl|hx
     · by_cases e2:((Zfm c x.2.toNat:Nat):Int)=x.2
       · exact e2
       · exact absurd ⟨hj,e2⟩ e
     · exact Zsk h x hx hj
theorem Yao {c:List Ins} {a l r:Int} (h:Zcy [(a,l,r,c)] 0=none):∀ x∈c,jmp x.1=true->((Zfm c x.2.toNat:Nat):Int)=x.2:=by
 unfold Zcy at h
 cases hu:Zbo c c 0 with
 | some n=>simp only [hu] at h;cases h
 | none=>exact Zsk hu
theorem Zzw:∀ {c:List Ins},(∀ x∈c,∃ s,Jx x.1=some s/\Zvs s.2.1.toNat x.2=true)->Zro c=0
 | [],_=>rfl
 | x::r,h=>by
   obtain ⟨s,h1,h2⟩:=h x (List.mem_cons_self ..)
   unfold Zro
   rw [h1]
   simp only []
   rw [if_pos h2]
   exact Zzw fun y hy=>h y (List.mem_cons_of_mem _ hy)
section
variable {S s:Int} {k m:Nat} {C c:List Ins}
theorem Ygk (L:Lg S s k m C c) {x:Ins} (hx:x∈c):(∃ a,x=(3,a))\/x=(20,0)\/x=(0,0)\/(∃ t:Nat,x=(14,(t:Int))/\t<c.length)\/x=(18,0)\/x=(4,0):=by
 obtain ⟨p,hp⟩:=List.getElem?_of_mem hx
 have hpl:=(List.getElem?_eq_some_iff.1 hp).1
 rcases Yry L hpl with ⟨_,hc⟩|⟨j,hj,e,hc⟩|⟨j,hj,e,hc⟩|⟨i,y,e,hC,hc⟩
 · rw [hp] at hc;injection hc with hc;exact Or.inl ⟨_,hc⟩
 · rw [hp] at hc;injection hc with hc;exact Or.inl ⟨_,hc⟩
 · rw [hp] at hc;injection hc with hc;exact Or.inr (Or.inl hc)
 · rw [hp] at hc;injection hc with hc
   subst hc
   rcases L.op i x hC with h|⟨h1,h2,h3⟩|h|h
   · exact Or.inr (Or.inr (Or.inl h))
   · obtain ⟨op,a⟩:=x
     simp only [] at h1 h2 h3
     subst h1
     obtain ⟨t,rfl⟩:=Int.eq_ofNat_of_zero_le (show 0<=a by omega)
     exact Or.inr (Or.inr (Or.inr (Or.inl ⟨t,rfl,by omega⟩)))
   · exact Or.inr (Or.inr (Or.inr (Or.inr (Or.inl h))))
   · exact Or.inr (Or.inr (Or.inr (Or.inr (Or.inr h))))
theorem Yrv (L:Lg S s k m C c):Tk 0 0 [(0,0,1,c)]:=by
 have hl:=Zpa L
 have hn:=L.ne
 have h4:=L.len
 refine ⟨?_,⟨_,rfl,rfl,rfl⟩,fun fn hf => ?_,fun fn hf => ?_⟩
 · have he:Zro c=0:=Zzw fun x hx=>by
    rcases Ygk L hx with ⟨a,rfl⟩|rfl|rfl|⟨t,rfl,ht⟩|rfl|rfl
    · exact ⟨_,rfl,rfl⟩
    · exact ⟨_,rfl,rfl⟩
    · exact ⟨_,rfl,rfl⟩
    · refine ⟨_,rfl,?_⟩
      show (decide (0<=(t:Int)) && decide ((t:Int)<4096))=true
      simp
      omega
    · exact ⟨_,rfl,rfl⟩
    · exact ⟨_,rfl,rfl⟩
   unfold Zck
   rw [if_neg (by simp)]
   unfold Yhk
   have hf:fnE (0,0,1,c)=0:=by
    unfold fnE
    rw [if_neg (by simp only [];omega)]
    exact he
   rw [if_pos hf]
   rfl
 · obtain rfl:fn=(0,0,1,c):=by simpa using hf
   intro x hx
   rcases Ygk L hx with ⟨a,rfl⟩|rfl|rfl|⟨t,rfl,ht⟩|rfl|rfl
   · rfl
   · rfl
   · rfl
   · unfold opE
     rw [if_pos (Or.inl rfl),if_neg (by simp only [];omega)]
   · rfl
   · rfl
 · obtain rfl:fn=(0,0,1,c):=by simpa using hf
   exact ⟨_,Ygl L⟩
theorem Zkx (L:Lg S s k m C c) {hs:Nat->List Int} {V:List Bool} (ho:OkP 0 0 [(0,0,1,c)] hs V):∀ p,p<c.length->(hB (hs 0) p=true ↔ Reach c p):=by
 obtain ⟨st,hr,hi,e⟩:=ho.2.2.2.1 0 _ rfl
 intro p hp
 have:=Zoc (hs:=hs) (Yrv L) (f:=0) rfl hr (Ygl L) p hp
 rw [e] at this
 unfold hB
 constructor
 · intro h
   have h0:0<=(hs 0).getD p 0:=by simpa using h
   by_cases r:Reach c p
   · exact r
   · rw [this.2 r] at h0;omega
 · intro r
   have h1:=(this.1 r).1
   have h2:=(this.1 r).2
   rw [h1]
   simpa using h2
theorem Yqy {hs:Nat->List Int} {V:List Bool} (ho:OkP 0 0 [(0,0,1,c)] hs V):vB V 0=true:=(ho.2.2.2.2.2 0 (by simp)).2 CRe.refl
theorem Ynn {V:List Bool} {c:List Ins} (h:∀ x∈c,x.1≠17):Zfb V c=c:=by
 unfold Zfb
 conv=>rhs;rw [<- List.map_id c]
 refine List.map_congr_left fun x hx => ?_
 rw [if_neg (h x hx)];rfl
theorem Yrt (L:Li s k m c):∀ x∈c,x.1≠17:=fun x hx=>by
 rcases Ygk (Ywy L) hx with ⟨a,rfl⟩|rfl|rfl|⟨t,rfl,ht⟩|rfl|rfl <;> simp
end
def LgP (S:Int) (fs:List FnP):Prop:=∃ (s:Int) (k m:Nat) (C c:List Ins),fs=[(0,0,1,c)]/\Lg S s k m C c/\0<=s/\S<=1000000000
theorem Zwg:∀ (m k:Nat),0<=Zsf k m
 | 0,_=>Int.le_refl _
 | m+1,k=>by have:=Zwg m (k+1);unfold Zsf;omega
theorem Yiy {c:List Ins} {hs:Nat->List Int} {V:List Bool} (hv:vB V 0=true):Zfo [(0,0,1,c)] hs V=[(0,0,1,Zfb V (Zaw c (hs 0)))]:=by
 simp [Zfo,Zhe,Jd,Zy,hv,List.range_succ]
theorem Zol {c:List Ins}:∀ {r n:Nat},Zid c r n=none->∀ i,n<=i->i<n+r->Xn c i (Jl c i)=none
 | 0,n,_,i,h1,h2=>by omega
 | r+1,n,h,i,h1,h2=>by
   rw [Zef] at h
   cases hm:Xn c n (Jl c n) with
   | some y=>rw [hm] at h;cases h
   | none =>
     rw [hm] at h
     by_cases e:i=n
     · subst e;exact hm
     · exact Zol h i (by omega) (by omega)
theorem Zyi {c:List Ins}:Zqb [(0,0,1,c)] 0=match Zid c c.length 0 with|some (n,x)=>some (0,n,x)|none=>none:=by
 simp only [Zqb]
 cases Zid c c.length 0 <;> rfl
theorem Zze {S s:Int} {k m:Nat} {C c:List Ins} (L:Lg S s k m C c) {hs:Nat->List Int} {V:List Bool} (ho:OkP 0 0 [(0,0,1,c)] hs V) (hd:Zcn hs V ([(0,0,1,c)]:List FnP).length 0=none):Li s k m c:=by
 refine Xbg L fun p hp=>(Zkx L ho p hp).1 ?_
 have h:=(Zgi hd 0 (Nat.le_refl _) (by simp)).2
 have hl:=Zmg ho 0 _ rfl
 unfold hB
 simpa using h p (by rw [hl];exact hp)
theorem Zua {S s:Int} {k m:Nat} {c:List Ins} (L:Li s k m c) (e:s+Zsf k m=S) (h0:0<=s) (hS:S<=1000000000):LgP S [(0,0,1,c)]:=by
 subst e
 exact ⟨s,k,m,_,c,rfl,Ywy L,h0,hS⟩
theorem Yrx {S:Int} {fs fs':List FnP} (h:LgP S fs) (st:Stp 0 0 fs fs'):LgP S fs':=by
 obtain ⟨s,k,m,C,c,rfl,L,hs0,hS⟩:=h
 obtain ⟨hs,V,p,what,ho,hq⟩:=st
 have hv:=Yqy ho
 have hsum:=L.sum
 unfold Zbp at hq
 cases hd:Zcn hs V ([(0,0,1,c)]:List FnP).length 0 with
 | some q =>
   rw [hd] at hq
   simp only [Option.some.injEq,Prod.mk.injEq] at hq
   obtain ⟨-,-,rfl⟩:=hq
   have B:=Ytc L (Zkx L ho)
   rw [Yiy hv,Ynn (Yrt B)]
   exact Zua B hsum hs0 hS
 | none =>
   rw [hd] at hq
   simp only [] at hq
   have LI:=Zze L ho hd
   cases hu:Zcy [(0,0,1,c)] 0 with
   | some q =>
     rw [hu] at hq
     simp only [Option.some.injEq,Prod.mk.injEq] at hq
     obtain ⟨-,-,rfl⟩:=hq
     exact Zua (Ygg LI) hsum hs0 hS
   | none =>
     rw [hu] at hq
     simp only [] at hq
     have hlt:=LI.lt
     rw [Zyi] at hq
     cases hr:Zid c c.length 0 with
     | none=>rw [hr] at hq;cases hq
     | some q =>
       obtain ⟨n,x⟩:=q
       rw [hr] at hq
       simp only [Option.some.injEq,Prod.mk.injEq] at hq
       obtain ⟨-,-,rfl⟩:=hq
       have hrq:Ykn [(0,0,1,c)] 0 n x=[(0,0,1,Zbi c n x.long x.put)]:=rfl
       rw [hrq]
       obtain ⟨_,h2,h3⟩:=Zjj hr
       cases m with
       | succ m =>
         have hnn:=Zwg m (k+1)
         have he:Zsf k (m+1)=(k:Int)+Zsf (k+1) m:=rfl
         have hm:=Ygi LI ⟨by omega,by omega⟩ ⟨by omega,by omega⟩ ⟨by omega,by omega⟩
         rw [show c.length=(c.length - 1)+1 by omega,Zef,hm] at hr
         simp only [Option.some.injEq,Prod.mk.injEq] at hr
         obtain ⟨rfl,rfl⟩:=hr
         exact Zua (Ymh LI) (by omega) (by omega) hS
       | zero =>
         have hn1:1<=n:=by
          rcases Nat.eq_zero_or_pos n with e|e
          · subst e
            exfalso
            have hz:=LI.z
            have hy:∃ y,c[1]? = some y:=⟨_,List.getElem?_eq_getElem (by omega)⟩
            obtain ⟨y,hy⟩:=hy
            rw [Ygj LI] at h3
            cases h3
          · exact e
         rcases Ymi LI (by omega) hn1 h3 with ⟨y,hy,h4,rfl⟩|rfl
         · exact Zua (Yru LI hn1 h4) hsum hs0 hS
         · exact Zua (Yrs LI hn1 (by omega)) hsum hs0 hS
theorem Yxb {S:Int} {fs:List FnP} (h:LgP S fs) {hs:Nat->List Int} {V:List Bool} (ho:OkP 0 0 fs hs V) (hq:Zbp fs hs V=none):fs=[(0,0,1,[(3,S),(18,0)])]:=by
 obtain ⟨s,k,m,C,c,rfl,L,hs0,hS⟩:=h
 have hsum:=L.sum
 unfold Zbp at hq
 cases hd:Zcn hs V ([(0,0,1,c)]:List FnP).length 0 with
 | some q=>rw [hd] at hq;cases hq
 | none =>
   rw [hd] at hq
   simp only [] at hq
   have LI:=Zze L ho hd
   cases hu:Zcy [(0,0,1,c)] 0 with
   | some q=>rw [hu] at hq;cases hq
   | none =>
     rw [hu] at hq
     simp only [] at hq
     rw [Zyi] at hq
     cases hr:Zid c c.length 0 with
     | some q=>rw [hr] at hq;cases hq
     | none =>
       have hno:=fun i hi=>Zol hr i (Nat.zero_le _) (by omega:i<0+c.length)
       have hlt:=LI.lt
       cases m with
       | succ m =>
         exfalso
         have hnn:=Zwg m (k+1)
         have he:Zsf k (m+1)=(k:Int)+Zsf (k+1) m:=rfl
         have hm:=Ygi LI ⟨by omega,by omega⟩ ⟨by omega,by omega⟩ ⟨by omega,by omega⟩
         rw [hno 0 (by omega)] at hm
         cases hm
       | zero =>
         have all:∀ p,1<=p->p<c.length->c[p]? = some (18,0):=fun p h1 h2=>by
          obtain ⟨x,hx⟩:∃ x,c[p]? = some x:=⟨_,List.getElem?_eq_getElem h2⟩
          have hi:=Zcd hx
          have hn:=hno p (by omega)
          rcases LI.op p x (by omega) hx with ⟨rfl,h3⟩|⟨h0,h3,h4⟩|rfl
          · exfalso
            unfold Xn Js at hn
            rw [hi] at hn
            simp only [if_true] at hn
            cases hn
          · exfalso
            obtain ⟨op,a⟩:=x
            simp only [] at h0 h3 h4
            subst h0
            obtain ⟨t,rfl⟩:=Int.eq_ofNat_of_zero_le (show 0<=a by omega)
            have he:Zfm c t=t:=by
             have hun:=Yao hu _ (List.mem_of_getElem? hx) (show jmp 14=true from rfl)
             simp only [Int.toNat_natCast] at hun
             omega
            have hz:=Zcd (Zwu LI (a:=t) (by omega) (by omega) he)
            unfold Xn Js at hn
            rw [hi] at hn
            simp only [Int.toNat_natCast] at hn
            rw [hz] at hn
            rw [if_neg (by decide)] at hn
            by_cases e1:(t:Int)=(p:Int)+1
            · rw [if_pos ⟨trivial,e1⟩] at hn;cases hn
            · rw [if_neg (fun h=>e1 h.2),if_neg (fun h=>e1 h.2),if_pos ⟨trivial,Or.inl rfl⟩] at hn
              cases hn
          · exact hx
         have hlen:c.length=2:=by
          by_cases e:c.length=2
          · exact e
          · exfalso
            have hr2:Reach c 2:=(Zkx L ho 2 (by omega)).1 (by
             have h:=(Zgi hd 0 (Nat.le_refl _) (by simp)).2
             have hl:=Zmg ho 0 _ rfl
             unfold hB
             simpa using h 2 (by rw [hl];simp only [];omega))
            have:∀ p,Reach c p->p<=1:=fun p hp=>by
             induction hp with
             | z=>omega
             | @next q n hq hql hn ih =>
               rcases Nat.eq_zero_or_pos q with e0|e0
               · subst e0
                 rw [Zdr LI.z (by simp) (by simp) (by simp) rfl] at hn
                 simp at hn
                 omega
               · unfold Jp at hn
                 rw [all q e0 hql] at hn
                 simp [Xm] at hn
            have:=this 2 hr2
            omega
         have hc:c=[(3,s),(18,0)]:=by
          apply List.ext_getElem?
          intro i
          match i with
          | 0=>rw [LI.z];rfl
          | 1=>rw [all 1 (by omega) (by omega)];rfl
          | i+2=>rw [List.getElem?_eq_none (by omega)];rfl
         have hs:s=S:=by simp [Zsf] at hsum;exact hsum
         rw [hc,hs]
inductive Stps (mem:Int) (nd:Nat) (fs:List FnP):List FnP->Prop
 | refl:Stps mem nd fs fs
 | step {a b:List FnP}:Stps mem nd fs a->Stp mem nd a b->Stps mem nd fs b
def Zxw (w:World) (mem:Int) (dl:List Int) (fs:List FnP) (e:Ending) (w':World):Prop:=∃ fs',Stps mem dl.length fs fs' /\
 ((w.grownBy w' none/\∃ err f n,e = .returned (.tuple #[Yqv,.int .i64 152])/\Zhf mem dl.length fs' err f n) \/
  (∃ hs V,OkP mem dl.length fs' hs V/\Zbp fs' hs V=none/\Zjb w mem dl fs' e w'))
structure Xcb (w wr:World) (mem:Int) (dl:List Int) (fs fs':List FnP) (pD pF:Option Addr) (cD cF:Nat) (cv:List Value):Prop where
 rc:Stps mem dl.length fs fs'
 ii:InP fs'
 gr:w.grownBy wr none
 x0:wr.heap[w.heap.size]? = some (.cells #[.int .i64 mem,.slice pD dl.length cD,.slice pF fs'.length cF] 25 (0,0))
 x1:wr.heap[w.heap.size+1]? = some (.cells #[.int .i64 0,.slice none 0 0,.slice none 0 0] 25 (0,0))
 ow:Zco wr w.heap.size (.slice pD dl.length cD) (.slice pF fs'.length cF) dl fs' cv
theorem Yef (mem:Int) (dl:List Int) (fs:List FnP) (pd pF:Option Addr) (cd cF B:Nat) (w:World) (hBw:B<=w.heap.size) (hF:Yk w B pF fs) (hD:Rd w pd (dl.map (Value.int .u8))) (hd:dl.length<=4194304) (hn:fs.length<=64) (hr:∀ f∈fs,Zbd f.2.2.2) (hls:∀ f∈fs,f.2.2.2.length<=4194304) :
 Calls Try.prog 6 #[.agg #[.int .i64 mem,.slice pd dl.length cd,.slice pF fs.length cF]] w (Zxw w mem dl fs):=by
 have T0:=Hq (Yt w (.cells #[.int .i64 mem,.slice pd dl.length cd,.slice pF fs.length cF] 25) (.cells #[.int .i64 0,.slice none 0 0,.slice none 0 0] 25))
 have T1:=Hq (Yi w (.cells #[.int .i64 mem,.slice pd dl.length cd,.slice pF fs.length cF] 25) (.cells #[.int .i64 0,.slice none 0 0,.slice none 0 0] 25))
 have G0:=Hq (Za (Ga w (.cells #[.int .i64 mem,.slice pd dl.length cd,.slice pF fs.length cF] 25) none) (Ga _ (.cells #[.int .i64 0,.slice none 0 0,.slice none 0 0] 25) none))
 have TW:=Hq (fun W (g:w.grownBy W none)=>Zkt mem dl fs pd pF cd cF B W (Nat.le_trans hBw g.size) (Zs hF g (by simp)) (Yy hD g) hd (by omega) (fun f hf=>by have:=hls f hf;omega))
 clear hF hD
 go_enter Try.func6,Try.ntmps6
 go_wp2_with fail
 generalize (w.alloc (.cells #[.int .i64 mem,.slice pd dl.length cd,.slice pF fs.length cF] 25)).alloc (.cells #[.int .i64 0,.slice none 0 0,.slice none 0 0] 25)=w2 at *
 refine (TW.out w2 G0.out).mono ?_
 rintro e w3 ⟨D,F,cv,rfl,g3,o3⟩
 obtain ⟨pD,pF3,cD,cF3,rfl,rfl⟩:=Jc o3
 have X0:=Zb T0.out g3 (by simp)
 have X1:=Zb T1.out g3 (by simp)
 have v0:=Cq _ _ 0 _ _ _ X0
 have v1:=Cq _ _ 1 _ _ _ X0
 have v2:=Cq _ _ 2 _ _ _ X0
 have z0:=frozen_of_row _ _ 0 _ _ X0
 have z1:=frozen_of_row _ _ 1 _ _ X0
 have z2:=frozen_of_row _ _ 2 _ _ X0
 have l0:=(Gs X0)
 have G3:=Hq (Za G0.out g3)
 have O3:=Hq (Zaj o3 (show w.heap.size<=w2.heap.size from G0.out.size))
 have Y0:=Hq X0
 have Y1:=Hq X1
 clear X0 X1 g3 o3
 go_wp2
 have I0:=Hq (show Xcb w _ mem dl fs fs pD pF3 cD cF3 cv from ⟨.refl,⟨hn,hr⟩,Ze (Ze (Ze G3.out (Nat.le_refl _)) (Nat.le_refl _)) (Nat.le_refl _),by rw [Zi (o:=2) (v := .slice pF3 fs.length cF3) (Zi (o:=1) (v := .slice pD dl.length cD) (Zi (o:=0) (v := .int .i64 mem) Y0.out))];rfl,by rw [heap_setCell_other _ _ _ _ (by simp),heap_setCell_other _ _ _ _ (by simp),heap_setCell_other _ _ _ _ (by simp)];exact Y1.out,Zag (mem:=mem) O3.out Y0.out⟩)
 clear v0 v1 v2 z0 z1 z2 l0
 generalize ((w3.setCell ⟨w.heap.size,0,none⟩ (.int .i64 mem)).setCell ⟨w.heap.size,1,none⟩ (.slice pD dl.length cD)).setCell ⟨w.heap.size,2,none⟩ (.slice pF3 fs.length cF3)=w4 at *
 go_loopg [] (muP fs) (fun g wr=>∃ (fs':List FnP) (pD pF:Option Addr) (cD cF:Nat) (cv:List Value),g=muP fs'/\Xcb w wr mem dl fs fs' pD pF cD cF cv)
 case atStart=>exact ⟨fs,pD,pF3,cD,cF3,cv,rfl,I0.out⟩
 case round =>
  obtain ⟨fs',pD,pF,cD,cF,cv,rfl,I⟩:=hrel
  have II:=Hq I
  have c0:=Cq _ _ 0 _ _ _ I.x0
  have c1:=Cq _ _ 1 _ _ _ I.x0
  have c2:=Cq _ _ 2 _ _ _ I.x0
  have l0:=(Gs I.x0)
  clear I
  go_wp2_with fail
  refine (Zul mem dl fs' pD pF cD cF wr.heap.size wr (Nat.le_refl _) (Zon II.out.ow) (Zoo II.out.ow) hd II.out.ii.1 II.out.ii.2).mono ?_
  rintro e w5 ⟨g5,(⟨err,f,n,rfl,hb⟩|⟨hs,V,ho,hm⟩)⟩
  · have HB:=Hq hb
    clear hb
    unfold Yjw
    have X0:=Hq (Zb II.out.x0 g5 (by simp))
    have X1:=Hq (Zb II.out.x1 g5 (by simp))
    have G5:=Hq (Za II.out.gr g5)
    have GI:=Hq g5
    clear g5 c0 c1 c2 l0
    go_upto_region 3 with fail
    have GA:=Ga w5 (.cells #[.int .i64 0,.int .i64 0,.int .i64 0,.nilFunc] 59) none
    have XS:=Hq (heap_alloc_new w5 (.cells #[.int .i64 0,.int .i64 0,.int .i64 0,.nilFunc] 59))
    have Y0:=Hq (Zb X0.out GA (by simp))
    have Y1:=Hq (Zb X1.out GA (by simp))
    have G6:=Hq (Za G5.out GA)
    have GJ:=Hq (Za GI.out GA)
    generalize w5.alloc (.cells #[.int .i64 0,.int .i64 0,.int .i64 0,.nilFunc] 59)=w6 at *
    generalize w5.heap.size=b5 at *
    clear GA
    have v0:=Cq _ _ 0 _ _ _ Y1.out
    have v1:=Cq _ _ 1 _ _ _ Y1.out
    have v2:=Cq _ _ 2 _ _ _ Y1.out
    have z0:=frozen_of_row _ _ 0 _ _ Y1.out
    have z1:=frozen_of_row _ _ 1 _ _ Y1.out
    have z2:=frozen_of_row _ _ 2 _ _ Y1.out
    have l6:=(Gs Y1.out)
    go_wp2
    refine bodyPost_ret (v := .tuple #[Yqv,.int .i64 152]) ?_ rfl ⟨fs',II.out.rc,Or.inl ⟨Ze (Ze (Ze G6.out (by omega)) (by omega)) (by omega),err,f,n,rfl,HB.out⟩⟩
    rw [results_cell_tmp rfl]
    unfold Yqv
    go_simp
  · have OP:=Hq ho
    clear ho
    cases hq:Zbp fs' hs V with
    | none =>
      rw [hq] at hm
      simp only [] at hm
      subst hm
      have HQ:=Hq hq
      clear hq
      unfold Yjw
      have X0:=Hq (Zb II.out.x0 g5 (by simp))
      have X1:=Hq (Zb II.out.x1 g5 (by simp))
      have G5:=Hq (Za II.out.gr g5)
      have GI:=Hq g5
      clear g5 c0 c1 c2 l0
      go_upto_region 3 with fail
      have GA:=Ga w5 (.cells #[.int .i64 0,.int .i64 0,.int .i64 0,.nilFunc] 59) none
      have XS:=Hq (heap_alloc_new w5 (.cells #[.int .i64 0,.int .i64 0,.int .i64 0,.nilFunc] 59))
      have Y0:=Hq (Zb X0.out GA (by simp))
      have Y1:=Hq (Zb X1.out GA (by simp))
      have G6:=Hq (Za G5.out GA)
      have GJ:=Hq (Za GI.out GA)
      have GAH:=Hq GA
      generalize w5.alloc (.cells #[.int .i64 0,.int .i64 0,.int .i64 0,.nilFunc] 59)=w6 at *
      generalize w5.heap.size=b5 at *
      clear GA
      have v0:=Cq _ _ 0 _ _ _ Y1.out
      have v1:=Cq _ _ 1 _ _ _ Y1.out
      have v2:=Cq _ _ 2 _ _ _ Y1.out
      have z0:=frozen_of_row _ _ 0 _ _ Y1.out
      have z1:=frozen_of_row _ _ 1 _ _ Y1.out
      have z2:=frozen_of_row _ _ 2 _ _ Y1.out
      have d0:=Cq _ _ 0 _ _ _ Y0.out
      have d1:=Cq _ _ 1 _ _ _ Y0.out
      have d2:=Cq _ _ 2 _ _ _ Y0.out
      have l6:=(Gs Y1.out)
      have l7:=(Gs Y0.out)
      go_wp2
      refine bodyPost_ret (v := .tuple #[.agg #[.int .i64 mem,.slice pD dl.length cD,.slice pF fs'.length cF],.int .i64 0]) ?_ rfl ⟨fs',II.out.rc,Or.inr ⟨hs,V,OP.out,HQ.out,_,_,cv,rfl,Ze (Ze (Ze G6.out (by omega)) (by omega)) (by omega),Zag (mem:=mem) (Xj II.out.ow GJ.out) Y1.out⟩⟩
      rw [results_cell_tmp rfl]
      go_simp
    | some p =>
      obtain ⟨⟨f,n⟩,what,fs2⟩:=p
      rw [hq] at hm
      simp only [] at hm
      obtain ⟨N,caps,hN,rfl,hC⟩:=hm
      have EN:=Zvw hN
      have ST:=Hq (show Stp mem dl.length fs' fs2 from ⟨hs,V,_,_,OP.out,hq⟩)
      have HC:=Hq hC
      clear hq hC
      have X0:=Hq (Zb II.out.x0 g5 (by simp))
      have X1:=Hq (Zb II.out.x1 g5 (by simp))
      have G5:=Hq (Za II.out.gr g5)
      clear g5 c0 c1 c2 l0
      go_upto_region 3 with fail
      have GA:=Ga w5 (.cells #[.int .i64 f,.int .i64 n,.int .i64 what,.func (.func N) #[] caps] 59) none
      have XS:=Hq (heap_alloc_new w5 (.cells #[.int .i64 f,.int .i64 n,.int .i64 what,.func (.func N) #[] caps] 59))
      have Y0:=Hq (Zb X0.out GA (by simp))
      have Y1:=Hq (Zb X1.out GA (by simp))
      have G6:=Hq (Za G5.out GA)
      have GAH:=Hq GA
      generalize w5.alloc (.cells #[.int .i64 f,.int .i64 n,.int .i64 what,.func (.func N) #[] caps] 59)=w6 at *
      generalize w5.heap.size=b5 at *
      clear GA
      have c0:=Cq _ _ 0 _ _ _ XS.out
      have c1:=Cq _ _ 1 _ _ _ XS.out
      have c2:=Cq _ _ 2 _ _ _ XS.out
      have c3:=Cq _ _ 3 _ _ _ XS.out
      have l4:=(Gs XS.out)
      go_wp2_with fail
      refine (HC.out w6 GAH.out).mono ?_
      rintro e w7 ⟨D,F,cv7,rfl,g7,o7⟩
      obtain ⟨pD7,pF7,cD7,cF7,rfl,rfl⟩:=Jc o7
      have X7:=Zb Y0.out g7 (by simp)
      have HX7:=Hq X7
      have HX1:=Hq (Zb Y1.out g7 (by simp))
      have v0:=Cq _ _ 0 _ _ _ X7
      have v1:=Cq _ _ 1 _ _ _ X7
      have v2:=Cq _ _ 2 _ _ _ X7
      have z0:=frozen_of_row _ _ 0 _ _ X7
      have z1:=frozen_of_row _ _ 1 _ _ X7
      have z2:=frozen_of_row _ _ 2 _ _ X7
      have l5:=(Gs X7)
      have G7:=Hq (Za G6.out g7)
      have O7:=Hq (Zaj o7 (show w.heap.size<=w6.heap.size from G6.out.size))
      clear X7 g7 o7 c0 c1 c2 c3 l4
      go_wp2
      go_roundg (muP fs2)
      case rel=>exact ⟨fs2,pD7,pF7,cD7,cF7,cv7,rfl,.step II.out.rc ST.out,(Zyf II.out.ii ST.out).1,Ze (Ze (Ze G7.out (Nat.le_refl _)) (Nat.le_refl _)) (Nat.le_refl _),by rw [Zi (o:=2) (v := .slice pF7 fs2.length cF7) (Zi (o:=1) (v := .slice pD7 dl.length cD7) (Zi (o:=0) (v := .int .i64 mem) HX7.out))];rfl,by rw [heap_setCell_other _ _ _ _ (by simp),heap_setCell_other _ _ _ _ (by simp),heap_setCell_other _ _ _ _ (by simp)];exact HX1.out,Zag (mem:=mem) O7.out HX7.out⟩
      case measure=>exact (Zyf II.out.ii ST.out).2
def hdC:List Ins:=[(3,2),(3,3),(22,0),(18,0)]
def Xbz:List Ins:=[(3,6),(18,0)]
def hdF:List FnP:=[(0,0,1,hdC)]
def hdF1:List FnP:=[(0,0,1,Xbz)]
def hdH (x:Nat):Int:=if x=0 then 0 else if x=1 then 1 else if x=2 then 2 else 1
theorem Ydw (fs:List FnP) (fn:FnP) {p:Nat} {a h:Int} (hc:fn.2.2.2[p]? = some (22,a)) (h0:2<=h) (h1:h<=256) (hp:p+1<fn.2.2.2.length):Jw fs fn p h=(0,h - 1)/\Jp fn.2.2.2 p=[p+1]:=by
 have hg:Xm 22 a p=[(p:Int)+1]:=by simp [Xm]
 have ht:Yp fs fn.2.2.1 22 a=(2,1):=rfl
 constructor
 · have:=Zhx fs fn (h:=h) hc (by decide) (by decide) ht (by omega) (by omega) (by rw [hg];simp;omega)
   rwa [show h - 2+1=h - 1 by omega] at this
 · unfold Jp
   rw [hc]
   simp only []
   rw [hg]
   simp only [List.map_cons,List.map_nil]
   congr 1
theorem Ygz:Yny hdF (0,0,1,hdC) hdH:=by
 refine ⟨rfl,fun p hp _ => ?_⟩
 have hp4:p<4:=hp
 rcases (by omega:p=0\/p=1\/p=2\/p=3) with rfl|rfl|rfl|rfl
 · obtain ⟨h1,h2⟩:=Zhy hdF (0,0,1,hdC) (p:=0) (a:=2) (h:=0) rfl (by decide) (by decide) (by decide)
   exact ⟨_,h1,fun n hn=>by rw [h2] at hn;simp at hn;subst hn;exact ⟨by decide,rfl⟩⟩
 · obtain ⟨h1,h2⟩:=Zhy hdF (0,0,1,hdC) (p:=1) (a:=3) (h:=1) rfl (by decide) (by decide) (by decide)
   exact ⟨_,h1,fun n hn=>by rw [h2] at hn;simp at hn;subst hn;exact ⟨by decide,rfl⟩⟩
 · obtain ⟨h1,h2⟩:=Ydw hdF (0,0,1,hdC) (p:=2) (a:=0) (h:=2) rfl (by decide) (by decide) (by decide)
   exact ⟨_,h1,fun n hn=>by rw [h2] at hn;simp at hn;subst hn;exact ⟨by decide,rfl⟩⟩
 · obtain ⟨h1,h2⟩:=Zsr hdF (0,0,1,hdC) (p:=3) (a:=0) (h:=1) rfl rfl
   exact ⟨_,h1,fun n hn=>by rw [h2] at hn;cases hn⟩
theorem Ymx:∀ p,p<4->Reach hdC p:=by
 have r0:Reach hdC 0:=Reach.z
 have r1:Reach hdC 1:=Reach.next r0 (by decide) (by decide)
 have r2:Reach hdC 2:=Reach.next r1 (by decide) (by decide)
 have r3:Reach hdC 3:=Reach.next r2 (by decide) (by decide)
 intro p hp
 rcases (by omega:p=0\/p=1\/p=2\/p=3) with rfl|rfl|rfl|rfl <;> assumption
theorem Ysl:Tk 0 0 hdF:=⟨by decide,⟨_,rfl,rfl,rfl⟩,fun fn hf=>by
 obtain rfl:fn=(0,0,1,hdC):=by simpa [hdF] using hf
 intro x hx
 simp [hdC] at hx
 rcases hx with rfl|rfl|rfl|rfl <;> rfl,fun fn hf=>by
 obtain rfl:fn=(0,0,1,hdC):=by simpa [hdF] using hf
 exact ⟨_,Ygz⟩⟩
theorem Yib {hs:Nat->List Int} {V:List Bool} (hv:V.getD 0 false=true) (h:∀ x∈hs 0,0<=x):Zcn hs V 1 0=none:=by
 unfold Zcn
 rw [if_neg (by rw [hv];decide)]
 have:(hs 0).findIdx? (fun h=>decide (h<0))=none:=by
  rw [List.findIdx?_eq_none_iff]
  intro x hx
  have:=h x hx
  simpa using this
 rw [this]
 rfl
theorem Zrg {hs:Nat->List Int} {V:List Bool} (ho:OkP 0 0 hdF hs V):Zbp hdF hs V=some ((0,0),4,hdF1):=by
 have hv:V.getD 0 false=true:=(ho.2.2.2.2.2 0 (by decide)).2 CRe.refl
 obtain ⟨st,hr,hi,e⟩:=ho.2.2.2.1 0 _ rfl
 have hh:=Zoc (hs:=hs) Ysl (f:=0) rfl hr Ygz
 rw [e] at hh
 have hl:=Zmg ho 0 _ rfl
 have hd:Zcn hs V hdF.length 0=none:=Yib hv fun x hx=>by
  obtain ⟨p,hp⟩:=List.getElem?_of_mem hx
  have hpl:=(List.getElem?_eq_some_iff.1 hp).1
  rw [hl] at hpl
  have:=(hh p hpl).1 (Ymx p hpl)
  rw [List.getD_eq_getElem?_getD,hp] at this
  simp at this
  omega
 unfold Zbp
 rw [hd]
 have hu:Zcy hdF 0=none:=by decide
 rw [hu]
 have hrow:Zqb hdF 0=some (0,0,⟨3,[(3,6)],4⟩):=by rfl
 rw [hrow]
 rfl
theorem Ysm:Lg 6 6 0 0 [(18,0)] Xbz:=by
 refine ⟨rfl,rfl,by decide,by decide,fun i x hx => ?_,fun i x hx _ => ?_⟩
 · match i,hx with
   | 0,hx=>simp at hx;exact Or.inr (Or.inr (Or.inl hx.symm))
 · match i,hx with
   | 0,hx=>simp at hx;subst hx;exact ⟨by decide,fun h=>absurd h (by decide)⟩
theorem Yha {hs:Nat->List Int} {V:List Bool} (ho:OkP 0 0 hdF1 hs V):Zbp hdF1 hs V=none:=by
 have hv:V.getD 0 false=true:=(ho.2.2.2.2.2 0 (by decide)).2 CRe.refl
 have hl:=Zmg ho 0 _ rfl
 have hd:Zcn hs V hdF1.length 0=none:=Yib hv fun x hx=>by
  obtain ⟨p,hp⟩:=List.getElem?_of_mem hx
  have hpl:=(List.getElem?_eq_some_iff.1 hp).1
  rw [hl] at hpl
  have hpl2:p<2:=hpl
  have:=(Zkx Ysm ho p hpl).2 (Zgt Ysm p (by omega))
  unfold hB at this
  rw [List.getD_eq_getElem?_getD,hp] at this
  simpa using this
 unfold Zbp
 rw [hd]
 have hu:Zcy hdF1 0=none:=by decide
 rw [hu]
 have hrow:Zqb hdF1 0=none:=by rfl
 rw [hrow]
theorem Ygx {fs:List FnP} (h:Stps 0 0 hdF fs):fs=hdF\/fs=hdF1:=by
 induction h with
 | refl=>exact Or.inl rfl
 | step h st ih =>
   obtain ⟨hs,V,p,what,ho,hq⟩:=st
   rcases ih with rfl|rfl
   · rw [Zrg ho] at hq
     simp only [Option.some.injEq,Prod.mk.injEq] at hq
     exact Or.inr hq.2.2.symm
   · rw [Yha ho] at hq;cases hq
theorem Yxm {w:World} {e:Ending} {w':World} (h:Zxw w 0 [] hdF e w'):Zjb w 0 [] hdF1 e w':=by
 obtain ⟨fs',hst,h⟩:=h
 rcases h with ⟨_,err,f,n,_,hb⟩|⟨hs,V,ho,hq,hg⟩
 · rcases Ygx hst with rfl|rfl
   · exact absurd hb (Zpr Ysl err f n)
   · exact absurd hb (Zpr (Yrv Ysm) err f n)
 · rcases Ygx hst with rfl|rfl
   · rw [Zrg ho] at hq;cases hq
   · exact hg
theorem Yxn (err:Int) (f n:Nat):¬ Zhf 0 0 hdF err f n:=Zpr Ysl err f n
theorem Yrw {S:Int} {fs fs':List FnP} (h:LgP S fs) (st:Stps 0 0 fs fs'):LgP S fs':=by
 induction st with
 | refl=>exact h
 | step _ s ih=>exact Yrx ih s
theorem Yxa {S:Int} {fs:List FnP} (hl:LgP S fs) {w:World} {e:Ending} {w':World} (h:Zxw w 0 [] fs e w'):Zjb w 0 [] [(0,0,1,[(3,S),(18,0)])] e w':=by
 obtain ⟨fs',hst,h⟩:=h
 have h':=Yrw hl hst
 rcases h with ⟨_,err,f,n,_,hb⟩|⟨hs,V,ho,hq,hg⟩
 · obtain ⟨s,k,m,C,c,rfl,L,_,_⟩:=h'
   exact absurd hb (Zpr (Yrv L) err f n)
 · rw [Yxb h' ho hq] at hg
   exact hg
def Znr (s:Nat):Nat->List Ins
 | 0=>[]
 | m+1=>Znr s m++[if m % 2=1 then (14,((s+m+1:Nat):Int)) else (0,0)]
theorem Zar (s:Nat):∀ m,(Znr s m).length=m
 | 0=>rfl
 | m+1=>by simp [Znr,Zar s m]
theorem Zmj (s:Nat):∀ m j,j<m->(Znr s m)[j]? = some (if j % 2=1 then (14,((s+j+1:Nat):Int)) else (0,0))
 | 0,j,h=>absurd h (Nat.not_lt_zero _)
 | m+1,j,h=>by
   unfold Znr
   by_cases e:j<m
   · rw [List.getElem?_append_left (by rw [Zar];exact e)]
     exact Zmj s m j e
   · have:j=m:=by omega
     subst this
     rw [List.getElem?_append_right (by rw [Zar];exact Nat.le_refl _),Zar,Nat.sub_self]
     rfl
theorem Zoq:∀ (m k:Nat),Zhb k (m+1)=Zhb k m++[(3,((k+m:Nat):Int)),(20,0)]
 | 0,k=>rfl
 | m+1,k=>by
   rw [Zhb,Zoq m (k+1),Zhb]
   simp only [List.cons_append]
   rw [show k+1+m=k+(m+1) by omega]
theorem Zpu:∀ (m k:Nat),2*Zsf k m=(m:Int)*(2*k+m - 1)
 | 0,k=>by simp [Zsf]
 | m+1,k=>by
   have ih:=Zpu m (k+1)
   have e:Zsf k (m+1)=(k:Int)+Zsf (k+1) m:=rfl
   rw [e,Int.mul_add,ih]
   push_cast
   have hk:(m:Int)*(2*((k:Int)+1)+m - 1)=(m:Int)*(2*k+m+1):=by congr 1;omega
   have hr:((m:Int)+1)*(2*(k:Int)+(m+1) - 1)=(m:Int)*(2*k+m+1)+(2*(k:Int)+m) - m:=by
    rw [Int.add_mul,Int.one_mul]
    have:(2*(k:Int)+(m+1) - 1)=2*k+m:=by omega
    rw [this]
    have h2:(m:Int)*(2*k+m+1)=m*(2*k+m)+m:=by rw [Int.mul_add,Int.mul_one]
    rw [h2];omega
   rw [hk,hr];omega
theorem Yuq (n:Nat):1+(n:Int)*((n:Int) - 1) / 2=1+Zsf 0 n:=by
 have:=Zpu n 0
 have e:(n:Int)*(2*((0:Nat):Int)+n - 1)=(n:Int)*(n - 1):=by congr 1;simp
 rw [e] at this
 omega
def Yjn (n:Nat):List Ins:=(3,1)::Zhb 0 n
def Zvb (n m:Nat):List Ins:=Yjn n++Znr (1+2*n) m
def Zlf (n m d:Nat):List Ins:=Zvb n m++(18,0)::List.replicate d (4,0)
theorem Ynp (n:Nat):(Yjn n).length=1+2*n:=by simp [Yjn,Jn];omega
theorem Ynr (n m:Nat):(Zvb n m).length=1+2*n+m:=by simp [Zvb,Ynp,Zar]
theorem Zle (n m d:Nat):(Zlf n m d).length=1+2*n+m+1+d:=by simp [Zlf,Ynr];omega
def Znu (n m d:Nat):List Ins:=Znr (1+2*n) m++(18,0)::List.replicate d (4,0)
theorem Zxp (n m d:Nat):Zlf n m d=(3,1)::(Zhb 0 n++Znu n m d):=by simp [Zlf,Zvb,Yjn,Znu]
theorem Znh (n m d i:Nat) (x:Ins) (h:(Znu n m d)[i]? = some x):(i<m/\x=if i % 2=1 then (14,((1+2*n+i+1:Nat):Int)) else (0,0))\/(i=m/\x=(18,0))\/(m<i/\i<m+1+d/\x=(4,0)):=by
 unfold Znu at h
 by_cases h1:i<m
 · rw [List.getElem?_append_left (by rw [Zar];exact h1),Zmj _ _ _ h1] at h
   injection h with h
   exact Or.inl ⟨h1,h.symm⟩
 · rw [List.getElem?_append_right (by rw [Zar];omega),Zar] at h
   by_cases h2:i=m
   · subst h2
     rw [Nat.sub_self] at h
     simp at h
     exact Or.inr (Or.inl ⟨rfl,h.symm⟩)
   · obtain ⟨j,hj⟩:∃ j,i - m=j+1:=⟨i - m - 1,by omega⟩
     rw [hj,List.getElem?_cons_succ] at h
     have hl:=(List.getElem?_eq_some_iff.1 h).1
     rw [List.length_replicate] at hl
     rw [List.getElem?_replicate,if_pos hl] at h
     injection h with h
     exact Or.inr (Or.inr ⟨by omega,by omega,h.symm⟩)
theorem Yci (n m d:Nat):∀ p,Reach (Zlf n m d) p->p<=1+2*n+m:=by
 intro p hp
 induction hp with
 | z=>omega
 | @next q k hq hql hk ih =>
   have hlen:=Zle n m d
   by_cases h0:q<1+2*n
   · have hx:∃ x,(Zlf n m d)[q]? = some x/\((∃ a,x=(3,a))\/x=(20,0)):=by
      rw [Zxp]
      rcases q with _|q
      · exact ⟨_,rfl,Or.inl ⟨1,rfl⟩⟩
      · rw [List.getElem?_cons_succ,List.getElem?_append_left (by rw [Jn];omega)]
        obtain ⟨j,hj⟩:∃ j,q=2*j\/q=2*j+1:=⟨q / 2,by omega⟩
        rcases hj with rfl|rfl
        · exact ⟨_,(Zeh n 0 j (by omega)).1,Or.inl ⟨_,rfl⟩⟩
        · exact ⟨_,(Zeh n 0 j (by omega)).2,Or.inr rfl⟩
     obtain ⟨x,hx,hc⟩:=hx
     rcases hc with ⟨a,rfl⟩|rfl
     · rw [Zdr hx (by simp) (by simp) (by simp) rfl] at hk
       simp at hk
       omega
     · rw [Zdr hx (by simp) (by simp) (by simp) rfl] at hk
       simp at hk
       omega
   · obtain ⟨i,rfl⟩:∃ i,q=1+2*n+i:=⟨q - (1+2*n),by omega⟩
     have hx:(Zlf n m d)[1+2*n+i]? = (Znu n m d)[i]? := by
      rw [Zxp,show 1+2*n+i=(2*n+i)+1 by omega,List.getElem?_cons_succ,List.getElem?_append_right (by rw [Jn];omega),Jn]
      congr 1;omega
     obtain ⟨x,hxx⟩:∃ x,(Znu n m d)[i]? = some x:=⟨_,List.getElem?_eq_getElem (by have:(Znu n m d).length=m+1+d:=by { simp [Znu,Zar];omega };omega)⟩
     rw [hxx] at hx
     rcases Znh n m d i x hxx with ⟨h1,rfl⟩|⟨h1,rfl⟩|⟨h1,_,rfl⟩
     · by_cases e:i % 2=1
       · rw [if_pos e] at hx
         unfold Jp at hk
         rw [hx] at hk
         simp [Xm] at hk
         omega
       · rw [if_neg e] at hx
         rw [Zdr hx (by simp) (by simp) (by simp) rfl] at hk
         simp at hk
         omega
     · unfold Jp at hk
       rw [hx] at hk
       simp [Xm] at hk
     · omega
theorem Zzf (n m d:Nat) (hn:n<=1000) (hm:m<=400) (hd:d<=400):LgP (1+Zsf 0 n) [(0,0,1,Zlf n m d)]:=by
 have hlen:=Zle n m d
 have hv:=Zpu n 0
 have hb:(n:Int)*(2*((0:Nat):Int)+n - 1)<=1000*1000:=by
  have h1:(2*((0:Nat):Int)+n - 1)<=1000:=by omega
  rcases Int.le_total 0 (2*((0:Nat):Int)+n - 1) with h2|h2
  · exact Int.mul_le_mul (by omega) h1 h2 (by omega)
  · exact Int.le_trans (Int.mul_nonpos_of_nonneg_of_nonpos (by omega) h2) (by decide)
 refine ⟨1,0,n,Znu n m d,Zlf n m d,rfl,⟨Zxp n m d,rfl,by omega,by simp [Znu];omega,fun i x hx => ?_,fun i x hx hr => ?_⟩,by decide,by omega⟩
 · rcases Znh n m d i x hx with ⟨h1,rfl⟩|⟨h1,rfl⟩|⟨h1,_,rfl⟩
   · by_cases e:i % 2=1
     · rw [if_pos e]
       exact Or.inr (Or.inl ⟨rfl,by simp only [];omega,by simp only [];omega⟩)
     · rw [if_neg e];exact Or.inl rfl
   · exact Or.inr (Or.inr (Or.inl rfl))
   · exact Or.inr (Or.inr (Or.inr rfl))
 · have hr2:=Yci n m d _ hr
   rcases Znh n m d i x hx with ⟨h1,rfl⟩|⟨h1,rfl⟩|⟨h1,_,rfl⟩
   · by_cases e:i % 2=1
     · rw [if_pos e];exact ⟨by simp,fun h=>by simp at h⟩
     · rw [if_neg e];exact ⟨by simp,fun _=>by omega⟩
   · exact ⟨by simp,fun h=>by simp at h⟩
   · omega
theorem Ycj (n m d:Nat) (hn:n<=1000) (hm:m<=400) (hd:d<=400):Zbd (Zlf n m d):=fun x hx=>by
 obtain ⟨s,k,m',C,c,e,L,_,_⟩:=Zzf n m d hn hm hd
 injection e with e;injection e with _ e;injection e with _ e;injection e with _ e
 have hlen:=Zle n m d
 unfold Zlf Zvb Yjn at hx
 simp only [List.mem_append,List.mem_cons,List.mem_replicate] at hx
 have num:∀ (m k:Nat),k+m<=1000->∀ x∈Zhb k m,InR x.2:=by
  intro m
  induction m with
  | zero=>intro k _ x hx;cases hx
  | succ m ih =>
    intro k hk x hx
    simp only [Zhb,List.mem_cons] at hx
    rcases hx with rfl|rfl|hx
    · exact ⟨by simp only [];omega,by simp only [];omega⟩
    · exact ⟨by simp,by simp⟩
    · exact ih (k+1) (by omega) x hx
 rcases hx with ((rfl|hx)|hx)|rfl|⟨_,rfl⟩
 · exact ⟨by decide,by decide⟩
 · exact num n 0 (by omega) x hx
 · obtain ⟨j,hj⟩:=List.getElem?_of_mem hx
   have hjl:=(List.getElem?_eq_some_iff.1 hj).1
   rw [Zar] at hjl
   rw [Zmj _ _ _ hjl] at hj
   injection hj with hj
   subst hj
   by_cases e:j % 2=1
   · rw [if_pos e];exact ⟨by simp only [];omega,by simp only [];omega⟩
   · rw [if_neg e];exact ⟨by decide,by decide⟩
 · exact ⟨by decide,by decide⟩
 · exact ⟨by decide,by decide⟩
end Go.Proofs.Ythlkflagancdfaa.OT
