/-
  Part of a proof: contracts of functions and lemmas, each stated by its own theorem. Conditions: as each theorem states.
-/
import Derived.Test.YthlkflagancdfaaMK29
import Derived.Test.YthlkflagancdfaaMK28
import Derived.Test.YthlkflagancdfaaMK00
set_option linter.unusedSimpArgs false
set_option linter.unusedVariables false
set_option maxRecDepth 100000
set_option maxHeartbeats 16000000
namespace Go.Proofs.Ythlkflagancdfaa.OT
open Go.RowKit Go.Great
open Go.Proofs.Ythlkflagancdfaa.CK
theorem Zwe {fs:List FnP} {hs:Nat->List Int} {k:Nat} {f:FnP} (h:fs[k]? = some f):szP (Zgc fs hs (k+1))+szC f.2.2.2=szP (Zgc fs hs k)+szC (Jf f.2.2.2 (hs k)):=by
 have hg:(Zgc fs hs k)[k]? = some f:=by rw [Zfm h,if_neg (Nat.lt_irrefl k)]
 have:=Zxd (g:=Zv f (Jf f.2.2.2 (hs k))) hg
 rw [Zwf h]
 exact this
theorem Zqj (fs:List FnP) (hs:Nat->List Int):∀ k,k<=fs.length->szP (Zgc fs hs k)<=szP fs
 | 0,_=>by rw [Zwd];exact Nat.le_refl _
 | k+1,h=>by
   obtain ⟨f,hf⟩:∃ f,fs[k]? = some f:=⟨_,List.getElem?_eq_getElem (by omega)⟩
   have h1:=Zqj fs hs k (by omega)
   have h2:=Zwe (hs:=hs) hf
   have h3:=Zzj f.2.2.2 (hs k)
   omega
theorem Zmd {fs:List FnP} {hs:Nat->List Int} {i n:Nat} {fn:FnP} (hf:fs[i]? = some fn) (hn:n<fn.2.2.2.length) (hh:hB (hs i) n=false):∀ k,i<k->k<=fs.length->szP (Zgc fs hs k)<szP fs
 | 0,h,_=>by omega
 | k+1,h,hk=>by
   obtain ⟨f,hfk⟩:∃ f,fs[k]? = some f:=⟨_,List.getElem?_eq_getElem (by omega)⟩
   have h2:=Zwe (hs:=hs) hfk
   by_cases e:i=k
   · subst e
     rw [hf] at hfk
     injection hfk with hfk
     subst hfk
     have h1:=Zqj fs hs i (by omega)
     have h3:=Zxf hn hh
     omega
   · have h1:=Zmd hf hn hh k (by omega) (by omega)
     have h3:=Zzj f.2.2.2 (hs k)
     omega
theorem Yfp (fs:List FnP) (hs:Nat->List Int) (V:List Bool):szP (Zam fs hs V)<=szP (Zgc fs hs fs.length):=by
 unfold Zam
 rw [Yte fun f _=>Yfr V f.2.2.2]
 refine Ytd ?_
 have h:=Ziy (Zgc fs hs fs.length) (vB V) fs.length (by rw [Xh];exact Nat.le_refl _)
 have e:(Zgc fs hs fs.length).take fs.length=Zgc fs hs fs.length:=List.take_of_length_le (by rw [Xh];exact Nat.le_refl _)
 rw [e] at h
 exact h
theorem Zpy (fs:List FnP) (hs:Nat->List Int) (V:List Bool):(Zam fs hs V).length=Yn (vB V) fs.length:=by
 unfold Zam
 rw [List.length_map,Yk _ _ _ (by rw [Xh];exact Nat.le_refl _)]
theorem Zvq {hs:Nat->List Int} {V:List Bool}:∀ {r i:Nat} {p:Nat × Nat},Zbk hs V r i=some p->i<=p.1/\p.1<i+r/\(V.getD p.1 false=false\/(p.2<(hs p.1).length/\(hs p.1).getD p.2 0<0))
 | 0,i,p,h=>by cases h
 | r+1,i,p,h=>by
   rw [Zbk] at h
   by_cases hv:V.getD i false=false
   · rw [if_pos hv] at h;injection h with h;subst h;exact ⟨Nat.le_refl _,by simp only [];omega,Or.inl hv⟩
   · rw [if_neg hv] at h
     cases hf:(hs i).findIdx? (fun h=>decide (h<0)) with
     | some n =>
       rw [hf] at h;injection h with h;subst h
       obtain ⟨hn,hd,_⟩:=List.findIdx?_eq_some_iff_getElem.1 hf
       exact ⟨Nat.le_refl _,by simp only [];omega,Or.inr ⟨hn,by rw [List.getD_eq_getElem?_getD,List.getElem?_eq_getElem hn];simpa using hd⟩⟩
     | none =>
       rw [hf] at h
       obtain ⟨h1,h2,h3⟩:=Zvq h
       exact ⟨by omega,by omega,h3⟩
theorem Ylb {fs:List FnP} {hs:Nat->List Int} {V:List Bool} {p:Nat × Nat} (h:Zbk hs V fs.length 0=some p) (hl:∀ (f:Nat) (fn:FnP),fs[f]? = some fn->(hs f).length=fn.2.2.2.length):szP (Zam fs hs V)+(Zam fs hs V).length<szP fs+fs.length:=by
 obtain ⟨_,h2,h3⟩:=Zvq h
 have hi:p.1<fs.length:=by omega
 have a1:=Yfp fs hs V
 have a2:=Zqj fs hs fs.length (Nat.le_refl _)
 have a3:=Zjm fs hs V
 rcases h3 with h3|⟨h3,h4⟩
 · have:=Zpy fs hs V
   have:=Zhp (b:=vB V) hi h3
   omega
 · obtain ⟨fn,hf⟩:∃ f,fs[p.1]? = some f:=⟨_,List.getElem?_eq_getElem hi⟩
   have:=Zmd hf (n:=p.2) (by rw [<- hl _ _ hf];exact h3) (by unfold hB;exact decide_eq_false (Int.not_le.2 h4)) fs.length hi (Nat.le_refl _)
   omega
theorem Zly {c:List Ins}:∀ {r:List Ins} {n:Nat},(∀ x∈r,jmp x.1=true->((Zhk c x.2.toNat:Nat):Int)=x.2)->Zcy c r n=none
 | [],n,_=>rfl
 | x::r,n,h=>by
   rw [Zcy,if_neg (fun e=>e.2 (h x (List.mem_cons_self ..) e.1))]
   exact Zly fun y hy=>h y (List.mem_cons_of_mem _ hy)
theorem Zot:∀ {fs:List FnP} {i:Nat},(∀ f∈fs,Zcy f.2.2.2 f.2.2.2 0=none)->Zed fs i=none
 | [],i,_=>rfl
 | f::r,i,h=>by
   rw [Zed,h f (List.mem_cons_self ..)]
   exact Zot fun g hg=>h g (List.mem_cons_of_mem _ hg)
theorem Zou {c:List Ins} {y:Ins} (h:y∈Yh c) (hj:jmp y.1=true):∃ x∈c,jmp x.1=true/\y=(x.1,((Zhk c x.2.toNat:Nat):Int)):=by
 unfold Yh reJ at h
 obtain ⟨x,hx,e⟩:=List.mem_map.1 h
 by_cases hjx:jmp x.1=true
 · rw [if_pos hjx] at e
   exact ⟨x,hx,hjx,e.symm⟩
 · rw [if_neg hjx] at e
   subst e
   exact absurd hj hjx
theorem Zxa {fs:List FnP} (h:∀ f∈fs,Zhm f.2.2.2):Zed (Xp fs) 0=none:=by
 refine Zot fun g hg => ?_
 unfold Xp at hg
 obtain ⟨f,hf,rfl⟩:=List.mem_map.1 hg
 have ok:=h f hf
 show Zcy (Yh f.2.2.2) (Yh f.2.2.2) 0=none
 refine Zly fun y hy hj => ?_
 obtain ⟨x,hx,hjx,rfl⟩:=Zou hy hj
 obtain ⟨h0,h1⟩:=ok.j x hx hjx
 show ((Zhk (Yh f.2.2.2) ((Zhk f.2.2.2 x.2.toNat:Nat):Int).toNat:Nat):Int)=_
 rw [Int.toNat_natCast,Yby ok.st (by omega)]
theorem Zvc (b:Nat->Bool) {a:Int} (h:InR a):InR ((Yn b a.toNat:Nat):Int):=by
 have:=Zdm b a.toNat
 unfold InR at h ⊢
 omega
theorem Znr {g:Int->Int} {c:List Ins} (h:Jl c) (hg:∀ x∈c,jmp x.1=true->InR (g x.2)):Jl (reJ g c):=by
 intro y hy
 unfold reJ at hy
 obtain ⟨x,hx,e⟩:=List.mem_map.1 hy
 by_cases hj:jmp x.1=true
 · rw [if_pos hj] at e;subst e;exact hg x hx hj
 · rw [if_neg hj] at e;subst e;exact h x hx
theorem Zyj {V:List Bool} {c:List Ins} (h:Jl c):Jl (Zal V c):=by
 intro y hy
 unfold Zal at hy
 obtain ⟨x,hx,e⟩:=List.mem_map.1 hy
 by_cases hj:x.1=17
 · rw [if_pos hj] at e;subst e;exact Zvc (vB V) (h x hx)
 · rw [if_neg hj] at e;subst e;exact h x hx
theorem Yds {c:List Ins} {hs:List Int} (h:Jl c):Jl (Jf c hs):=by
 unfold Jf
 have h2:Jl (Xk c (hB hs) c.length):=fun x hx=>h x (Zer hx)
 exact Znr h2 fun x hx _=>Zvc (hB hs) (h2 x hx)
theorem Zvs {c:List Ins} (h:Jl c) (ok:Zhm c):Jl (Yh c):=by
 unfold Yh
 refine Znr h fun x hx hj => ?_
 obtain ⟨h0,h1⟩:=ok.j x hx hj
 have h2:=(Zyh ok.st (show x.2.toNat<c.length by omega)).1
 have h3:=ok.l
 unfold InR
 omega
theorem Zso {fs:List FnP} (h:∀ f∈fs,Jl f.2.2.2) (ok:∀ f∈fs,Zhm f.2.2.2):∀ f∈Xp fs,Jl f.2.2.2:=fun g hg=>by
 unfold Xp at hg
 obtain ⟨f,hf,rfl⟩:=List.mem_map.1 hg
 exact Zvs (h f hf) (ok f hf)
theorem Zyk {fs:List FnP} {hs:Nat->List Int} {V:List Bool} (h:∀ f∈fs,Jl f.2.2.2):∀ f∈Zam fs hs V,Jl f.2.2.2:=fun g hg=>by
 unfold Zam at hg
 obtain ⟨f,hf,rfl⟩:=List.mem_map.1 hg
 refine Zyj ?_
 have hm:=Zer hf
 unfold Zgc at hm
 obtain ⟨i,hi,e⟩:=List.mem_mapIdx.1 hm
 have hmem:=h _ (List.getElem_mem hi)
 rw [if_pos hi] at e
 rw [<- e]
 exact Yds hmem
theorem Yjc (b:BitVec 64):InR b.toInt:=by
 have h1:=BitVec.le_toInt b
 have h2:=BitVec.toInt_lt (x:=b)
 unfold InR
 omega
theorem Zyb {c:List Ins} (h:Jl c) (n:Nat):InR (Zn c n).2:=by
 by_cases hn:n<c.length
 · exact Zsp h hn
 · unfold Zn
   rw [List.getD_eq_getElem?_getD,List.getElem?_eq_none (by omega)]
   unfold InR
   simp
theorem Yhy {c:List Ins} {n L:Nat} {f:Jn} (hr:Jl c) (h:Zaj c n L=some f):Jl f.put:=by
 have z:InR 0:=by unfold InR;omega
 rcases Zdg h with h|h|h|h
 · unfold Zax at h
   simp only [] at h
   repeat' split at h
   all_goals first
    | (cases h;done)
    | (injection h with h;subst h;intro y hy;simp at hy;done)
    | (injection h with h;subst h;intro y hy;simp at hy;subst hy;exact z)
    | (injection h with h;subst h;intro y hy;simp at hy;subst hy;exact Zyb hr _)
 · unfold Zau at h
   simp only [] at h
   repeat' split at h
   all_goals first
    | (cases h;done)
    | (injection h with h;subst h;intro y hy;simp at hy;done)
    | (injection h with h;subst h;intro y hy;simp at hy;subst hy;exact Zyb hr _)
    | (injection h with h;subst h;intro y hy;simp at hy;subst hy;exact Yjc _)
 · unfold Zek at h
   simp only [] at h
   repeat' split at h
   all_goals first
    | (cases h;done)
    | (injection h with h;subst h;intro y hy;simp at hy;done)
    | (injection h with h;subst h;intro y hy;simp at hy;subst hy;exact Zyb hr _)
 · unfold Zce at h
   split at h
   · injection h with h;subst h;intro y hy;simp at hy;subst hy;exact z
   · cases h
theorem Zyi {c:List Ins} {n long:Nat} {put:List Ins} (hr:Jl c) (hp:Jl put) (hok:Yqq c n long put):Jl (Xb c n long put):=by
 unfold Xb
 have hm:∀ x∈c.take n++put++c.drop (n+long),x∈c\/x∈put:=fun x hx=>by
  rcases List.mem_append.1 hx with hx|hx
  · rcases List.mem_append.1 hx with hx|hx
    · exact Or.inl (List.mem_of_mem_take hx)
    · exact Or.inr hx
  · exact Or.inl (List.mem_of_mem_drop hx)
 refine Znr (fun x hx=>(hm x hx).elim (hr x) (hp x)) fun x hx hj => ?_
 have hb:0<=x.2/\x.2<c.length:=(hm x hx).elim (fun h=>hok.j x h hj) (fun h=>hok.k x h hj)
 obtain ⟨h0,h1⟩:=hb
 unfold Zbf InR
 have h2:=hok.l
 have h3:=hok.p
 have h4:=hok.t
 split
 · omega
 · split <;> omega
def Stp (mem:Int) (nd:Nat) (fs fs':List FnP):Prop:=∃ hs V p what,OkP mem nd fs hs V/\Jk fs hs V=some (p,what,fs')
def muP (fs:List FnP):Nat:=2*(szP fs+fs.length)+if (Zed fs 0).isSome then 1 else 0
def InP (fs:List FnP):Prop:=fs.length<=64/\∀ f∈fs,Jl f.2.2.2
theorem Zft {mem:Int} {nd:Nat} {fs:List FnP} {hs:Nat->List Int} {V:List Bool} (h:OkP mem nd fs hs V):Zjp fs:=Zkc h.1 (fun fn hm=>h.2.2.1 fn hm)
theorem Zxp {mem:Int} {nd:Nat} {fs:List FnP} {hs:Nat->List Int} {V:List Bool} (h:OkP mem nd fs hs V):∀ (f:Nat) (fn:FnP),fs[f]? = some fn->(hs f).length=fn.2.2.2.length:=fun f fn hf=>by
 obtain ⟨s,_,hi,e⟩:=h.2.2.2.1 f fn hf
 rw [<- e];exact hi.hl
theorem Yol {mem:Int} {nd:Nat} {fs:List FnP} {hs:Nat->List Int} {V:List Bool} (h:OkP mem nd fs hs V) (hd:Zbk hs V fs.length 0=none):∀ f∈fs,Zhm f.2.2.2:=fun f hf=>Zvt (Zft h) hf (by
 obtain ⟨i,hi,e⟩:=List.getElem_of_mem hf
 have hfi:fs[i]? = some f:=by rw [List.getElem?_eq_getElem hi,e]
 obtain ⟨s,hrun,hinv,hsi⟩:=h.2.2.2.1 i f hfi
 refine Ztl (Zft h) hf hrun fun n hn2 => ?_
 have:=(Zjh hd i (Nat.zero_le _) (by omega)).2 n (by rw [<- hsi,hinv.hl];exact hn2)
 rw [hsi];exact this)
theorem Zqm {mem:Int} {nd:Nat} {fs fs':List FnP} (hi:InP fs) (h:Stp mem nd fs fs'):InP fs'/\muP fs'<muP fs:=by
 obtain ⟨hs,V,p,what,ho,hq⟩:=h
 obtain ⟨hn,hr⟩:=hi
 have PO:=Zft ho
 unfold Jk at hq
 cases hd:Zbk hs V fs.length 0 with
 | some q =>
   rw [hd] at hq
   simp only [Option.some.injEq,Prod.mk.injEq] at hq
   obtain ⟨-,-,rfl⟩:=hq
   have h1:=Ylb hd (Zxp ho)
   refine ⟨⟨Nat.le_trans (Zjm _ _ _) hn,Zyk hr⟩,?_⟩
   unfold muP
   split <;> split <;> omega
 | none =>
   rw [hd] at hq
   simp only [] at hq
   have hc:=Yol ho hd
   cases hu:Zed fs 0 with
   | some q =>
     rw [hu] at hq
     simp only [Option.some.injEq,Prod.mk.injEq] at hq
     obtain ⟨-,-,rfl⟩:=hq
     refine ⟨⟨by rw [Zcz];exact hn,Zso hr hc⟩,?_⟩
     unfold muP
     rw [Zxa hc,hu,Zxc,Zcz]
     simp
   | none =>
     rw [hu] at hq
     simp only [] at hq
     cases hw:Zqs fs 0 with
     | none=>rw [hw] at hq;cases hq
     | some q =>
       obtain ⟨i,n,x⟩:=q
       rw [hw] at hq
       simp only [Option.some.injEq,Prod.mk.injEq] at hq
       obtain ⟨-,-,rfl⟩:=hq
       obtain ⟨fn,_,hf,hnl,hm⟩:=Zio hw
       rw [Nat.sub_zero] at hf
       have hmem:=List.mem_of_getElem? hf
       have hok:=Zzq PO hmem hnl hm
       have h1:=Ymo hf (Yfq (Yor (Zrt _ _) hm hok.t))
       have h2:=Ymy fs i n x
       refine ⟨⟨by rw [h2];exact hn,fun g hg => ?_⟩,?_⟩
       · unfold Ylw at hg
         rw [hf] at hg
         rcases List.mem_or_eq_of_mem_set hg with hg|rfl
         · exact hr g hg
         · exact Zyi (hr fn hmem) (Yhy (hr fn hmem) hm) hok
       · unfold muP
         split <;> split <;> omega
inductive Stps (mem:Int) (nd:Nat) (fs:List FnP):List FnP->Prop
 | refl:Stps mem nd fs fs
 | step {a b:List FnP}:Stps mem nd fs a->Stp mem nd a b->Stps mem nd fs b
def Zob (w:World) (mem:Int) (dl:List Int) (fs:List FnP) (e:Ending) (w':World):Prop:=∃ fs',Stps mem dl.length fs fs' /\
 ((w.grownBy w' none/\∃ err f n,e = .returned (.tuple #[Zud,.int .i64 152])/\Zfx mem dl.length fs' err f n) \/
  (∃ hs V,OkP mem dl.length fs' hs V/\Jk fs' hs V=none/\Zcu w mem dl fs' e w'))
structure Xfn (w wr:World) (mem:Int) (dl:List Int) (fs fs':List FnP) (pD pF:Option Addr) (cD cF:Nat) (cv:List Value):Prop where
 rc:Stps mem dl.length fs fs'
 ii:InP fs'
 gr:w.grownBy wr none
 x0:wr.heap[w.heap.size]? = some (.cells #[.int .i64 mem,.slice pD dl.length cD,.slice pF fs'.length cF] 25 (0,0))
 x1:wr.heap[w.heap.size+1]? = some (.cells #[.int .i64 0,.slice none 0 0,.slice none 0 0] 25 (0,0))
 ow:Zas wr w.heap.size (.slice pD dl.length cD) (.slice pF fs'.length cF) dl fs' cv
theorem Zqr (mem:Int) (dl:List Int) (fs:List FnP) (pd pF:Option Addr) (cd cF B:Nat) (w:World) (hBw:B<=w.heap.size) (hF:Yl w B pF fs) (hD:Rd w pd (dl.map (Value.int .u8))) (hd:dl.length<=4194304) (hn:fs.length<=64) (hr:∀ f∈fs,Jl f.2.2.2) (hls:∀ f∈fs,f.2.2.2.length<=4194304) :
 Calls Try.prog 6 #[.agg #[.int .i64 mem,.slice pd dl.length cd,.slice pF fs.length cF]] w (Zob w mem dl fs):=by
 have T0:=Hq (Xc w (.cells #[.int .i64 mem,.slice pd dl.length cd,.slice pF fs.length cF] 25) (.cells #[.int .i64 0,.slice none 0 0,.slice none 0 0] 25))
 have T1:=Hq (Yr w (.cells #[.int .i64 mem,.slice pd dl.length cd,.slice pF fs.length cF] 25) (.cells #[.int .i64 0,.slice none 0 0,.slice none 0 0] 25))
 have G0:=Hq (Za (Ga w (.cells #[.int .i64 mem,.slice pd dl.length cd,.slice pF fs.length cF] 25) none) (Ga _ (.cells #[.int .i64 0,.slice none 0 0,.slice none 0 0] 25) none))
 have TW:=Hq (fun W (g:w.grownBy W none)=>Zib mem dl fs pd pF cd cF B W (Nat.le_trans hBw g.size) (Zq hF g (by simp)) (Ys hD g) hd (by omega) (fun f hf=>by have:=hls f hf;omega))
 clear hF hD
 go_enter Try.func6,Try.ntmps6
 go_wp2_with fail
 generalize (w.alloc (.cells #[.int .i64 mem,.slice pd dl.length cd,.slice pF fs.length cF] 25)).alloc (.cells #[.int .i64 0,.slice none 0 0,.slice none 0 0] 25)=w2 at *
 refine (TW.out w2 G0.out).mono ?_
 rintro e w3 ⟨D,F,cv,rfl,g3,o3⟩
 obtain ⟨pD,pF3,cD,cF3,rfl,rfl⟩:=Xa o3
 have X0:=Zb T0.out g3 (by simp)
 have X1:=Zb T1.out g3 (by simp)
 have v0:=Cq _ _ 0 _ _ _ X0
 have v1:=Cq _ _ 1 _ _ _ X0
 have v2:=Cq _ _ 2 _ _ _ X0
 have z0:=frozen_of_row _ _ 0 _ _ X0
 have z1:=frozen_of_row _ _ 1 _ _ X0
 have z2:=frozen_of_row _ _ 2 _ _ X0
 have l0:=(Gs X0)
 have G3:=Hq (Za G0.out g3)
 have O3:=Hq (Jm o3 (show w.heap.size<=w2.heap.size from G0.out.size))
 have Y0:=Hq X0
 have Y1:=Hq X1
 clear X0 X1 g3 o3
 go_wp2
 have I0:=Hq (show Xfn w _ mem dl fs fs pD pF3 cD cF3 cv from ⟨.refl,⟨hn,hr⟩,Zd (Zd (Zd G3.out (Nat.le_refl _)) (Nat.le_refl _)) (Nat.le_refl _),by rw [Zg (o:=2) (v := .slice pF3 fs.length cF3) (Zg (o:=1) (v := .slice pD dl.length cD) (Zg (o:=0) (v := .int .i64 mem) Y0.out))];rfl,by rw [heap_setCell_other _ _ _ _ (by simp),heap_setCell_other _ _ _ _ (by simp),heap_setCell_other _ _ _ _ (by simp)];exact Y1.out,Jh (mem:=mem) O3.out Y0.out⟩)
 clear v0 v1 v2 z0 z1 z2 l0
 generalize ((w3.setCell ⟨w.heap.size,0,none⟩ (.int .i64 mem)).setCell ⟨w.heap.size,1,none⟩ (.slice pD dl.length cD)).setCell ⟨w.heap.size,2,none⟩ (.slice pF3 fs.length cF3)=w4 at *
 go_loopg [] (muP fs) (fun g wr=>∃ (fs':List FnP) (pD pF:Option Addr) (cD cF:Nat) (cv:List Value),g=muP fs'/\Xfn w wr mem dl fs fs' pD pF cD cF cv)
 case atStart=>exact ⟨fs,pD,pF3,cD,cF3,cv,rfl,I0.out⟩
 case round =>
  obtain ⟨fs',pD,pF,cD,cF,cv,rfl,I⟩:=hrel
  have II:=Hq I
  have c0:=Cq _ _ 0 _ _ _ I.x0
  have c1:=Cq _ _ 1 _ _ _ I.x0
  have c2:=Cq _ _ 2 _ _ _ I.x0
  have l0:=(Gs I.x0)
  clear I
  go_wp2_with fail
  refine (Znk mem dl fs' pD pF cD cF wr.heap.size wr (Nat.le_refl _) (Zel II.out.ow) (Zem II.out.ow) hd II.out.ii.1 II.out.ii.2).mono ?_
  rintro e w5 ⟨g5,(⟨err,f,n,rfl,hb⟩|⟨hs,V,ho,hm⟩)⟩
  · have HB:=Hq hb
    clear hb
    unfold Ybv
    have X0:=Hq (Zb II.out.x0 g5 (by simp))
    have X1:=Hq (Zb II.out.x1 g5 (by simp))
    have G5:=Hq (Za II.out.gr g5)
    have GI:=Hq g5
    clear g5 c0 c1 c2 l0
    go_upto_region 3 with fail
    have GA:=Ga w5 (.cells #[.int .i64 0,.int .i64 0,.int .i64 0,.nilFunc] 59) none
    have XS:=Hq (heap_alloc_new w5 (.cells #[.int .i64 0,.int .i64 0,.int .i64 0,.nilFunc] 59))
    have Y0:=Hq (Zb X0.out GA (by simp))
    have Y1:=Hq (Zb X1.out GA (by simp))
    have G6:=Hq (Za G5.out GA)
    have GJ:=Hq (Za GI.out GA)
    generalize w5.alloc (.cells #[.int .i64 0,.int .i64 0,.int .i64 0,.nilFunc] 59)=w6 at *
    generalize w5.heap.size=b5 at *
    clear GA
    have v0:=Cq _ _ 0 _ _ _ Y1.out
    have v1:=Cq _ _ 1 _ _ _ Y1.out
    have v2:=Cq _ _ 2 _ _ _ Y1.out
    have z0:=frozen_of_row _ _ 0 _ _ Y1.out
    have z1:=frozen_of_row _ _ 1 _ _ Y1.out
    have z2:=frozen_of_row _ _ 2 _ _ Y1.out
    have l6:=(Gs Y1.out)
    go_wp2
    refine bodyPost_ret (v := .tuple #[Zud,.int .i64 152]) ?_ rfl ⟨fs',II.out.rc,Or.inl ⟨Zd (Zd (Zd G6.out (by omega)) (by omega)) (by omega),err,f,n,rfl,HB.out⟩⟩
    rw [results_cell_tmp rfl]
    unfold Zud
    go_simp
  · have OP:=Hq ho
    clear ho
    cases hq:Jk fs' hs V with
    | none =>
      rw [hq] at hm
      simp only [] at hm
      subst hm
      have HQ:=Hq hq
      clear hq
      unfold Ybv
      have X0:=Hq (Zb II.out.x0 g5 (by simp))
      have X1:=Hq (Zb II.out.x1 g5 (by simp))
      have G5:=Hq (Za II.out.gr g5)
      have GI:=Hq g5
      clear g5 c0 c1 c2 l0
      go_upto_region 3 with fail
      have GA:=Ga w5 (.cells #[.int .i64 0,.int .i64 0,.int .i64 0,.nilFunc] 59) none
      have XS:=Hq (heap_alloc_new w5 (.cells #[.int .i64 0,.int .i64 0,.int .i64 0,.nilFunc] 59))
      have Y0:=Hq (Zb X0.out GA (by simp))
      have Y1:=Hq (Zb X1.out GA (by simp))
      have G6:=Hq (Za G5.out GA)
      have GJ:=Hq (Za GI.out GA)
      have GAH:=Hq GA
      generalize w5.alloc (.cells #[.int .i64 0,.int .i64 0,.int .i64 0,.nilFunc] 59)=w6 at *
      generalize w5.heap.size=b5 at *
      clear GA
      have v0:=Cq _ _ 0 _ _ _ Y1.out
      have v1:=Cq _ _ 1 _ _ _ Y1.out
      have v2:=Cq _ _ 2 _ _ _ Y1.out
      have z0:=frozen_of_row _ _ 0 _ _ Y1.out
      have z1:=frozen_of_row _ _ 1 _ _ Y1.out
      have z2:=frozen_of_row _ _ 2 _ _ Y1.out
      have d0:=Cq _ _ 0 _ _ _ Y0.out
      have d1:=Cq _ _ 1 _ _ _ Y0.out
      have d2:=Cq _ _ 2 _ _ _ Y0.out
      have l6:=(Gs Y1.out)
      have l7:=(Gs Y0.out)
      go_wp2
      refine bodyPost_ret (v := .tuple #[.agg #[.int .i64 mem,.slice pD dl.length cD,.slice pF fs'.length cF],.int .i64 0]) ?_ rfl ⟨fs',II.out.rc,Or.inr ⟨hs,V,OP.out,HQ.out,_,_,cv,rfl,Zd (Zd (Zd G6.out (by omega)) (by omega)) (by omega),Jh (mem:=mem) (Yv II.out.ow GJ.out) Y1.out⟩⟩
      rw [results_cell_tmp rfl]
      go_simp
    | some p =>
      obtain ⟨⟨f,n⟩,what,fs2⟩:=p
      rw [hq] at hm
      simp only [] at hm
      obtain ⟨N,caps,hN,rfl,hC⟩:=hm
      have EN:=Zma hN
      have ST:=Hq (show Stp mem dl.length fs' fs2 from ⟨hs,V,_,_,OP.out,hq⟩)
      have HC:=Hq hC
      clear hq hC
      have X0:=Hq (Zb II.out.x0 g5 (by simp))
      have X1:=Hq (Zb II.out.x1 g5 (by simp))
      have G5:=Hq (Za II.out.gr g5)
      clear g5 c0 c1 c2 l0
      go_upto_region 3 with fail
      have GA:=Ga w5 (.cells #[.int .i64 f,.int .i64 n,.int .i64 what,.func (.func N) #[] caps] 59) none
      have XS:=Hq (heap_alloc_new w5 (.cells #[.int .i64 f,.int .i64 n,.int .i64 what,.func (.func N) #[] caps] 59))
      have Y0:=Hq (Zb X0.out GA (by simp))
      have Y1:=Hq (Zb X1.out GA (by simp))
      have G6:=Hq (Za G5.out GA)
      have GAH:=Hq GA
      generalize w5.alloc (.cells #[.int .i64 f,.int .i64 n,.int .i64 what,.func (.func N) #[] caps] 59)=w6 at *
      generalize w5.heap.size=b5 at *
      clear GA
      have c0:=Cq _ _ 0 _ _ _ XS.out
      have c1:=Cq _ _ 1 _ _ _ XS.out
      have c2:=Cq _ _ 2 _ _ _ XS.out
      have c3:=Cq _ _ 3 _ _ _ XS.out
      have l4:=(Gs XS.out)
      go_wp2_with fail
      refine (HC.out w6 GAH.out).mono ?_
      rintro e w7 ⟨D,F,cv7,rfl,g7,o7⟩
      obtain ⟨pD7,pF7,cD7,cF7,rfl,rfl⟩:=Xa o7
      have X7:=Zb Y0.out g7 (by simp)
      have HX7:=Hq X7
      have HX1:=Hq (Zb Y1.out g7 (by simp))
      have v0:=Cq _ _ 0 _ _ _ X7
      have v1:=Cq _ _ 1 _ _ _ X7
      have v2:=Cq _ _ 2 _ _ _ X7
      have z0:=frozen_of_row _ _ 0 _ _ X7
      have z1:=frozen_of_row _ _ 1 _ _ X7
      have z2:=frozen_of_row _ _ 2 _ _ X7
      have l5:=(Gs X7)
      have G7:=Hq (Za G6.out g7)
      have O7:=Hq (Jm o7 (show w.heap.size<=w6.heap.size from G6.out.size))
      clear X7 g7 o7 c0 c1 c2 c3 l4
      go_wp2
      go_roundg (muP fs2)
      case rel=>exact ⟨fs2,pD7,pF7,cD7,cF7,cv7,rfl,.step II.out.rc ST.out,(Zqm II.out.ii ST.out).1,Zd (Zd (Zd G7.out (Nat.le_refl _)) (Nat.le_refl _)) (Nat.le_refl _),by rw [Zg (o:=2) (v := .slice pF7 fs2.length cF7) (Zg (o:=1) (v := .slice pD7 dl.length cD7) (Zg (o:=0) (v := .int .i64 mem) HX7.out))];rfl,by rw [heap_setCell_other _ _ _ _ (by simp),heap_setCell_other _ _ _ _ (by simp),heap_setCell_other _ _ _ _ (by simp)];exact HX1.out,Jh (mem:=mem) O7.out HX7.out⟩
      case measure=>exact (Zqm II.out.ii ST.out).2
theorem Zen {mem:Int} {nd:Nat} {fs:List FnP} {hs:Nat->List Int} {V:List Bool} (h:OkP mem nd fs hs V):Tk mem nd fs:=Yfb h.1 h.2.1 h.2.2.1 h.2.2.2.1
theorem Zmu {mem:Int} {nd:Nat} {fs:List FnP} {hs hs':Nat->List Int} {V V':List Bool} (h:OkP mem nd fs hs V) (h':OkP mem nd fs hs' V'):∀ f,f<fs.length->hs f=hs' f:=fun f hf=>by
 obtain ⟨fn,hfn⟩:∃ fn,fs[f]? = some fn:=⟨_,List.getElem?_eq_getElem hf⟩
 obtain ⟨s,r,i,e⟩:=h.2.2.2.1 f fn hfn
 obtain ⟨s',r',i',e'⟩:=h'.2.2.2.1 f fn hfn
 have F:=Zfj (Zft h) (List.mem_of_getElem? hfn) r
 have a:=Zcv (hs:=hs) (Zen h) hfn r F
 have b:=Zcv (hs:=hs) (Zen h) hfn r' F
 rw [<- e,<- e']
 apply List.ext_getElem (i.hl.trans i'.hl.symm)
 intro x h1 h2
 have hx:x<fn.2.2.2.length:=by rw [<- i.hl];exact h1
 have ea:s.h.getD x 0=s.h[x]:=by rw [List.getD_eq_getElem?_getD,List.getElem?_eq_getElem h1];rfl
 have eb:s'.h.getD x 0=s'.h[x]:=by rw [List.getD_eq_getElem?_getD,List.getElem?_eq_getElem h2];rfl
 rw [<- ea,<- eb]
 by_cases c:Reach fn.2.2.2 x
 · rw [((b x hx).1 c).1]
 · rw [(a x hx).2 c,(b x hx).2 c]
theorem Ydu {fs:List FnP} {hs hs':Nat->List Int} (h:∀ f,f<fs.length->hs f=hs' f):Znt fs hs=Znt fs hs':=by
 funext f
 unfold Znt
 cases hf:fs[f]? with
 | none=>rfl
 | some fn=>simp only [];rw [h f (List.getElem?_eq_some_iff.1 hf).1]
theorem Yok {mem:Int} {nd:Nat} {fs:List FnP} {hs hs':Nat->List Int} {V V':List Bool} (h:OkP mem nd fs hs V) (h':OkP mem nd fs hs' V'):V=V':=by
 have hh:=Ydu (Zmu h h')
 obtain ⟨l1,l2⟩:=h.2.2.2.2
 obtain ⟨l3,l4⟩:=h'.2.2.2.2
 apply List.ext_getElem (l1.trans l3.symm)
 intro x h1 h2
 have e1:V.getD x false=V[x]:=by rw [List.getD_eq_getElem?_getD,List.getElem?_eq_getElem h1];rfl
 have e2:V'.getD x false=V'[x]:=by rw [List.getD_eq_getElem?_getD,List.getElem?_eq_getElem h2];rfl
 have a:=l2 x (by omega)
 have b:=l4 x (by omega)
 rw [hh] at a
 rw [e1] at a
 rw [e2] at b
 cases ha:V[x] <;> cases hb:V'[x]
 · rfl
 · rw [hb] at b;rw [ha] at a;exact absurd (a.2 (b.1 rfl)) (by decide)
 · rw [hb] at b;rw [ha] at a;exact absurd (b.2 (a.1 rfl)) (by decide)
 · rfl
theorem Znq {hs hs':Nat->List Int} {V:List Bool}:∀ (r i:Nat),(∀ f,i<=f->f<i+r->hs f=hs' f)->Zbk hs V r i=Zbk hs' V r i
 | 0,i,_=>rfl
 | r+1,i,h=>by
   unfold Zbk
   rw [h i (Nat.le_refl _) (by omega),Znq r (i+1) (fun f a b=>h f (by omega) (by omega))]
theorem Zyo {fs:List FnP} {hs hs':Nat->List Int} {V:List Bool} (h:∀ f,f<fs.length->hs f=hs' f):Zam fs hs V=Zam fs hs' V:=by
 have e:Zgc fs hs fs.length=Zgc fs hs' fs.length:=by
  apply List.ext_getElem?
  intro i
  unfold Zgc
  rw [List.getElem?_mapIdx,List.getElem?_mapIdx]
  cases hf:fs[i]? with
  | none=>rfl
  | some f=>simp only [Option.map_some];rw [h i (List.getElem?_eq_some_iff.1 hf).1]
 unfold Zam
 rw [e]
theorem Zgs {mem:Int} {nd:Nat} {fs:List FnP} {hs hs':Nat->List Int} {V V':List Bool} (h:OkP mem nd fs hs V) (h':OkP mem nd fs hs' V'):Jk fs hs V=Jk fs hs' V':=by
 have e:=Zmu h h'
 have v:=Yok h h'
 subst v
 unfold Jk
 rw [Znq fs.length 0 (fun f _ b=>e f (by omega)),Zyo e]
theorem Ycb {mem:Int} {nd:Nat} {fs a b:List FnP} (h:Stp mem nd fs a) (h':Stp mem nd fs b):a=b:=by
 obtain ⟨hs,V,p,what,ho,hq⟩:=h
 obtain ⟨hs',V',p',what',ho',hq'⟩:=h'
 rw [Zgs ho ho',hq'] at hq
 injection hq with hq
 injection hq with _ hq
 injection hq with _ hq
 exact hq.symm
theorem Zie {mem:Int} {nd:Nat} {fs a:List FnP} (h:Stps mem nd fs a):a=fs\/∃ c,Stp mem nd fs c/\Stps mem nd c a:=by
 induction h with
 | refl=>exact Or.inl rfl
 | step h st ih =>
   rcases ih with rfl|⟨c,h1,h2⟩
   · exact Or.inr ⟨_,st,.refl⟩
   · exact Or.inr ⟨c,h1,.step h2 st⟩
def Xbt (mem:Int) (nd:Nat) (fs:List FnP):Prop:=∃ hs V,OkP mem nd fs hs V/\Jk fs hs V=none
theorem Zvn {mem:Int} {nd:Nat} {fs c:List FnP} (h:Xbt mem nd fs) (st:Stp mem nd fs c):False:=by
 obtain ⟨hs,V,ho,hq⟩:=h
 obtain ⟨hs',V',p,what,ho',hq'⟩:=st
 rw [Zgs ho' ho,hq] at hq'
 cases hq'
theorem Znm {mem:Int} {nd:Nat}:∀ (m:Nat) (fs a b:List FnP),muP fs<=m->InP fs->Stps mem nd fs a->Stps mem nd fs b->Xbt mem nd a->Xbt mem nd b->a=b
 | m,fs,a,b,hm,hi,ha,hb,ea,eb=>by
   rcases Zie ha with rfl|⟨c,h1,h2⟩
   · rcases Zie hb with rfl|⟨d,h3,h4⟩
     · rfl
     · exact (Zvn ea h3).elim
   · rcases Zie hb with rfl|⟨d,h3,h4⟩
     · exact (Zvn eb h1).elim
     · have e:=Ycb h1 h3
       subst e
       have hg:=Zqm hi h1
       match m,hm with
       | 0,hm=>omega
       | m+1,hm=>exact Znm m c a b (by omega) hg.1 h2 h4 ea eb
theorem Yrn (g:Int->Int) (c:List Ins) (p:Nat):(reJ g c)[p]? = (c[p]?).map fun x=>if jmp x.1=true then (x.1,g x.2) else x:=by
 unfold reJ;rw [List.getElem?_map]
def Zah (fs:List FnP) (res op a:Int):Int:=if op=5 then a+1 else (Zt fs res op a).1
theorem Zmg (fs:List FnP) (fn:FnP) (pl:Nat) (op a h b:Int):Zdc fs fn pl op a h=(0,b) ↔ (op=18/\h=fn.2.2.1/\b=0)\/(op≠18/\Zah fs fn.2.2.1 op a<=h/\h - (Zt fs fn.2.2.1 op a).1+(Zt fs fn.2.2.1 op a).2<=256/\(∀ n∈Yy op a pl,n<(fn.2.2.2.length:Int))/\b=h - (Zt fs fn.2.2.1 op a).1+(Zt fs fn.2.2.1 op a).2):=by
 unfold Zdc Zah
 by_cases h18:op=18
 · rw [if_pos h18]
   by_cases hh:h=fn.2.2.1
   · rw [if_pos hh]
     constructor
     · intro e;injection e with _ e;exact Or.inl ⟨h18,hh,e.symm⟩
     · rintro (⟨_,_,rfl⟩|⟨e,_⟩)
       · rfl
       · exact absurd h18 e
   · rw [if_neg hh]
     constructor
     · intro e;injection e with e _;exact absurd e (by decide)
     · rintro (⟨_,e,_⟩|⟨e,_⟩)
       · exact absurd e hh
       · exact absurd h18 e
 · rw [if_neg h18]
   generalize (if op=5 then a+1 else (Zt fs fn.2.2.1 op a).1)=nd
   generalize (Zt fs fn.2.2.1 op a).1=t
   generalize (Zt fs fn.2.2.1 op a).2=g
   by_cases h1:h<nd
   · rw [if_pos h1]
     constructor
     · intro e;injection e with e _;exact absurd e (by decide)
     · rintro (⟨e,_⟩|⟨_,e,_⟩)
       · exact absurd e h18
       · omega
   · rw [if_neg h1]
     by_cases h2:256<h - t+g
     · rw [if_pos h2]
       constructor
       · intro e;injection e with e _;exact absurd e (by decide)
       · rintro (⟨e,_⟩|⟨_,_,e,_⟩)
         · exact absurd e h18
         · omega
     · rw [if_neg h2]
       by_cases h3:(Yy op a pl).any (fun n=>decide ((fn.2.2.2.length:Int)<=n))=true
       · rw [if_pos h3]
         constructor
         · intro e;injection e with e _;exact absurd e (by decide)
         · rintro (⟨e,_⟩|⟨_,_,_,e,_⟩)
           · exact absurd e h18
           · obtain ⟨n,hn,hd⟩:=List.any_eq_true.1 h3
             have:=e n hn
             simp at hd
             omega
       · rw [if_neg h3]
         have h4:∀ n∈Yy op a pl,n<(fn.2.2.2.length:Int):=fun n hn=>by
          by_cases c:n<(fn.2.2.2.length:Int)
          · exact c
          · exact absurd (List.any_eq_true.2 ⟨n,hn,by simp;omega⟩) h3
         constructor
         · intro e;injection e with _ e;exact Or.inr ⟨h18,by omega,by omega,h4,e.symm⟩
         · rintro (⟨e,_⟩|⟨_,_,_,_,rfl⟩)
           · exact absurd e h18
           · rfl
theorem goes_mem {op a pl n:Int}:n∈Yy op a pl ↔ ¬ (op=1\/op=2\/op=18)/\((jmp op=true/\n=a)\/(op≠14/\n=pl+1)):=by
 unfold Yy jmp
 by_cases h1:op=1\/op=2\/op=18
 · rw [if_pos h1];simp [h1]
 · rw [if_neg h1]
   by_cases h2:op=14
   · subst h2;simp
   · rw [if_neg h2]
     by_cases h3:(op=15\/op=16)/\a≠pl+1
     · rw [if_pos h3]
       obtain ⟨h3,h4⟩:=h3
       have hj:(op == 14 || op == 15 || op == 16)=true:=by rcases h3 with rfl|rfl <;> rfl
       rw [hj]
       simp only [List.mem_cons,List.not_mem_nil,or_false]
       constructor
       · rintro (e|e)
         · refine ⟨h1,?_⟩
           rcases Int.le_total a (pl+1) with c|c
           · rw [Int.min_eq_left c] at e;exact Or.inl ⟨trivial,e⟩
           · rw [Int.min_eq_right c] at e;exact Or.inr ⟨h2,e⟩
         · refine ⟨h1,?_⟩
           rcases Int.le_total a (pl+1) with c|c
           · rw [Int.max_eq_right c] at e;exact Or.inr ⟨h2,e⟩
           · rw [Int.max_eq_left c] at e;exact Or.inl ⟨trivial,e⟩
       · rintro ⟨_,⟨_,e⟩|⟨_,e⟩⟩
         · rcases Int.le_total a (pl+1) with c|c
           · exact Or.inl (by rw [Int.min_eq_left c];exact e)
           · exact Or.inr (by rw [Int.max_eq_left c];exact e)
         · rcases Int.le_total a (pl+1) with c|c
           · exact Or.inr (by rw [Int.max_eq_right c];exact e)
           · exact Or.inl (by rw [Int.min_eq_right c];exact e)
     · rw [if_neg h3]
       simp only [List.mem_cons,List.not_mem_nil,or_false]
       constructor
       · intro e;exact ⟨h1,Or.inr ⟨h2,e⟩⟩
       · rintro ⟨_,⟨hj,e⟩|⟨_,e⟩⟩
         · simp only [Bool.or_eq_true,beq_iff_eq] at hj
           have h5:op=15\/op=16:=by omega
           by_cases c:a=pl+1
           · omega
           · exact absurd ⟨h5,c⟩ h3
         · exact e
structure Zoo (fs:List FnP) (res len:Int) (H:Int->Int) (op a:Int) (p h:Int):Prop where
 ret:op=18->h=res
 need:op≠18->Zah fs res op a<=h
 top:op≠18->h - (Zt fs res op a).1+(Zt fs res op a).2<=256
 go:∀ n∈Yy op a p,0<=n->n<len/\H n=h - (Zt fs res op a).1+(Zt fs res op a).2
theorem Zbo {fs:List FnP} {fn:FnP} {H:Nat->Int} {p:Nat} {op a:Int} (hc:fn.2.2.2[p]? = some (op,a)) (ha:jmp op=true->0<=a) :
 (∃ b,Xe fs fn p (H p)=(0,b)/\∀ n∈Jc fn.2.2.2 p,n<fn.2.2.2.length/\H n=b) ↔ Zoo fs fn.2.2.1 fn.2.2.2.length (fun z=>H z.toNat) op a p (H p):=by
 have hn:∀ n∈Yy op a (p:Int),0<=n:=fun n h=>by
  obtain ⟨_,⟨h1,rfl⟩|⟨_,rfl⟩⟩:=goes_mem.1 h
  · exact ha h1
  · omega
 unfold Xe Jc
 rw [hc]
 simp only []
 constructor
 · rintro ⟨b,h1,h2⟩
   rcases (Zmg _ _ _ _ _ _ _).1 h1 with ⟨rfl,e,_⟩|⟨e,e1,e2,e3,rfl⟩
   · exact ⟨fun _=>e,fun h=>absurd rfl h,fun h=>absurd rfl h,fun n hn _=>by simp [Yy] at hn⟩
   · exact ⟨fun h=>absurd h e,fun _=>e1,fun _=>e2,fun n h h0=>⟨e3 n h,(h2 n.toNat (List.mem_map.2 ⟨n,h,rfl⟩)).2⟩⟩
 · intro F
   by_cases h18:op=18
   · subst h18
     refine ⟨0,(Zmg _ _ _ _ _ _ _).2 (Or.inl ⟨rfl,F.ret rfl,rfl⟩),fun n h => ?_⟩
     simp [Yy] at h
   · refine ⟨_,(Zmg _ _ _ _ _ _ _).2 (Or.inr ⟨h18,F.need h18,F.top h18,fun n h=>(F.go n h (hn n h)).1,rfl⟩),fun n h => ?_⟩
     obtain ⟨z,hz,rfl⟩:=List.mem_map.1 h
     have h0:=hn z hz
     have:=F.go z hz h0
     exact ⟨by omega,this.2⟩
theorem Zid (fs:List FnP) (res:Int) {op:Int} (a a':Int) (h:jmp op=true):Zt fs res op a=Zt fs res op a'/\Zah fs res op a=Zah fs res op a':=by
 have h3:op=14\/op=15\/op=16:=by unfold jmp at h;simp at h;omega
 rcases h3 with rfl|rfl|rfl <;> exact ⟨rfl,rfl⟩
theorem Yfu {fs:List FnP} {fn:FnP} {H:Nat->Int} (hj:Zeb fn.2.2.2) (hall:∀ p,p<fn.2.2.2.length->∃ b,Xe fs fn p (H p)=(0,b)/\∀ n∈Jc fn.2.2.2 p,n<fn.2.2.2.length/\H n=b) {a b:Nat} (ha:a<fn.2.2.2.length) (h:Zap fn.2.2.2 a=some b):b<fn.2.2.2.length/\H b=H a:=by
 have hx:fn.2.2.2[a]? = some (Zn fn.2.2.2 a):=by
  unfold Zn
  rw [List.getD_eq_getElem?_getD,List.getElem?_eq_getElem ha];rfl
 obtain ⟨⟨op,v⟩,hxy⟩:∃ x,Zn fn.2.2.2 a=x:=⟨_,rfl⟩
 rw [hxy] at hx
 have F:=(Zbo (H:=H) hx (fun hh=>(hj _ (List.mem_of_getElem? hx) hh).1)).1 (hall a ha)
 unfold Zap at h
 rw [hxy] at h
 simp only [] at h
 by_cases h0:op=0
 · subst h0
   rw [if_pos rfl] at h
   injection h with h
   subst h
   have:=F.go ((a:Int)+1) (goes_mem.2 ⟨by omega,Or.inr ⟨by omega,rfl⟩⟩) (by omega)
   refine ⟨by omega,?_⟩
   have e:((a:Int)+1).toNat=a+1:=by omega
   simp only [e] at this
   have ht:Zt fs fn.2.2.1 0 v=(0,0):=rfl
   rw [ht] at this
   simp only [] at this
   omega
 · rw [if_neg h0] at h
   by_cases h14:op=14
   · subst h14
     rw [if_pos rfl] at h
     injection h with h
     have hv:=(hj _ (List.mem_of_getElem? hx) rfl)
     simp only [] at hv
     have:=F.go v (goes_mem.2 ⟨by omega,Or.inl ⟨rfl,rfl⟩⟩) hv.1
     simp only [h] at this
     have ht:Zt fs fn.2.2.1 14 v=(0,0):=rfl
     rw [ht] at this
     simp only [] at this
     exact ⟨by omega,by omega⟩
   · rw [if_neg h14] at h;cases h
theorem Znn {fs:List FnP} {fn:FnP} {H:Nat->Int} (hj:Zeb fn.2.2.2) (hall:∀ p,p<fn.2.2.2.length->∃ b,Xe fs fn p (H p)=(0,b)/\∀ n∈Jc fn.2.2.2 p,n<fn.2.2.2.length/\H n=b):∀ (g:Nat) (seen:List Nat) (a:Nat),a<fn.2.2.2.length->Zjf fn.2.2.2 g seen a<fn.2.2.2.length/\H (Zjf fn.2.2.2 g seen a)=H a
 | 0,seen,a,ha=>⟨ha,rfl⟩
 | g+1,seen,a,ha=>by
   unfold Zjf
   by_cases hm:a∈seen
   · rw [if_pos hm];exact ⟨ha,rfl⟩
   · rw [if_neg hm]
     cases hs:Zap fn.2.2.2 a with
     | none=>exact ⟨ha,rfl⟩
     | some b =>
       obtain ⟨h1,h2⟩:=Yfu hj hall ha hs
       have:=Znn hj hall g (a::seen) b h1
       simp only []
       exact ⟨this.1,this.2.trans h2⟩
def Zoa (fs fs':List FnP):Prop:=fs.length=fs'.length/\∀ (i:Nat) (f f':FnP),fs[i]? = some f->fs'[i]? = some f'->f.1=f'.1/\f.2.1=f'.2.1/\f.2.2.1=f'.2.2.1
theorem Zjv {fs fs':List FnP} (h:Zoa fs fs') (res op a:Int):Zt fs res op a=Zt fs' res op a:=by
 unfold Zt
 by_cases h17:op=17
 · rw [if_pos h17,if_pos h17]
   cases hf:fs[a.toNat]? with
   | none =>
     have:fs'[a.toNat]? = none:=by rw [List.getElem?_eq_none_iff] at hf ⊢;rw [<- h.1];exact hf
     rw [this]
   | some f =>
     obtain ⟨f',hf'⟩:∃ f',fs'[a.toNat]? = some f':=⟨_,List.getElem?_eq_getElem (by rw [<- h.1];exact (List.getElem?_eq_some_iff.1 hf).1)⟩
     obtain ⟨e1,_,e3⟩:=h.2 _ f f' hf hf'
     rw [hf']
     simp only [e1,e3]
 · rw [if_neg h17,if_neg h17]
theorem Yhs {fs fs':List FnP} (h:Zoa fs fs') (res op a:Int):Zah fs res op a=Zah fs' res op a:=by
 unfold Zah
 rw [Zjv h]
def Zzc (c:List Ins):Prop:=∀ x∈c,∃ s,Ja x.1=some s/\Zrp s.2.1.toNat x.2=true
theorem Zvo:∀ {c:List Ins},Zzc c->Zoj c=0
 | [],_=>rfl
 | x::r,h=>by
   obtain ⟨s,h1,h2⟩:=h x (List.mem_cons_self ..)
   unfold Zoj
   rw [h1]
   simp only []
   rw [if_pos h2]
   exact Zvo fun y hy=>h y (List.mem_cons_of_mem _ hy)
structure Xcb (f:FnP):Prop where
 a:0<=f.1/\f.1<=16/\f.1<=f.2.1/\f.2.1<=64/\0<=f.2.2.1/\f.2.2.1<=1
 l:1<=f.2.2.2.length/\f.2.2.2.length<=4096
 e:Zzc f.2.2.2
theorem Yvz {f:FnP} (h:fnE f=0):Xcb f:=by
 unfold fnE at h
 by_cases c:f.1<0\/16<f.1\/f.2.1<f.1\/64<f.2.1\/f.2.2.1<0\/1<f.2.2.1\/f.2.2.2.length<1\/4096<f.2.2.2.length
 · rw [if_pos c] at h;exact absurd h (by decide)
 · rw [if_neg c] at h
   exact ⟨by omega,by omega,fun x hx=>Znp h x hx⟩
theorem Xay {f:FnP} (h:Xcb f):fnE f=0:=by
 unfold fnE
 have a:=h.a
 have l:=h.l
 rw [if_neg (by omega)]
 exact Zvo h.e
theorem Yjs:∀ {fs:List FnP},(∀ f∈fs,Xcb f)->Ydi fs=0
 | [],_=>rfl
 | f::r,h=>by
   unfold Ydi
   rw [if_pos (Xay (h f (List.mem_cons_self ..)))]
   exact Yjs fun g hg=>h g (List.mem_cons_of_mem _ hg)
structure Xfp (mem:Int) (nd:Nat) (fs:List FnP):Prop where
 m:0<=mem/\mem<=65536/\nd<=mem
 l:1<=fs.length/\fs.length<=64
 f:∀ f∈fs,Xcb f
theorem Zuf {mem:Int} {nd:Nat} {fs:List FnP} (h:Zaz mem nd fs=0):Xfp mem nd fs:=by
 unfold Zaz at h
 by_cases c:mem<0\/65536<mem\/mem<nd\/fs.length<1\/64<fs.length
 · rw [if_pos c] at h;exact absurd h (by decide)
 · rw [if_neg c] at h
   exact ⟨by omega,by omega,fun f hf=>Yvz (Zje h f hf)⟩
theorem Yug {mem:Int} {nd:Nat} {fs:List FnP} (h:Xfp mem nd fs):Zaz mem nd fs=0:=by
 unfold Zaz
 have m:=h.m
 have l:=h.l
 rw [if_neg (by omega)]
 exact Yjs h.f
theorem Yiy {op:Int} (h:jmp op=true):∃ s,Ja op=some s/\s.2.1=3:=by
 have h3:op=14\/op=15\/op=16:=by unfold jmp at h;simp at h;omega
 rcases h3 with rfl|rfl|rfl <;> exact ⟨_,rfl,rfl⟩
theorem Yiz {op a:Int} (h:jmp op=true) (h0:0<=a) (h1:a<4096):∃ s,Ja (op,a).1=some s/\Zrp s.2.1.toNat (op,a).2=true:=by
 obtain ⟨s,hs,h3⟩:=Yiy h
 refine ⟨s,hs,?_⟩
 rw [h3]
 show (decide (0<=a) && decide (a<4096))=true
 simp [h0,h1]
theorem Ygy {nf len:Nat} {lo op a:Int} (h:jmp op=true):opE nf len lo (op,a)=if (len:Int)<=a then 131 else 0:=by
 have h3:op=14\/op=15\/op=16:=by unfold jmp at h;simp at h;omega
 unfold opE
 rw [if_pos h3]
theorem Ygx {nf len len':Nat} {lo op a:Int} (h:jmp op=false):opE nf len lo (op,a)=opE nf len' lo (op,a):=by
 have h3:¬ (op=14\/op=15\/op=16):=by unfold jmp at h;simp at h;omega
 unfold opE
 rw [if_neg h3,if_neg h3]
def Zaf (fs:List FnP) (fn:FnP) (H:Nat->Int):Prop:=H 0=0/\∀ p,p<fn.2.2.2.length->∃ b,Xe fs fn p (H p)=(0,b)/\∀ n∈Jc fn.2.2.2 p,n<fn.2.2.2.length/\H n=b
theorem Zfn {fs:List FnP} {fn:FnP} {H:Nat->Int} (h:Zaf fs fn H):Ylu fs fn H:=⟨h.1,fun p hp _=>h.2 p hp⟩
theorem Zny {mem:Int} {nd:Nat} {fs:List FnP} {hs:Nat->List Int} {V:List Bool} (ho:OkP mem nd fs hs V) (hd:Zbk hs V fs.length 0=none) {fn:FnP} (hf:fn∈fs):∃ H,Zaf fs fn H:=by
 obtain ⟨i,hfi⟩:=List.getElem?_of_mem hf
 obtain ⟨s,r,inv,e⟩:=ho.2.2.2.1 i fn hfi
 have F:=Zfj (Zft ho) hf r
 have hh:=Zcv (hs:=hs) (Zen ho) hfi r F
 refine ⟨_,F.z,fun p hp=>F.st p hp ?_⟩
 by_cases c:Reach fn.2.2.2 p
 · exact c
 · have h1:=(hh p hp).2 c
   have h2:=(Zjh hd i (Nat.zero_le _) (by have:=(List.getElem?_eq_some_iff.1 hfi).1;omega)).2 p (by rw [<- e,inv.hl];exact hp)
   rw [<- e] at h2
   omega
theorem Zbh {c:List Ins} {p:Nat} (h:p<c.length):∃ op a,c[p]? = some (op,a):=by
 exact ⟨(c[p]).1,(c[p]).2,List.getElem?_eq_getElem h⟩
theorem Zil (fs:List FnP):Zoa fs (Xp fs):=by
 refine ⟨(Zcz fs).symm,fun i f f' h h' => ?_⟩
 unfold Xp at h'
 rw [List.getElem?_map,h] at h'
 simp at h'
 subst h'
 exact ⟨rfl,rfl,rfl⟩
theorem Zfk {fs fs':List FnP} (h:Zoa fs fs') {res len:Int} {H:Int->Int} {op a p x:Int} (F:Zoo fs res len H op a p x):Zoo fs' res len H op a p x :=
 ⟨F.ret,fun e=>by rw [<- Yhs h];exact F.need e,fun e=>by rw [<- Zjv h];exact F.top e,fun n hn h0=>by rw [<- Zjv h];exact F.go n hn h0⟩
theorem Ybx {fs:List FnP} {fn:FnP} {H:Nat->Int} (hj:Zeb fn.2.2.2) (h:Zaf fs fn H):Zaf (Xp fs) (Zv fn (Yh fn.2.2.2)) H:=by
 obtain ⟨ar,lo,rs,c⟩:=fn
 show Zaf (Xp fs) (ar,lo,rs,Yh c) H
 have hj:Zeb c:=hj
 have hl:=Zef c
 refine ⟨h.1,fun p hp => ?_⟩
 have hp':p<c.length:=by rw [<- hl];exact hp
 obtain ⟨op,a,hx⟩:=Zbh hp'
 have F:Zoo fs rs c.length (fun z=>H z.toNat) op a p (H p):=(Zbo (fn:=(ar,lo,rs,c)) (H:=H) hx (fun hh=>(hj _ (List.mem_of_getElem? hx) hh).1)).1 (h.2 p hp')
 have hx':(Yh c)[p]? = some (if jmp op=true then (op,((Zhk c a.toNat:Nat):Int)) else (op,a)):=by
  unfold Yh
  rw [Yrn,hx]
  rfl
 by_cases hjm:jmp op=true
 · rw [if_pos hjm] at hx'
   have ha:=hj _ (List.mem_of_getElem? hx) hjm
   simp only [] at ha
   obtain ⟨t,rfl⟩:=Int.eq_ofNat_of_zero_le ha.1
   rw [Int.toNat_natCast] at hx'
   have he':Zhk c t<c.length/\H (Zhk c t)=H t:=Znn (fn:=(ar,lo,rs,c)) (H:=H) hj h.2 (c.length+1) [] t (by show t<c.length;omega)
   refine (Zbo (fn:=(ar,lo,rs,Yh c)) hx' (fun _=>by omega)).2 ?_
   have tj:=Zid fs rs (t:Int) (Zhk c t:Int) hjm
   refine Zfk (Zil fs) ⟨F.ret,fun e=>by rw [<- tj.2];exact F.need e,fun e=>by rw [<- tj.1];exact F.top e,fun n hn h0 => ?_⟩
   rw [<- tj.1,hl]
   obtain ⟨g1,⟨_,rfl⟩|⟨g2,rfl⟩⟩:=goes_mem.1 hn
   · have:=F.go t (goes_mem.2 ⟨g1,Or.inl ⟨hjm,rfl⟩⟩) (by omega)
     refine ⟨by omega,?_⟩
     simp only [Int.toNat_natCast] at this ⊢
     rw [he'.2]
     exact this.2
   · exact F.go ((p:Int)+1) (goes_mem.2 ⟨g1,Or.inr ⟨g2,rfl⟩⟩) (by omega)
 · rw [if_neg hjm] at hx'
   refine (Zbo (fn:=(ar,lo,rs,Yh c)) hx' (fun hh=>absurd hh hjm)).2 (Zfk (Zil fs) ⟨F.ret,F.need,F.top,fun n hn h0 => ?_⟩)
   rw [hl]
   exact F.go n hn h0
theorem Yff {mem:Int} {nd:Nat} {fs:List FnP} {hs:Nat->List Int} {V:List Bool} (ho:OkP mem nd fs hs V) (hd:Zbk hs V fs.length 0=none):Tk mem nd (Xp fs):=by
 have P:=Zuf ho.1
 have PO:=Zft ho
 have fit:∀ fn∈fs,∃ H,Zaf fs fn H:=fun fn hf=>Zny ho hd hf
 have hmem:∀ g∈Xp fs,∃ fn∈fs,g=Zv fn (Yh fn.2.2.2):=fun g hg=>by
  obtain ⟨fn,hf,rfl⟩:=List.mem_map.1 hg
  exact ⟨fn,hf,rfl⟩
 have hend:∀ fn∈fs,∀ x∈Yh fn.2.2.2,jmp x.1=true->0<=x.2/\x.2<fn.2.2.2.length:=fun fn hf x hx hj=>by
  obtain ⟨y,hy,hjy,rfl⟩:=Zou hx hj
  have hin:=Jz PO hf y hy hjy
  obtain ⟨H,A⟩:=fit fn hf
  have:=(Znn (H:=H) (Jz PO hf) A.2 (fn.2.2.2.length+1) [] y.2.toNat (by omega)).1
  exact ⟨by simp only [];omega,by simp only [Zhk];omega⟩
 refine ⟨Yug ⟨P.m,by rw [Zcz];exact P.l,fun g hg => ?_⟩,?_,fun g hg => ?_,fun g hg => ?_⟩
 · obtain ⟨fn,hf,rfl⟩:=hmem g hg
   have K:=P.f fn hf
   refine ⟨K.a,by show 1<=(Yh fn.2.2.2).length/\(Yh fn.2.2.2).length<=4096;rw [Zef];exact K.l,fun x hx => ?_⟩
   by_cases hj:jmp x.1=true
   · have:=hend fn hf x hx hj
     have hl:=K.l
     exact Yiz hj this.1 (by omega)
   · have hx2:x∈Yh fn.2.2.2:=hx
     unfold Yh reJ at hx2
     obtain ⟨y,hy,rfl⟩:=List.mem_map.1 hx2
     by_cases hjy:jmp y.1=true
     · rw [if_pos hjy] at hj;exact absurd hjy hj
     · rw [if_neg hjy];exact K.e y hy
 · obtain ⟨f,h0,h1,h2⟩:=ho.2.1
   refine ⟨Zv f (Yh f.2.2.2),?_,h1,h2⟩
   unfold Xp
   rw [List.getElem?_map,h0];rfl
 · obtain ⟨fn,hf,rfl⟩:=hmem g hg
   intro x hx
   have hx2:x∈Yh fn.2.2.2:=hx
   show opE (Xp fs).length (Yh fn.2.2.2).length fn.2.1 x=0
   rw [Zef,Zcz]
   by_cases hj:jmp x.1=true
   · have:=hend fn hf x hx2 hj
     obtain ⟨op,a⟩:=x
     rw [Ygy hj,if_neg (by simp only [] at this;omega)]
   · unfold Yh reJ at hx2
     obtain ⟨y,hy,rfl⟩:=List.mem_map.1 hx2
     by_cases hjy:jmp y.1=true
     · rw [if_pos hjy] at hj;exact absurd hjy hj
     · rw [if_neg hjy];exact ho.2.2.1 fn hf y hy
 · obtain ⟨fn,hf,rfl⟩:=hmem g hg
   obtain ⟨H,A⟩:=fit fn hf
   exact ⟨H,Zfn (Ybx (Jz PO hf) A)⟩
def Zur:Nat->Nat->List Ins
 | _,0=>[]
 | k,m+1=>(3,(k:Int))::(20,0)::Zur (k+1) m
def Xfg:Nat->Nat->Int
 | _,0=>0
 | k,m+1=>(k:Int)+Xfg (k+1) m
theorem Zgm:∀ (m k:Nat),(Zur k m).length=2*m
 | 0,_=>rfl
 | m+1,k=>by simp [Zur,Zgm m];omega
theorem Zuq:∀ (m k j:Nat),j<m->(Zur k m)[2*j]? = some (3,((k+j:Nat):Int))/\(Zur k m)[2*j+1]? = some (20,0)
 | 0,_,j,h=>absurd h (Nat.not_lt_zero _)
 | m+1,k,0,_=>by simp [Zur]
 | m+1,k,j+1,h=>by
   have:=Zuq m (k+1) j (by omega)
   rw [show 2*(j+1)=2*j+1+1 by omega,Zur,List.getElem?_cons_succ,List.getElem?_cons_succ,List.getElem?_cons_succ,List.getElem?_cons_succ,show k+(j+1)=k+1+j by omega]
   exact this
structure Lg (S:Int) (s:Int) (k m:Nat) (C:List Ins) (c:List Ins):Prop where
 e:c=(3,s)::(Zur k m++C)
 sum:s+Xfg k m=S
 len:c.length<=4096
 ne:1<=C.length
 op:∀ (i:Nat) (x:Ins),C[i]? = some x->x=(0,0)\/(x.1=14/\(1+2*m+i:Nat)<x.2/\x.2<c.length)\/x=(18,0)\/x=(4,0)
 go:∀ (i:Nat) (x:Ins),C[i]? = some x->Reach c (1+2*m+i)->x.1≠4/\(x.1=0->1+2*m+i+1<c.length)
def hL (m x:Nat):Int:=if x<1+2*m then (if x=0 then 0 else if x % 2=1 then 1 else 2) else 1
section
variable {S s:Int} {k m:Nat} {C c:List Ins}
theorem Yak (L:Lg S s k m C c):c.length=1+2*m+C.length:=by
 rw [L.e];simp [Zgm];omega
theorem Xgi (L:Lg S s k m C c):c[0]? = some (3,s):=by rw [L.e];rfl
theorem Yrt (L:Lg S s k m C c) {j:Nat} (h:j<m):c[1+2*j]? = some (3,((k+j:Nat):Int))/\c[2+2*j]? = some (20,0):=by
 have q:=Zuq m k j h
 have hl:=Zgm m k
 rw [L.e,show 1+2*j=2*j+1 by omega,show 2+2*j=(2*j+1)+1 by omega,List.getElem?_cons_succ,List.getElem?_cons_succ,List.getElem?_append_left (by omega),List.getElem?_append_left (by omega)]
 exact q
theorem Xgh (L:Lg S s k m C c) (i:Nat):c[1+2*m+i]? = C[i]? := by
 rw [L.e,show 1+2*m+i=(2*m+i)+1 by omega,List.getElem?_cons_succ,List.getElem?_append_right (by rw [Zgm];omega),Zgm]
 congr 1;omega
theorem Yvh (L:Lg S s k m C c) {p:Nat} (hp:p<c.length):(p=0/\c[p]? = some (3,s))\/(∃ j,j<m/\p=1+2*j/\c[p]? = some (3,((k+j:Nat):Int)))\/(∃ j,j<m/\p=2+2*j/\c[p]? = some (20,0))\/(∃ i x,p=1+2*m+i/\C[i]? = some x/\c[p]? = some x):=by
 have hl:=Yak L
 by_cases h0:p=0
 · subst h0;exact Or.inl ⟨rfl,Xgi L⟩
 · by_cases h1:p<1+2*m
   · right
     obtain ⟨j,hj⟩:∃ j,p=1+2*j\/p=2+2*j:=⟨(p - 1) / 2,by omega⟩
     rcases hj with e|e
     · exact Or.inl ⟨j,by omega,e,by rw [e];exact (Yrt L (by omega)).1⟩
     · exact Or.inr (Or.inl ⟨j,by omega,e,by rw [e];exact (Yrt L (by omega)).2⟩)
   · right;right;right
     obtain ⟨i,rfl⟩:∃ i,p=1+2*m+i:=⟨p - (1+2*m),by omega⟩
     exact ⟨i,C[i]'(by omega),rfl,List.getElem?_eq_getElem _,by rw [Xgh L];exact List.getElem?_eq_getElem _⟩
theorem Zif (fs:List FnP) (fn:FnP) {p:Nat} {op a h t g:Int} (hc:fn.2.2.2[p]? = some (op,a)) (h18:op≠18) (h5:op≠5) (ht:Zt fs fn.2.2.1 op a=(t,g)) (h0:t<=h) (h1:h - t+g<=256) (hg:∀ n∈Yy op a p,n<(fn.2.2.2.length:Int)):Xe fs fn p h=(0,h - t+g):=by
 unfold Xe
 rw [hc]
 simp only []
 unfold Zdc
 rw [if_neg h18,ht,if_neg h5]
 simp only []
 rw [if_neg (by omega),if_neg (by omega),if_neg]
 intro he
 obtain ⟨n,hn,hd⟩:=List.any_eq_true.1 he
 have:=hg n hn
 simp at hd
 omega
theorem Zig (fs:List FnP) (fn:FnP) {p:Nat} {a h:Int} (hc:fn.2.2.2[p]? = some (3,a)) (h0:0<=h) (h1:h<=255) (hp:p+1<fn.2.2.2.length):Xe fs fn p h=(0,h+1)/\Jc fn.2.2.2 p=[p+1]:=by
 have hg:Yy 3 a p=[(p:Int)+1]:=by simp [Yy]
 have ht:Zt fs fn.2.2.1 3 a=(0,1):=rfl
 constructor
 · have:=Zif fs fn (h:=h) hc (by decide) (by decide) ht (by omega) (by omega) (by rw [hg];simp;omega)
   rwa [show h - 0+1=h+1 by omega] at this
 · unfold Jc
   rw [hc]
   simp only []
   rw [hg]
   simp only [List.map_cons,List.map_nil]
   congr 1
theorem Yfy (fs:List FnP) (fn:FnP) {p:Nat} {a h:Int} (hc:fn.2.2.2[p]? = some (20,a)) (h0:2<=h) (h1:h<=256) (hp:p+1<fn.2.2.2.length):Xe fs fn p h=(0,h - 1)/\Jc fn.2.2.2 p=[p+1]:=by
 have hg:Yy 20 a p=[(p:Int)+1]:=by simp [Yy]
 have ht:Zt fs fn.2.2.1 20 a=(2,1):=rfl
 constructor
 · have:=Zif fs fn (h:=h) hc (by decide) (by decide) ht (by omega) (by omega) (by rw [hg];simp;omega)
   rwa [show h - 2+1=h - 1 by omega] at this
 · unfold Jc
   rw [hc]
   simp only []
   rw [hg]
   simp only [List.map_cons,List.map_nil]
   congr 1
theorem Yfv (fs:List FnP) (fn:FnP) {p:Nat} {a h:Int} (hc:fn.2.2.2[p]? = some (0,a)) (h0:0<=h) (h1:h<=256) (hp:p+1<fn.2.2.2.length):Xe fs fn p h=(0,h)/\Jc fn.2.2.2 p=[p+1]:=by
 have hg:Yy 0 a p=[(p:Int)+1]:=by simp [Yy]
 have ht:Zt fs fn.2.2.1 0 a=(0,0):=rfl
 constructor
 · have:=Zif fs fn (h:=h) hc (by decide) (by decide) ht (by omega) (by omega) (by rw [hg];simp;omega)
   rwa [show h - 0+0=h by omega] at this
 · unfold Jc
   rw [hc]
   simp only []
   rw [hg]
   simp only [List.map_cons,List.map_nil]
   congr 1
theorem Ycc (fs:List FnP) (fn:FnP) {p:Nat} {a h:Int} (hc:fn.2.2.2[p]? = some (14,a)) (h0:0<=h) (h1:h<=256) (ha:a<fn.2.2.2.length):Xe fs fn p h=(0,h)/\Jc fn.2.2.2 p=[a.toNat]:=by
 have hg:Yy 14 a p=[a]:=by simp [Yy]
 have ht:Zt fs fn.2.2.1 14 a=(0,0):=rfl
 constructor
 · have:=Zif fs fn (h:=h) hc (by decide) (by decide) ht (by omega) (by omega) (by rw [hg];simp;omega)
   rwa [show h - 0+0=h by omega] at this
 · unfold Jc
   rw [hc]
   simp only []
   rw [hg]
   rfl
theorem Ztm (fs:List FnP) (fn:FnP) {p:Nat} {a h:Int} (hc:fn.2.2.2[p]? = some (18,a)) (h0:h=fn.2.2.1):Xe fs fn p h=(0,0)/\Jc fn.2.2.2 p=[]:=by
 constructor
 · unfold Xe
   rw [hc]
   simp only []
   unfold Zdc
   rw [if_pos rfl,if_pos h0]
 · unfold Jc
   rw [hc]
   rfl
theorem Yit (L:Lg S s k m C c):Ylu [(0,0,1,c)] (0,0,1,c) (hL m):=by
 have hl:=Yak L
 have hne:=L.ne
 refine ⟨by unfold hL;rw [if_pos (by omega),if_pos rfl],fun p hp hr => ?_⟩
 simp only [] at hp hr ⊢
 rcases Yvh L hp with ⟨rfl,hc⟩|⟨j,hj,e,hc⟩|⟨j,hj,e,hc⟩|⟨i,x,e,hx,hc⟩
 · have e0:hL m 0=0:=by unfold hL;rw [if_pos (by omega),if_pos rfl]
   obtain ⟨h1,h2⟩:=Zig [(0,0,1,c)] (0,0,1,c) (h:=0) hc (by decide) (by decide) (by simp only [];omega)
   refine ⟨_,by rw [e0];exact h1,fun n hn => ?_⟩
   rw [show (0,0,1,c).2.2.2=c from rfl] at h2
   rw [h2] at hn
   simp at hn
   subst hn
   refine ⟨by omega,?_⟩
   unfold hL
   by_cases hm:1<1+2*m
   · rw [if_pos hm,if_neg (by decide),if_pos (by decide)];rfl
   · rw [if_neg hm];rfl
 · have e0:hL m p=1:=by unfold hL;rw [if_pos (by omega),if_neg (by omega),if_pos (by omega)]
   obtain ⟨h1,h2⟩:=Zig [(0,0,1,c)] (0,0,1,c) (h:=1) hc (by decide) (by decide) (by simp only [];omega)
   refine ⟨_,by rw [e0];exact h1,fun n hn => ?_⟩
   rw [show (0,0,1,c).2.2.2=c from rfl] at h2
   rw [h2] at hn
   simp at hn
   subst hn
   refine ⟨by omega,?_⟩
   unfold hL
   rw [if_pos (by omega),if_neg (by omega),if_neg (by omega)];rfl
 · have e0:hL m p=2:=by unfold hL;rw [if_pos (by omega),if_neg (by omega),if_neg (by omega)]
   obtain ⟨h1,h2⟩:=Yfy [(0,0,1,c)] (0,0,1,c) (h:=2) hc (by decide) (by decide) (by simp only [];omega)
   refine ⟨_,by rw [e0];exact h1,fun n hn => ?_⟩
   rw [show (0,0,1,c).2.2.2=c from rfl] at h2
   rw [h2] at hn
   simp at hn
   subst hn
   refine ⟨by omega,?_⟩
   unfold hL
   by_cases hm:p+1<1+2*m
   · rw [if_pos hm,if_neg (by omega),if_pos (by omega)];rfl
   · rw [if_neg hm];rfl
 · have e1:∀ q,1+2*m<=q->hL m q=1:=fun q hq=>by unfold hL;rw [if_neg (by omega)]
   rw [e] at hr
   obtain ⟨g1,g2⟩:=L.go i x hx hr
   rw [e1 p (by omega)]
   rcases L.op i x hx with rfl|⟨q1,q2,q3⟩|rfl|rfl
   · have:=g2 rfl
     obtain ⟨h1,h2⟩:=Yfv [(0,0,1,c)] (0,0,1,c) (h:=1) hc (by decide) (by decide) (by simp only [];omega)
     refine ⟨_,h1,fun n hn => ?_⟩
     rw [show (0,0,1,c).2.2.2=c from rfl] at h2
     rw [h2] at hn
     simp at hn
     subst hn
     exact ⟨by omega,e1 _ (by omega)⟩
   · obtain ⟨op,a⟩:=x
     simp only [] at q1 q2 q3
     subst q1
     obtain ⟨h1,h2⟩:=Ycc [(0,0,1,c)] (0,0,1,c) (h:=1) hc (by decide) (by decide) q3
     refine ⟨_,h1,fun n hn => ?_⟩
     rw [show (0,0,1,c).2.2.2=c from rfl] at h2
     rw [h2] at hn
     simp at hn
     subst hn
     exact ⟨by omega,e1 _ (by omega)⟩
   · obtain ⟨h1,h2⟩:=Ztm [(0,0,1,c)] (0,0,1,c) (h:=1) hc rfl
     refine ⟨_,h1,fun n hn => ?_⟩
     rw [show (0,0,1,c).2.2.2=c from rfl] at h2
     rw [h2] at hn
     cases hn
   · exact absurd rfl g1
end
end Go.Proofs.Ythlkflagancdfaa.OT
