/-
  Part of a proof: contracts of functions and lemmas, each stated by its own theorem. Conditions: as each theorem states.
-/
import Derived.Test.YthlkflagancdfaaML26
import Derived.Laws.EntriesVeiled
import Derived.Test.YthlkflagancdfaaML12
import Derived.Test.YthlkflagancdfaaML05
import Derived.Test.YthlkflagancdfaaML02
set_option linter.unusedSimpArgs false
set_option linter.unusedVariables false
set_option maxRecDepth 100000
set_option maxHeartbeats 16000000
namespace Go.Proofs.Ythlkflagancdfaa.OT
open Go.RowKit Go.Great
open Go.Proofs.Ythlkflagancdfaa.CK
def Znn (c:List Ins) (k:Nat):Int:=((c.filter fun x=>jmp x.1 && x.2 == (k:Int)).length:Nat)
theorem Zuy (c:List Ins) (x:Ins) (k:Nat):Znn (c++[x]) k=Znn c k+if jmp x.1=true/\x.2=(k:Int) then 1 else 0:=by
 unfold Znn
 rw [List.filter_append,List.length_append]
 by_cases h:jmp x.1=true/\x.2=(k:Int)
 · rw [if_pos h];simp [List.filter_cons,h.1,h.2]
 · rw [if_neg h]
   have:(jmp x.1 && x.2 == (k:Int))=false:=by
    cases h1:jmp x.1 with
    | false=>rfl
    | true=>simp;intro e;exact h ⟨h1,e⟩
   simp [List.filter_cons,this]
theorem Ysz (c:List Ins) (k:Nat):0<=Znn c k/\Znn c k<=c.length:=by
 unfold Znn
 have:=List.length_filter_le (fun x:Ins=>jmp x.1 && x.2 == (k:Int)) c
 omega
theorem Zod (c:List Ins) (k:Nat):Zba c k=false ↔ Znn c k=0:=by
 unfold Zba Znn
 rw [List.any_eq_false]
 constructor
 · intro h
   have:(c.filter fun x=>jmp x.1 && x.2 == (k:Int))=[]:=by
    rw [List.filter_eq_nil_iff]
    intro x hx
    have:=h x hx
    simpa using this
   rw [this];rfl
 · intro h x hx hb
   have h1:(c.filter fun x=>jmp x.1 && x.2 == (k:Int)).length=0:=by omega
   have h2:=List.eq_nil_of_length_eq_zero h1
   rw [List.filter_eq_nil_iff] at h2
   exact h2 x hx hb
theorem Yat {c:List Ins} {j:Nat} {x:Ins} (h:c[j]? = some x):c.take (j+1)=c.take j++[x]:=by
 obtain ⟨hj,e⟩:=List.getElem?_eq_some_iff.1 h
 rw [List.take_succ_eq_append_getElem hj,e]
theorem Yfy {c:List Ins} {n L:Nat} (h1:1<=L) (h3:L<=Jl c n):L<=3:=by
 unfold Jl at h3
 by_cases a:n+1<c.length/\Zba c (n+1)=false
 · rw [if_pos a] at h3
   by_cases b:n+2<c.length/\Zba c (n+2)=false
   · rw [if_pos b] at h3;exact h3
   · rw [if_neg b] at h3;omega
 · rw [if_neg a] at h3;omega
theorem Ybo {c:List Ins} {n L:Nat} (h1:1<=L) (h3:L<=Jl c n) (hL:L<3) (hn:n+L<c.length) (ht:Zba c (n+L)=false):L+1<=Jl c n:=by
 unfold Jl at h3 ⊢
 rcases (by omega:L=1\/L=2) with rfl|rfl
 · rw [if_pos ⟨hn,ht⟩];split <;> omega
 · by_cases a:n+1<c.length/\Zba c (n+1)=false
   · rw [if_pos a,if_pos ⟨hn,ht⟩];omega
   · rw [if_neg a] at h3;omega
theorem Yfx {c:List Ins} {n L:Nat} (h1:1<=L) (h3:L<=Jl c n) (h:¬ (L<3/\n+L<c.length/\Zba c (n+L)=false)):Jl c n=L:=by
 unfold Jl at h3 ⊢
 rcases (by have:=Yfy h1 (show L<=Jl c n from h3);omega:L=1\/L=2\/L=3) with rfl|rfl|rfl
 · rw [if_neg (fun a=>h ⟨by omega,a.1,a.2⟩)]
 · by_cases a:n+1<c.length/\Zba c (n+1)=false
   · rw [if_pos a,if_neg (fun b=>h ⟨by omega,b.1,b.2⟩)]
   · rw [if_neg a] at h3;omega
 · by_cases a:n+1<c.length/\Zba c (n+1)=false
   · rw [if_pos a] at h3 ⊢
     by_cases b:n+2<c.length/\Zba c (n+2)=false
     · rw [if_pos b]
     · rw [if_neg b] at h3;omega
   · rw [if_neg a] at h3;omega
def Yjh (w:World) (pv:Array Value) (o:Option (Nat × Nat × Zaq)) (e:Ending) (w':World):Prop:=w.grownBy w' none/\match o with
 | none=>e = .returned (.tuple #[.agg #[.int .i64 0,.int .i64 0,.int .i64 0,.nilFunc],.bool false])
 | some (f,n,x)=>∃ (b1 b6 b11 b13:Nat) (q:Option Addr) (k:Nat),e = .returned (.tuple #[.agg #[.int .i64 f,.int .i64 n,.int .i64 x.what,.func (.func 55) #[] #[.pointer (some ⟨b1,0,none⟩),.pointer (some ⟨b6,0,none⟩),.pointer (some ⟨b11,0,none⟩),.pointer (some ⟨b13,0,none⟩)]],.bool true]) /\
    w'.heap[b1]? = some (.cells pv 25 (0,0))/\w'.heap[b6]? = some (.cells #[.int .i64 f] 3 (0,0))/\w'.heap[b11]? = some (.cells #[.int .i64 n] 3 (0,0))/\w'.heap[b13]? = some (.cells #[.int .i64 x.long,.slice q x.put.length k,.int .i64 x.what] 104 (0,0))/\(q=none->k=0)/\Ji w' w'.heap.size q x.put
theorem Ykp (mem:Int) (dl:List Int) (fs:List FnP) (pd pF q:Option Addr) (cd cF kq B k n long:Nat) (what:Int) (put:List Ins) (a lo r:Int) (c:List Ins) (w:World) (b1 b6 b11 b13:Nat) (hBw:B<=w.heap.size) (hF:Yk w B pF fs) (hD:Rd w pd (dl.map (Value.int .u8))) (hd:dl.length<=4194304) (hn:fs.length<=64) (hls:∀ f∈fs,f.2.2.2.length<=4096) (hf:fs[k]? = some (a,lo,r,c)) (hok:Ynu c n long put) (hq:Ji w w.heap.size q put) (hqk:q=none->kq=0)
 (h1:w.heap[b1]? = some (.cells #[.int .i64 mem,.slice pd dl.length cd,.slice pF fs.length cF] 25 (0,0))) (h6:w.heap[b6]? = some (.cells #[.int .i64 (k:Nat)] 3 (0,0))) (h11:w.heap[b11]? = some (.cells #[.int .i64 (n:Nat)] 3 (0,0))) (h13:w.heap[b13]? = some (.cells #[.int .i64 (long:Nat),.slice q put.length kq,.int .i64 what] 104 (0,0))) :
 Calls Try.prog 55 #[.pointer (some ⟨b1,0,none⟩),.pointer (some ⟨b6,0,none⟩),.pointer (some ⟨b11,0,none⟩),.pointer (some ⟨b13,0,none⟩)] w (Zfc w mem dl (fs.set k (Zy (a,lo,r,c) (Zbi c n long put)))):=by
 have G0:=Ga w (.cells #[.int .i64 0,.slice none 0 0,.slice none 0 0] 25) none
 have RP:=Hq (Ztd mem dl fs pd pF q cd cF kq B k n long what put a lo r c (w.alloc (.cells #[.int .i64 0,.slice none 0 0,.slice none 0 0] 25)) (Nat.le_trans hBw G0.size) (Zs hF G0 (by simp)) (Yy hD G0) hd hn hls hf hok (Yy (Zwj hq) G0) hqk)
 have XN:=Hq (heap_alloc_new w (.cells #[.int .i64 0,.slice none 0 0,.slice none 0 0] 25))
 have c0:=Cq _ _ 0 _ _ _ h1
 have c1:=Cq _ _ 1 _ _ _ h1
 have c2:=Cq _ _ 2 _ _ _ h1
 have d0:=Cq _ _ 0 _ _ _ h6
 have e0:=Cq _ _ 0 _ _ _ h11
 have f0:=Cq _ _ 0 _ _ _ h13
 have f1:=Cq _ _ 1 _ _ _ h13
 have f2:=Cq _ _ 2 _ _ _ h13
 have l1:=(Gs h1)
 have l6:=(Gs h6)
 have l11:=(Gs h11)
 have l13:=(Gs h13)
 have GG:=Hq G0
 clear G0 hF hD hls hf hok hq h1 h6 h11 h13 hqk
 go_enter Try.func55,Try.ntmps55
 go_wp2_with fail
 clear c0 c1 c2 d0 e0 f0 f1 f2 l1 l6 l11 l13
 generalize hs:w.heap.size=bs at *
 have HS:=Hq hs
 clear hs
 generalize w.alloc (.cells #[.int .i64 0,.slice none 0 0,.slice none 0 0] 25)=w2 at *
 refine RP.out.mono ?_
 rintro e w3 ⟨D,F,cv,rfl,g3,o3⟩
 obtain ⟨pD,pF3,cD,cF3,rfl,rfl⟩:=Jc o3
 rw [show (fs.set k (Zy (a,lo,r,c) (Zbi c n long put))).length=fs.length from List.length_set ..] at o3
 have X3:=Zb XN.out g3 (by simp)
 have v0:=Cq _ _ 0 _ _ _ X3
 have v1:=Cq _ _ 1 _ _ _ X3
 have v2:=Cq _ _ 2 _ _ _ X3
 have z0:=frozen_of_row _ _ 0 _ _ X3
 have z1:=frozen_of_row _ _ 1 _ _ X3
 have z2:=frozen_of_row _ _ 2 _ _ X3
 have lv:=(Gs X3)
 have HX:=Hq X3
 have G3:=Hq (Za GG.out g3)
 have O3:=Hq (Zaj o3 (show w.heap.size<=w2.heap.size from GG.out.size))
 have hbs:w.heap.size<=bs:=by rw [HS.out];exact Nat.le_refl _
 clear X3 g3 o3
 go_wp2
 refine bodyPost_ret (v := .agg #[.int .i64 mem,.slice pD dl.length cD,.slice pF3 fs.length cF3]) ?_ rfl ⟨_,_,cv,rfl,Ze (Ze (Ze G3.out hbs) hbs) hbs,Zag (mem:=mem) O3.out HX.out⟩
 rw [Ym rfl]
 go_simp
structure Yye (c:List Ins):Prop where
 l:c.length<=4096
 n:1<=c.length
 j:∀ x∈c,jmp x.1=true->0<=x.2/\x.2<c.length
 r:Zbd c
theorem Zws (c:List Ins) (n:Nat):1<=Jl c n:=by
 unfold Jl
 by_cases a:n+1<c.length/\Zba c (n+1)=false
 · rw [if_pos a]
   by_cases b:n+2<c.length/\Zba c (n+2)=false
   · rw [if_pos b];omega
   · rw [if_neg b];omega
 · rw [if_neg a];exact Nat.le_refl _
theorem Yjc {c:List Ins} {n:Nat} {f:Zaq} (h:Js c n=some f):∀ y∈f.put,y.1≠0:=by
 unfold Js at h
 simp only [] at h
 split at h
 · injection h with h;subst h;intro y hy;simp at hy
 split at h
 · injection h with h;subst h;intro y hy;simp at hy
 split at h
 · injection h with h;subst h;intro y hy;simp at hy;subst hy;decide
 split at h
 · next h4=>injection h with h;subst h;intro y hy;simp at hy;subst hy;omega
 · cases h
theorem Yfb {c:List Ins} {n L:Nat} {f:Zaq} (h:Jm c n L=some f):∀ y∈f.put,y.1≠0:=by
 unfold Jm at h
 simp only [] at h
 repeat' split at h
 all_goals first
  | (cases h;done)
  | (injection h with h;subst h;intro y hy;simp at hy;done)
  | (injection h with h;subst h;intro y hy;simp at hy;subst hy;simp;done)
  | (injection h with h;subst h;intro y hy;simp at hy;subst hy;simp only [];split <;> decide)
theorem Yku {c:List Ins} {n L:Nat} {f:Zaq} (h:Zde c n L=some f):∀ y∈f.put,y.1≠0:=by
 unfold Zde at h
 simp only [] at h
 repeat' split at h
 all_goals first
  | (cases h;done)
  | (injection h with h;subst h;intro y hy;simp at hy;done)
  | (next h5=>injection h with h;subst h;intro y hy;simp at hy;subst hy;omega)
theorem Ydh {c:List Ins} {n L:Nat} {f:Zaq} (h:Zaz c n L=some f):∀ y∈f.put,y.1≠0:=by
 unfold Zaz at h
 split at h
 · injection h with h;subst h;intro y hy;simp at hy;subst hy;decide
 · cases h
theorem Ztt {c:List Ins} {n L:Nat} {f:Zaq} (h:Xn c n L=some f):∀ y∈f.put,y.1≠0:=by
 unfold Xn at h
 cases h1:Js c n with
 | some g=>rw [h1] at h;simp at h;subst h;exact Yjc h1
 | none =>
   rw [h1] at h
   cases h2:Jm c n L with
   | some g=>rw [h2] at h;simp at h;subst h;exact Yfb h2
   | none =>
     rw [h2] at h
     cases h3:Zde c n L with
     | some g=>rw [h3] at h;simp at h;subst h;exact Yku h3
     | none =>
       rw [h3] at h
       simp at h
       exact Ydh h
theorem Yfq {w:World} {bk m:Nat} {f:Nat->Int} (h:Yah w bk m f):Yah w bk (m+1) f:=by
 obtain ⟨n,D,h1,h2,h3⟩:=h
 exact ⟨n,D,h1,by omega,h3⟩
def Yjm (w:World) (b2 b1:Nat) (x0 x1 x2 x3:Value):World :=
 (((((((w.setCell ⟨b2,0,none⟩ x0).setCell ⟨b2,1,none⟩ x1).setCell ⟨b2,2,none⟩ x2).setCell ⟨b2,3,none⟩ x3).setCell ⟨b1,0,none⟩ x0).setCell ⟨b1,1,none⟩ x1).setCell ⟨b1,2,none⟩ x2).setCell ⟨b1,3,none⟩ x3
theorem Yay {w:World} {b2 b1 k:Nat} {x0 x1 x2 x3:Value} (h2:k≠b2) (h1:k≠b1):(Yjm w b2 b1 x0 x1 x2 x3).heap[k]? = w.heap[k]? := by
 have s:∀ (X:World) (b o:Nat) (v:Value),k≠b->(X.setCell ⟨b,o,none⟩ v).heap[k]? = X.heap[k]? := fun X b o v hb=>heap_setCell_other X _ k v (by intro e;exact hb (by rw [e]))
 unfold Yjm
 rw [s _ _ _ _ h1,s _ _ _ _ h1,s _ _ _ _ h1,s _ _ _ _ h1,s _ _ _ _ h2,s _ _ _ _ h2,s _ _ _ _ h2,s _ _ _ _ h2]
theorem Yut {w:World} {b2 b1:Nat} {x0 x1 x2 x3 y0 y1 y2 y3:Value} {t:TypeId} (h:w.heap[b1]? = some (.cells #[y0,y1,y2,y3] t (0,0))) (hne:b1≠b2):(Yjm w b2 b1 x0 x1 x2 x3).heap[b1]? = some (.cells #[x0,x1,x2,x3] t (0,0)):=by
 have s:∀ (X:World) (o:Nat) (v:Value) (ob:Obj),X.heap[b1]? = some ob->(X.setCell ⟨b2,o,none⟩ v).heap[b1]? = some ob:=fun X o v ob hX=>by rw [heap_setCell_other X _ b1 v (by intro e;exact hne (by rw [e]))];exact hX
 unfold Yjm
 rw [Zi (Zi (Zi (Zi (s _ _ _ _ (s _ _ _ _ (s _ _ _ _ (s _ _ _ _ h)))))))]
 rfl
theorem Yaz {w0 w:World} {b2 b1:Nat} {x0 x1 x2 x3:Value} (h:w0.grownBy w none) (h2:w0.heap.size<=b2) (h1:w0.heap.size<=b1):w0.grownBy (Yjm w b2 b1 x0 x1 x2 x3) none :=
 Ze (Ze (Ze (Ze (Ze (Ze (Ze (Ze h h2) h2) h2) h2) h1) h1) h1) h1
theorem Zut {w w':World} {B b b':Nat} {q:Option Addr} {c:List Ins} {t:TypeId} {v:Value} (h:Ji w B q c) (ho:∀ y∈c,y.1≠0) (hv:v = .nilFunc) (hx:w.heap[b]? = some (.cells #[.int .i64 0,.int .i64 0,.int .i64 0,v] t (0,0))) (hx':w.heap[b']? = some (.cells #[.int .i64 0,.int .i64 0,.int .i64 0,v] t (0,0))) (hs:∀ j,j<w.heap.size->j≠b->j≠b'->w'.heap[j]? = w.heap[j]?):Ji w' B q c:=fun h0=>by
 obtain ⟨b1,o,e,hb,hc⟩:=h h0
 subst hv
 obtain ⟨⟨op,a1⟩,hi⟩:∃ x,c[0]? = some x:=⟨_,List.getElem?_eq_getElem h0⟩
 have hop:=ho _ (List.mem_of_getElem? hi)
 obtain ⟨g0,g1⟩:=hc 0 op a1 hi
 simp only [Nat.zero_mul,Nat.add_zero] at g0 g1 hop
 have key:∀ bb:Nat,w.heap[bb]? = some (.cells #[.int .i64 0,.int .i64 0,.int .i64 0,.nilFunc] t (0,0))->b1≠bb:=by
  intro bb hbb e2
  subst e2
  unfold World.cell? at g0 g1
  rw [hbb] at g0 g1
  simp only [] at g0 g1
  rcases (by omega:o=0\/o=1\/o=2\/o=3\/4<=o) with rfl|rfl|rfl|rfl|h3
  · simp at g0;exact hop g0.symm
  · simp at g0;exact hop g0.symm
  · simp at g0;exact hop g0.symm
  · simp at g0
  · rw [Array.getElem?_eq_none (by simpa using h3)] at g0;cases g0
 refine ⟨b1,o,e,hb,fun i op a hi => ?_⟩
 obtain ⟨g0,g1⟩:=hc i op a hi
 have hq:=World.block_lt_of_cell? _ _ g0
 exact ⟨by rw [Zbk (hs b1 hq (key b hx) (key b' hx'))];exact g0,by rw [Zbk (hs b1 hq (key b hx) (key b' hx'))];exact g1⟩
theorem Yqn {w w7:World} {a:Act} {s6 bn k j lo' k7:Nat} {wh:Int} {pu:List Ins} {q7:Option Addr} {pv:Array Value} (h2:a.tmps.getD 2 undef = .pointer (some ⟨w.heap.size+1,0,none⟩)) (h3:a.tmps.getD 3 undef = .bool true) (hd:a.defers=[])
 (U0:w7.heap[w.heap.size]? = some (.cells pv 25 (0,0))) (U1:w7.heap[w.heap.size+1]? = some (.cells #[.int .i64 0,.int .i64 0,.int .i64 0,.nilFunc] 59 (0,0))) (U2:w7.heap[w.heap.size+1+1]? = some (.cells #[.int .i64 0,.int .i64 0,.int .i64 0,.nilFunc] 59 (0,0)))
 (UF:w7.heap[s6]? = some (.cells #[.int .i64 k] 3 (0,0))) (UN:w7.heap[bn]? = some (.cells #[.int .i64 j] 3 (0,0))) (hs:w.heap.size+1+1<s6) (hb:w.heap.size+1+1<bn) (G7:w.grownBy w7 none) (N7:q7=none->k7=0) (C7:Ji w7 w7.heap.size q7 pu) (HP:∀ y∈pu,y.1≠0) :
 bodyPost Try.prog Try.f36 (Yjh w pv (some (k,j,⟨lo',pu,wh⟩))) Exit.ret a ((Yjm w7 (w.heap.size+1+1) (w.heap.size+1) (.int .i64 k) (.int .i64 j) (.int .i64 wh) (.func (.func 55) #[] #[.pointer (some ⟨w.heap.size,0,none⟩),.pointer (some ⟨s6,0,none⟩),.pointer (some ⟨bn,0,none⟩),.pointer (some ⟨w7.heap.size,0,none⟩)])).alloc (.cells #[.int .i64 lo',.slice q7 pu.length k7,.int .i64 wh] 104)):=by
 have hsz:∀ x0 x1 x2 x3,(Yjm w7 (w.heap.size+1+1) (w.heap.size+1) x0 x1 x2 x3).heap.size=w7.heap.size:=fun x0 x1 x2 x3=>by unfold Yjm;simp
 generalize hF:Value.func (.func 55) #[] #[.pointer (some ⟨w.heap.size,0,none⟩),.pointer (some ⟨s6,0,none⟩),.pointer (some ⟨bn,0,none⟩),.pointer (some ⟨w7.heap.size,0,none⟩)]=F
 have hsz2:=hsz (.int .i64 k) (.int .i64 j) (.int .i64 wh) F
 have GS:=Yaz (x0 := .int .i64 k) (x1 := .int .i64 j) (x2 := .int .i64 wh) (x3:=F) G7 (show w.heap.size<=w.heap.size+1+1 by omega) (show w.heap.size<=w.heap.size+1 by omega)
 have S1:=Yut (b2:=w.heap.size+1+1) (x0 := .int .i64 k) (x1 := .int .i64 j) (x2 := .int .i64 wh) (x3:=F) U1 (by omega)
 have SO:∀ z,z≠w.heap.size+1+1->z≠w.heap.size+1->(Yjm w7 (w.heap.size+1+1) (w.heap.size+1) (.int .i64 k) (.int .i64 j) (.int .i64 wh) F).heap[z]? = w7.heap[z]? := fun z h1 h2=>Yay h1 h2
 have CS:=Zut C7 HP rfl U2 U1 (fun z _ h1 h2=>SO z h1 h2)
 generalize Yjm w7 (w.heap.size+1+1) (w.heap.size+1) (.int .i64 k) (.int .i64 j) (.int .i64 wh) F=W at *
 have GA:=Ga W (.cells #[.int .i64 lo',.slice q7 pu.length k7,.int .i64 wh] 104) none
 have XA:=heap_alloc_new W (.cells #[.int .i64 lo',.slice q7 pu.length k7,.int .i64 wh] 104)
 rw [hsz2] at XA
 have X1:=Zb S1 GA (by simp)
 have hX1:=Hq X1
 refine bodyPost_ret (v := .tuple #[.agg #[.int .i64 k,.int .i64 j,.int .i64 wh,F],.bool true]) ?_ hd ⟨Za GS GA,w.heap.size,s6,bn,w7.heap.size,q7,k7,by rw [hF],Zb (by rw [SO _ (by omega) (by omega)];exact U0) GA (by simp),Zb (by rw [SO _ (by omega) (by omega)];exact UF) GA (by simp),Zb (by rw [SO _ (by omega) (by omega)];exact UN) GA (by simp),XA,N7,Zgz (Xh CS GA (by simp)) (by rw [<- hsz2];exact GA.size)⟩
 have k0:=Cq _ _ 0 _ _ _ X1
 have k1:=Cq _ _ 1 _ _ _ X1
 have k2:=Cq _ _ 2 _ _ _ X1
 have k3:=Cq _ _ 3 _ _ _ X1
 have q0:=(Gs X1)
 generalize W.alloc (.cells #[.int .i64 lo',.slice q7 pu.length k7,.int .i64 wh] 104)=W2 at *
 clear X1 XA GA CS SO S1 GS hsz hsz2 hF U0 U1 U2 UF UN G7 C7 HP
 rw [results_cell_tmp rfl,h2,h3]
 go_simp
theorem Yei {fs:List FnP} {k:Nat} {f:FnP} (h:fs[k]? = some f):Zqb (fs.drop k) k=match Zid f.2.2.2 f.2.2.2.length 0 with
 | some (n,x)=>some (k,n,x)
 | none=>Zqb (fs.drop (k+1)) (k+1):=by
 obtain ⟨hkl,e⟩:=List.getElem?_eq_some_iff.1 h
 rw [List.drop_eq_getElem_cons hkl,e]
 rfl
theorem Zef {c:List Ins} {r n:Nat}:Zid c (r+1) n=match Xn c n (Jl c n) with
 | some x=>some (n,x)
 | none=>Zid c r (n+1):=rfl
theorem Yqo (mem:Int) (fs:List FnP) (pd pF:Option Addr) (nd cd cF B:Nat) (w:World) (hBw:B<=w.heap.size) (hF:Yk w B pF fs) (hn:fs.length<=64) (hok:∀ f∈fs,Yye f.2.2.2) :
 Calls Try.prog 36 #[.agg #[.int .i64 mem,.slice pd nd cd,.slice pF fs.length cF]] w (Yjh w #[.int .i64 mem,.slice pd nd cd,.slice pF fs.length cF] (Zqb fs 0)):=by
 have hmm := @run_makeMap Try.prog
 have FF:=Hq hF
 have OK:=Hq hok
 have hni:(fs.length:Int)<=64:=by omega
 have GZ:=Xf w (.cells #[.int .i64 mem,.slice pd nd cd,.slice pF fs.length cF] 25) (.cells #[.int .i64 0,.int .i64 0,.int .i64 0,.nilFunc] 59) (.cells #[.int .i64 0,.int .i64 0,.int .i64 0,.nilFunc] 59)
 have T0:=Hq GZ.1
 have T1:=Hq GZ.2.1
 have T2:=Hq GZ.2.2
 have G0:=Hq (Xg w (.cells #[.int .i64 mem,.slice pd nd cd,.slice pF fs.length cF] 25) (.cells #[.int .i64 0,.int .i64 0,.int .i64 0,.nilFunc] 59) (.cells #[.int .i64 0,.int .i64 0,.int .i64 0,.nilFunc] 59))
 clear hF hok GZ
 go_enter Try.func36,Try.ntmps36
 go_wp2
 go_step3
 go_wp2
 go_step3
 go_wp2
 have SZ2:=Hq (show w.heap.size+1+1+1=(((w.alloc (.cells #[.int .i64 mem,.slice pd nd cd,.slice pF fs.length cF] 25)).alloc (.cells #[.int .i64 0,.int .i64 0,.int .i64 0,.nilFunc] 59)).alloc (.cells #[.int .i64 0,.int .i64 0,.int .i64 0,.nilFunc] 59)).heap.size by simp)
 generalize ((w.alloc (.cells #[.int .i64 mem,.slice pd nd cd,.slice pF fs.length cF] 25)).alloc (.cells #[.int .i64 0,.int .i64 0,.int .i64 0,.nilFunc] 59)).alloc (.cells #[.int .i64 0,.int .i64 0,.int .i64 0,.nilFunc] 59)=w2 at *
 go_loopw [5,18] (fun t5 i wr=>t5 = .bool false/\∃ k:Nat,i = .int .i64 k/\k<=fs.length/\Zqb fs 0=Zqb (fs.drop k) k/\w2.grownBy wr none) (fun _ i _=>fs.length - (intOf i).toNat)
 case atStart=>exact ⟨rfl,0,rfl,Nat.zero_le _,rfl,Zc _ _⟩
 case round =>
  obtain ⟨rfl,k,rfl,hk,he,hg⟩:=hrel
  have HE:=Hq he
  have HG:=Hq hg
  by_cases hlt:(k:Int)<(fs.length:Int)
  · obtain ⟨⟨a,lo,r,c⟩,hf⟩:∃ f,fs[k]? = some f:=⟨_,List.getElem?_eq_getElem (by omega)⟩
    have gw:=Za G0.out hg
    obtain ⟨b,o,rfl,hb,hc⟩:=FF.out (by omega)
    obtain ⟨f0,f1,f2,pc,cc,f3,hcode⟩:=hc k a lo r c hf
    have c0:=gw.cell f0 (by simp)
    have c1:=gw.cell f1 (by simp)
    have c2:=gw.cell f2 (by simp)
    have c3:=gw.cell f3 (by simp)
    have lb:b<wr.heap.size:=by have:=gw.size;omega
    have hcok:=OK.out _ (List.mem_of_getElem? hf)
    simp only [] at hcok
    have CO:=Hq hcok
    have HST:=Hq (Yei hf)
    have HCB:=Hq (Xh hcode gw (by simp))
    have hcl:(c.length:Int)<=4096:=by have:=hcok.l;omega
    have GZ:=Xf wr (.cells #[.int .i64 (k:Int)] 3) (.cells #[.int .i64 a,.int .i64 lo,.int .i64 r,.slice pc c.length cc] 52) (.map #[] 0)
    have Y0:=Hq GZ.1
    have Y1:=Hq GZ.2.1
    have GB:=Hq (Xg wr (.cells #[.int .i64 (k:Int)] 3) (.cells #[.int .i64 a,.int .i64 lo,.int .i64 r,.slice pc c.length cc] 52) (.map #[] 0))
    have M0:=Hq (show Yah (((wr.alloc (.cells #[.int .i64 (k:Int)] 3)).alloc (.cells #[.int .i64 a,.int .i64 lo,.int .i64 r,.slice pc c.length cc] 52)).alloc (.map #[] 0)) (wr.heap.size+1+1) 0 fun _=>0 by
     have h:=Ztu ((wr.alloc (.cells #[.int .i64 (k:Int)] 3)).alloc (.cells #[.int .i64 a,.int .i64 lo,.int .i64 r,.slice pc c.length cc] 52))
     rw [World.size_alloc,World.size_alloc] at h
     exact h)
    clear hc hf he hg hcode hcok gw f0 f1 f2 f3 GZ
    obtain ⟨wo,hwo⟩:∃ wo,wo=wr:=⟨_,rfl⟩
    subst hwo
    go_wp2
    clear c0 c1 c2 c3 lb hmm
    generalize hsz:wo.heap.size=s6 at *
    have HSZ:=Hq hsz
    clear hsz
    have CB4:=Hq (Xh HCB.out GB.out (by simp))
    generalize ((wo.alloc (.cells #[.int .i64 (k:Int)] 3)).alloc (.cells #[.int .i64 a,.int .i64 lo,.int .i64 r,.slice pc c.length cc] 52)).alloc (.map #[] 0)=w4 at *
    have hsw4:s6+1+1<w4.heap.size:=Yre M0.out
    have IQ:=Hq (Zmw CB4.out (show B<=w4.heap.size by have:=G0.out.size;have:=HG.out.size;have:=GB.out.size;omega))
    go_loopw [27] (fun i wr=>∃ j:Nat,i = .int .i64 j/\j<=c.length/\w4.grownBy wr (some (s6+1+1))/\Yah wr (s6+1+1) j (Znn (c.take j))) (fun i _=>c.length - (intOf i).toNat)
    case atStart=>exact ⟨0,rfl,Nat.zero_le _,Zc _ _,Zej M0.out (fun x=>by simp [Znn])⟩
    case round =>
     obtain ⟨j,rfl,hj,hg,hM⟩:=hrel
     have IG:=Hq hg
     have IM:=Hq hM
     by_cases hlj:(j:Int)<(c.length:Int)
     · obtain ⟨⟨op,x⟩,hx⟩:∃ x,c[j]? = some x:=⟨_,List.getElem?_eq_getElem (by omega)⟩
       obtain ⟨b1,o1,hpc,hb1,d0',d1'⟩:=IQ.out j _ hx
       subst hpc
       have hnb:b1<B:=by
        obtain ⟨b9,o9,e9,hb9,-⟩:=CB4.out (by omega)
        injection e9 with e9;injection e9 with e9 _ _
        omega
       have hne:some b1≠some (s6+1+1):=by
        intro e;injection e with e
        have:=G0.out.size;have:=HG.out.size;have:=HSZ.out;omega
       have d0:=hg.cell d0' hne
       have d1:=hg.cell d1' hne
       have lb1:=Nat.lt_of_lt_of_le hb1 hg.size
       simp only [] at d0 d1
       have GX:=Ga wr (.cells #[.int .i64 op,.int .i64 x] 49) none
       have XX:=heap_alloc_new wr (.cells #[.int .i64 op,.int .i64 x] 49)
       have hts:=Yat hx
       cases hjm:jmp op with
       | false =>
         have JF:=Hq (show ∀ w,Calls Try.prog 52 #[.int .i64 op] w fun e w'=>e = .returned (.bool false)/\w=w' from fun w=>hjm ▸ Ys op w)
         have MN:=Hq (Yfq (Zej (Zml hM GX (by simp)) (fun y=>show Znn (c.take j) y=Znn (c.take (j+1)) y by rw [hts,Zuy,if_neg (by simp [hjm])];omega)))
         have GN:=Hq (Za hg (Zfi (r:=some (s6+1+1)) GX))
         clear hg hM hx d0' d1' hb1 hnb hne GX XX hts hjm
         go_wp2_with (go_at_call 52;refine (JF.out _).mono ?_;rintro e w' ⟨rfl,rfl⟩)
         go_roundw
         case rel=>exact ⟨j+1,by go_num,by omega,GN.out,MN.out⟩
         case measure=>simp [intOf];omega
       | true =>
         obtain ⟨hv0,hv1⟩:=CO.out.j _ (List.mem_of_getElem? hx) hjm
         simp only [] at hv0 hv1
         obtain ⟨m,rfl⟩:=Int.eq_ofNat_of_zero_le hv0
         have JT:=Hq (show ∀ w,Calls Try.prog 52 #[.int .i64 op] w fun e w'=>e = .returned (.bool true)/\w=w' from fun w=>hjm ▸ Ys op w)
         have hM8:=Zml hM GX (by simp)
         have hcn:=Ysz (c.take j) m
         have hjl:((c.take j).length:Int)<=4096:=by rw [List.length_take];omega
         have hlook:=Zqu (x:=m) hM8 (by omega)
         obtain ⟨w9,hput,hM9,hg9⟩:=Zyz (x:=m) (v:=Znn (c.take j) m+1) hM8 (by omega) (by omega) (by omega)
         have MN:=Hq (Zej hM9 (fun y=>show (if y=m then Znn (c.take j) m+1 else Znn (c.take j) y)=Znn (c.take (j+1)) y by
          rw [hts,Zuy]
          by_cases e:y=m
          · subst e;rw [if_pos rfl,if_pos ⟨hjm,rfl⟩]
          · rw [if_neg e,if_neg (fun h=>e (by have:=h.2;simp only [] at this;omega))];omega))
         have GN:=Hq (Za (Za hg (Zfi (r:=some (s6+1+1)) GX)) hg9)
         have y1:=Cq _ _ 1 _ _ _ XX
         have ly:=(Gs XX)
         generalize Znn (c.take j) m=cm at *
         have hcm0:0<=cm:=hcn.1
         have hcm1:cm<=4096:=by omega
         clear hg hM hx d0' d1' hb1 hnb hne GX XX hts hjm hM8 hM9 hg9 hv0 hcn
         go_wp2_with (go_at_call 52;refine (JT.out _).mono ?_;rintro e w' ⟨rfl,rfl⟩)
         go_roundw
         case rel=>exact ⟨j+1,by go_num,by omega,GN.out,MN.out⟩
         case measure=>simp [intOf];omega
     · have hjn:j=c.length:=by omega
       subst hjn
       have Y05:=Zb (Zb Y0.out (Zc _ none) (by simp)) hg (by simp;omega)
       have Y15:=Zb Y1.out hg (by simp)
       have G5:=Hq (show wo.grownBy wr none from Yu GB.out hg (fun q e=>by injection e with e;have:=HSZ.out;omega))
       have MF:=Hq (Zej hM (fun y=>show Znn (c.take c.length) y=Znn c y by rw [List.take_length]))
       have X05:=Hq Y05
       have X15:=Hq Y15
       have b3:=Cq _ _ 3 _ _ _ Y15
       have lb3:=(Gs Y15)
       clear hg hM Y05 Y15
       go_wp2
       clear b3 lb3
       obtain ⟨w5,hw5⟩:∃ w5,w5=wr:=⟨_,rfl⟩
       subst hw5
       go_loopw [5,43] (fun t5 i wr=>t5 = .bool false/\∃ j:Nat,i = .int .i64 j/\j<=c.length/\Zid c c.length 0=Zid c (c.length - j) j/\w5.grownBy wr none) (fun _ i _=>c.length - (intOf i).toNat)
       case atStart=>exact ⟨rfl,0,rfl,Nat.zero_le _,rfl,Zc _ _⟩
       case round =>
        obtain ⟨rfl,j,rfl,hj,hej,hg⟩:=hrel
        have HEJ:=Hq hej
        have JG:=Hq hg
        have y1:=Zb X15.out hg (by simp)
        have b3:=Cq _ _ 3 _ _ _ y1
        have lb3:=(Gs y1)
        clear y1
        by_cases hlj:(j:Int)<(c.length:Int)
        · have GN:=Ga wr (.cells #[.int .i64 (j:Int)] 3) none
          have XN:=heap_alloc_new wr (.cells #[.int .i64 (j:Int)] 3)
          have HGN:=Hq (Za hg GN)
          have HXN:=Hq XN
          have MF6:=Hq (Zml MF.out (Za hg GN) (by simp))
          have X06:=Hq (Zb X05.out (Za hg GN) (by simp))
          have q3:=GN.cell b3 (by simp)
          have n0:=Cq _ _ 0 _ _ _ XN
          have ln:=(Gs XN)
          have lf:=Nat.lt_of_lt_of_le lb3 GN.size
          obtain ⟨rr,hrr⟩:∃ rr,c.length - j=rr+1:=⟨c.length - j - 1,by omega⟩
          have HRR:=Hq hrr
          rw [hrr,Zef] at hej
          have HEI:=Hq hej
          clear hg hej GN XN b3 lb3 hrr
          go_wp2
          generalize hbn:wr.heap.size=bn at *
          have HBN:=Hq hbn
          clear hbn
          generalize wr.alloc (.cells #[.int .i64 (j:Int)] 3)=w6 at *
          go_loop [12] (fun l=>∃ L:Nat,l = .int .i64 L/\1<=L/\L<=Jl c j/\j+L<=c.length) (fun l=>3 - (intOf l).toNat)
          case atStart=>exact ⟨1,rfl,Nat.le_refl _,Zws c j,by omega⟩
          case round =>
           obtain ⟨L,rfl,hL1,hLp,hjL⟩:=hrel
           have hL3:=Yfy hL1 hLp
           have hlk:=Zqu (x:=j+L) MF6.out (by omega)
           rw [Int.natCast_add] at hlk
           have hwj:IntKind.i64.wrap ((j:Int)+(L:Int))=(j:Int)+(L:Int):=IntWalk.i64_in _ (by omega)
           by_cases hcond:L<3/\j+L<c.length/\Zba c (j+L)=false
           · obtain ⟨h1,h2,h3⟩:=hcond
             rw [(Zod c (j+L)).1 h3] at hlk
             have i1:(L:Int)<3:=by omega
             have i2:(j:Int)+(L:Int)<(c.length:Int):=by omega
             have HNX:=Hq (Ybo hL1 hLp h1 h2 h3)
             clear h3 hLp
             go_wp2
             go_round
             case rel=>exact ⟨L+1,by go_num,by omega,HNX.out,by omega⟩
             case measure=>simp [intOf];omega
           · have HLE:=Hq (Yfx hL1 hLp hcond)
             have hct:L<3->j+L<c.length->(Znn c (j+L) == 0)=false:=fun h1 h2=>by
              cases h3:Zba c (j+L) with
              | false=>exact absurd ⟨h1,h2,h3⟩ hcond
              | true =>
                have h4:¬ Znn c (j+L)=0:=fun e=>by rw [<- Zod,h3] at e;cases e
                simpa using h4
             have MT:=Hq (Yfn c pc cc B j L w6 (by have:=G0.out.size;have:=HG.out.size;have:=G5.out.size;have:=HGN.out.size;omega) (Xh HCB.out (Za G5.out HGN.out) (by simp)) (by omega) CO.out.l CO.out.r hL3 hjL (fun e=>by
              have hm:=List.mem_of_getElem? (show c[j]? = some (Zu c j) by unfold Zu;rw [List.getD_eq_getElem?_getD,List.getElem?_eq_getElem (by omega)];rfl)
              exact CO.out.j _ hm (by rw [e];rfl)))
             generalize Znn c (j+L)=cm at *
             clear hcond hLp
             have h3w:(¬ ((L:Int)<3))\/((L:Int)<3/\¬ ((j:Int)+(L:Int)<(c.length:Int)))\/((L:Int)<3/\(j:Int)+(L:Int)<(c.length:Int)/\(cm == 0)=false):=by
              by_cases e1:L<3
              · by_cases e2:j+L<c.length
                · exact Or.inr (Or.inr ⟨by omega,by omega,hct e1 e2⟩)
                · exact Or.inr (Or.inl ⟨by omega,by omega⟩)
              · exact Or.inl (by omega)
             clear hct
             rw [HLE.out] at HEI
             rcases h3w with i1|⟨i1,i2⟩|⟨i1,i2,i3⟩
             all_goals
              cases hmt:Xn c j L with
              | none =>
                rw [hmt] at MT HEI
                go_wp2_with (go_at_call 54;refine MT.out.mono ?_;rintro e w7 ⟨hg7,l7,wt7,q7,m7,k7,rfl⟩;have G7:=Hq hg7;clear hg7)
                go_roundw
                case rel=>exact ⟨rfl,j+1,by go_num,by omega,by have h1:=HEI.out;have h2:=HRR.out;rw [show c.length - (j+1)=rr by omega];exact h1,Za HGN.out (Za G7.out (Ga _ _ _))⟩
                case measure=>simp [intOf];omega
              | some x =>
                rw [hmt] at MT HEI
                have HPU:=Hq (Ztt hmt)
                obtain ⟨lo',pu,wh⟩:=x
                have HRE:=Hq (show Zqb fs 0=some (k,j,⟨lo',pu,wh⟩) by
                 have h1:=HEJ.out
                 rw [HRR.out,Zef,HLE.out,hmt] at h1
                 rw [HE.out,HST.out,h1])
                have gw6:=Za HG.out (Za G5.out HGN.out)
                go_wp2_with (go_at_call 54;refine MT.out.mono ?_;rintro e w7 ⟨hg7,q7,k7,rfl,hn7,hc7⟩;have t2:=Zb T2.out (Za gw6 hg7) (by simp);have t1:=Zb T1.out (Za gw6 hg7) (by simp);have tf:=Zb X06.out hg7 (by simp);have tn:=Zb HXN.out hg7 (by simp);have U0:=Hq (Zb T0.out (Za gw6 hg7) (by simp));have U2:=Hq t2;have U1:=Hq t1;have UF:=Hq tf;have UN:=Hq tn;have G7:=Hq (Za gw6 hg7);have N7:=Hq hn7;have C7:=Hq hc7;have a0:=Cq _ _ 0 _ _ _ t2;have a1:=Cq _ _ 1 _ _ _ t2;have a2:=Cq _ _ 2 _ _ _ t2;have a3:=Cq _ _ 3 _ _ _ t2;have e0:=frozen_of_row _ _ 0 _ _ t2;have e1:=frozen_of_row _ _ 1 _ _ t2;have e2:=frozen_of_row _ _ 2 _ _ t2;have e3:=frozen_of_row _ _ 3 _ _ t2;have d0:=Cq _ _ 0 _ _ _ t1;have d1:=Cq _ _ 1 _ _ _ t1;have d2:=Cq _ _ 2 _ _ _ t1;have d3:=Cq _ _ 3 _ _ _ t1;have f0:=frozen_of_row _ _ 0 _ _ t1;have f1:=frozen_of_row _ _ 1 _ _ t1;have f2:=frozen_of_row _ _ 2 _ _ t1;have f3:=frozen_of_row _ _ 3 _ _ t1;have m0:=Cq _ _ 0 _ _ _ tf;have p0:=Cq _ _ 0 _ _ _ tn;have r0:=(Gs t2);have r1:=(Gs t1);have r2:=(Gs tf);have r3:=(Gs tn);clear t1 t2 tf tn hg7 hn7 hc7)
                rw [Exit.noGoto_ret,HRE.out]
                exact Yqn rfl rfl rfl U0.out U1.out U2.out UF.out UN.out (by have:=HG.out.size;have:=HSZ.out;have:=SZ2.out;omega) (by have:=HG.out.size;have:=G5.out.size;have:=JG.out.size;have:=HBN.out;have:=SZ2.out;omega) (Za G0.out G7.out) N7.out C7.out HPU.out
        · have hjn:j=c.length:=by omega
          have HU:=Hq (show Zqb fs 0=Zqb (fs.drop (k+1)) (k+1) by
           rw [HE.out,HST.out,hej,hjn,Nat.sub_self];rfl)
          clear hg hej b3 lb3
          go_wp2
          go_roundw
          case rel=>exact ⟨rfl,k+1,by go_num,by omega,HU.out,Za HG.out (Za G5.out JG.out)⟩
          case measure=>simp [intOf];omega
  · have hkn:k=fs.length:=by omega
    have HU:=Hq (show Zqb fs 0=none by rw [he,hkn,List.drop_length];rfl)
    have t2:=Zb T2.out hg (by simp)
    have t1:=Zb T1.out hg (by simp)
    have a0:=Cq _ _ 0 _ _ _ t2
    have a1:=Cq _ _ 1 _ _ _ t2
    have a2:=Cq _ _ 2 _ _ _ t2
    have a3:=Cq _ _ 3 _ _ _ t2
    have d0:=Cq _ _ 0 _ _ _ t1
    have d1:=Cq _ _ 1 _ _ _ t1
    have d2:=Cq _ _ 2 _ _ _ t1
    have d3:=Cq _ _ 3 _ _ _ t1
    have f0:=frozen_of_row _ _ 0 _ _ t1
    have f1:=frozen_of_row _ _ 1 _ _ t1
    have f2:=frozen_of_row _ _ 2 _ _ t1
    have f3:=frozen_of_row _ _ 3 _ _ t1
    have r0:=(Gs t2)
    have r1:=(Gs t1)
    have H1:=Hq t1
    clear he hg t1 t2
    go_wp2
    rw [HU.out]
    refine bodyPost_ret (v := .tuple #[.agg #[.int .i64 0,.int .i64 0,.int .i64 0,.nilFunc],.bool false]) ?_ rfl ⟨?_,rfl⟩
    · rw [results_cell_tmp rfl]
      go_simp
    · refine Ze (Ze (Ze (Ze (Za G0.out HG.out) ?_) ?_) ?_) ?_ <;> omega
theorem Ygr {c:List Ins} {n:Nat} (h:(Zu c n).1≠0):Zu c n∈c:=by
 unfold Zu at h ⊢
 rw [List.getD_eq_getElem?_getD] at h ⊢
 cases e:c[n]? with
 | none=>rw [e] at h;exact absurd rfl h
 | some x=>exact List.mem_of_getElem? e
def Ytm (c:List Ins):Prop:=∀ x∈c,jmp x.1=true->0<=x.2/\x.2<c.length
theorem Zvl {c:List Ins} {n:Nat} {f:Zaq} (h:Js c n=some f):∀ y∈f.put,jmp y.1=true->False:=by
 unfold Js at h
 simp only [] at h
 split at h
 · injection h with h;subst h;intro y hy;simp at hy
 split at h
 · injection h with h;subst h;intro y hy;simp at hy
 split at h
 · injection h with h;subst h;intro y hy;simp at hy;subst hy;simp [jmp]
 split at h
 · next h4 =>
   injection h with h;subst h;intro y hy;simp at hy;subst hy;intro hj
   simp only [jmp,Bool.or_eq_true,beq_iff_eq] at hj
   omega
 · cases h
theorem Zlb {op:Int} (h:op=15\/op=16):jmp op=true:=by rcases h with rfl|rfl <;> rfl
theorem Yfc {c:List Ins} {n L:Nat} {f:Zaq} (hj:Ytm c) (h:Jm c n L=some f):∀ y∈f.put,jmp y.1=true->0<=y.2/\y.2<c.length:=by
 unfold Jm at h
 simp only [] at h
 split at h
 · cases h
 split at h
 · next h1 =>
   split at h
   · injection h with h;subst h;intro y hy _;simp at hy;subst hy
     exact hj (Zu c (n+1)) (Ygr (by omega)) (Zlb h1)
   · injection h with h;subst h;intro y hy;simp at hy
 split at h
 · split at h
   · injection h with h;subst h;intro y hy h2;simp at hy;subst hy;simp [jmp] at h2
   · cases h
 split at h
 · split at h
   · injection h with h;subst h;intro y hy h2;simp at hy;subst hy;simp [jmp] at h2
   · cases h
 split at h
 · next h5 =>
   injection h with h;subst h;intro y hy _;simp at hy;subst hy
   exact hj (Zu c (n+2)) (Ygr (by omega)) (Zlb h5.2.2.2)
 split at h
 · injection h with h;subst h;intro y hy;simp at hy
 split at h
 · injection h with h;subst h;intro y hy;simp at hy
 · cases h
theorem Zyq {c:List Ins} {n L:Nat} {f:Zaq} (h:Zde c n L=some f):∀ y∈f.put,jmp y.1=true->False:=by
 unfold Zde at h
 simp only [] at h
 split at h
 · cases h
 split at h
 · injection h with h;subst h;intro y hy;simp at hy
 split at h
 · injection h with h;subst h;intro y hy;simp at hy
 split at h
 · next h3 =>
   injection h with h;subst h;intro y hy h2;simp at hy;subst hy
   rw [h3.1] at h2;exact absurd h2 (by decide)
 split at h
 · injection h with h;subst h;intro y hy;simp at hy
 split at h
 · injection h with h;subst h;intro y hy;simp at hy
 · cases h
theorem Zsm {c:List Ins} {n L:Nat} {f:Zaq} (h:Zaz c n L=some f):∀ y∈f.put,jmp y.1=true->False:=by
 unfold Zaz at h
 split at h
 · injection h with h;subst h;intro y hy h2;simp at hy;subst hy;exact absurd h2 (by decide)
 · cases h
theorem Zew {c:List Ins} {n L:Nat} {f:Zaq} (h:Xn c n L=some f):Js c n=some f\/Jm c n L=some f\/Zde c n L=some f\/Zaz c n L=some f:=by
 unfold Xn at h
 cases h1:Js c n with
 | some g=>rw [h1] at h;simp at h;subst h;exact Or.inl rfl
 | none =>
   rw [h1] at h
   cases h2:Jm c n L with
   | some g=>rw [h2] at h;simp at h;subst h;exact Or.inr (Or.inl rfl)
   | none =>
     rw [h2] at h
     cases h3:Zde c n L with
     | some g=>rw [h3] at h;simp at h;subst h;exact Or.inr (Or.inr (Or.inl rfl))
     | none =>
       rw [h3] at h
       simp at h
       exact Or.inr (Or.inr (Or.inr h))
theorem Yfl {c:List Ins} {n L:Nat} {f:Zaq} (hj:Ytm c) (h:Xn c n L=some f):∀ y∈f.put,jmp y.1=true->0<=y.2/\y.2<c.length:=by
 intro y hy h2
 rcases Zew h with h|h|h|h
 · exact (Zvl h y hy h2).elim
 · exact Yfc hj h y hy h2
 · exact (Zyq h y hy h2).elim
 · exact (Zsm h y hy h2).elim
theorem Zot {c:List Ins} {n L:Nat} {f:Zaq} (hL:1<=L) (h:Xn c n L=some f):1<=f.long/\f.long<=L/\f.put.length<=1:=by
 rcases Zew h with h|h|h|h
 · unfold Js at h
   simp only [] at h
   repeat' split at h
   all_goals first
    | (cases h;done)
    | (injection h with h;subst h;exact ⟨Nat.le_refl _,hL,by simp⟩)
 · unfold Jm at h
   simp only [] at h
   split at h
   · cases h
   next h0 =>
    have h2:2<=L:=by omega
    split at h
    · split at h <;> (injection h with h;subst h;exact ⟨by simp,h2,by simp⟩)
    split at h
    · split at h
      · injection h with h;subst h;exact ⟨by simp,h2,by simp⟩
      · cases h
    split at h
    · next h4 =>
      split at h
      · injection h with h;subst h;exact ⟨by simp,h4.2.1,by simp⟩
      · cases h
    split at h
    · next h5=>injection h with h;subst h;exact ⟨by simp,h5.2.2.1,by simp⟩
    split at h
    · injection h with h;subst h;exact ⟨by simp,h2,by simp⟩
    split at h
    · injection h with h;subst h;exact ⟨by simp,h2,by simp⟩
    · cases h
 · unfold Zde at h
   simp only [] at h
   split at h
   · cases h
   next h0 =>
    have h2:2<=L:=by omega
    repeat' split at h
    all_goals first
     | (cases h;done)
     | (injection h with h;subst h;exact ⟨by simp,h2,by simp⟩)
 · unfold Zaz at h
   split at h
   · next h0=>injection h with h;subst h;exact ⟨by simp,h0.1,by simp⟩
   · cases h
theorem Yma {c:List Ins} {n:Nat} (h:n<c.length):n+Jl c n<=c.length:=by
 unfold Jl
 by_cases a:n+1<c.length/\Zba c (n+1)=false
 · rw [if_pos a]
   by_cases b:n+2<c.length/\Zba c (n+2)=false
   · rw [if_pos b];omega
   · rw [if_neg b];omega
 · rw [if_neg a];omega
theorem Zjj {c:List Ins}:∀ {r n m:Nat} {x:Zaq},Zid c r n=some (m,x)->n<=m/\m<n+r/\Xn c m (Jl c m)=some x
 | 0,n,m,x,h=>by cases h
 | r+1,n,m,x,h=>by
   rw [Zef] at h
   cases hm:Xn c n (Jl c n) with
   | some y =>
     rw [hm] at h
     simp only [Option.some.injEq,Prod.mk.injEq] at h
     obtain ⟨rfl,rfl⟩:=h
     exact ⟨Nat.le_refl _,by omega,hm⟩
   | none =>
     rw [hm] at h
     obtain ⟨h1,h2,h3⟩:=Zjj h
     exact ⟨by omega,by omega,h3⟩
theorem Zlv:∀ {fs:List FnP} {i f m:Nat} {x:Zaq},Zqb fs i=some (f,m,x)->∃ fn,i<=f/\fs[f - i]? = some fn/\m<fn.2.2.2.length/\Xn fn.2.2.2 m (Jl fn.2.2.2 m)=some x
 | [],i,f,m,x,h=>by cases h
 | fn::r,i,f,m,x,h=>by
   rw [Zqb] at h
   cases hr:Zid fn.2.2.2 fn.2.2.2.length 0 with
   | some p =>
     obtain ⟨n,y⟩:=p
     rw [hr] at h
     simp only [Option.some.injEq,Prod.mk.injEq] at h
     obtain ⟨rfl,rfl,rfl⟩:=h
     obtain ⟨_,h2,h3⟩:=Zjj hr
     exact ⟨fn,Nat.le_refl _,by simp,by omega,h3⟩
   | none =>
     rw [hr] at h
     obtain ⟨g,h1,h2,h3,h4⟩:=Zlv h
     refine ⟨g,by omega,?_,h3,h4⟩
     rw [show f - i=(f - (i+1))+1 by omega,List.getElem?_cons_succ]
     exact h2
theorem Zgi {hs:Nat->List Int} {V:List Bool}:∀ {r i:Nat},Zcn hs V r i=none->∀ f,i<=f->f<i+r->V.getD f false=true/\∀ n,n<(hs f).length->0<=(hs f).getD n 0
 | 0,i,_,f,h1,h2=>by omega
 | r+1,i,h,f,h1,h2=>by
   rw [Zcn] at h
   by_cases hv:V.getD i false=false
   · rw [if_pos hv] at h;cases h
   · rw [if_neg hv] at h
     cases hf:(hs i).findIdx? (fun h=>decide (h<0)) with
     | some n=>rw [hf] at h;cases h
     | none =>
       rw [hf] at h
       by_cases e:f=i
       · subst e
         refine ⟨by cases e2:V.getD f false <;> simp_all,fun n hn => ?_⟩
         rw [List.findIdx?_eq_none_iff] at hf
         have:=hf ((hs f)[n]) (List.getElem_mem hn)
         rw [List.getD_eq_getElem?_getD,List.getElem?_eq_getElem hn]
         simpa using this
       · exact Zgi h f (by omega) (by omega)
theorem Ziq {fs:List FnP} (P:Zkj fs) {fn:FnP} (hm:fn∈fs):Ytm fn.2.2.2:=fun x hx hj=>by
 refine (P.ins fn hm x hx).jump ?_
 simp only [jmp,Bool.or_eq_true,beq_iff_eq] at hj
 omega
theorem Ynt {fs:List FnP} (P:Zkj fs) {fn:FnP} (hm:fn∈fs):Ytq fs.length fn.2.2.2 :=
 ⟨(P.len fn hm).2,(P.len fn hm).1,Ziq P hm,fun x hx e=>(P.ins fn hm x hx).ok.call e⟩
theorem Yko {fs:List FnP} (P:Zkj fs) {fn:FnP} (hm:fn∈fs) (hr:Zbd fn.2.2.2):Yye fn.2.2.2 :=
 ⟨(P.len fn hm).2,(P.len fn hm).1,Ziq P hm,hr⟩
theorem Zsq {fs:List FnP} (P:Zkj fs) {fn:FnP} (hm:fn∈fs) {s:HS} (r:HRun fs fn (hs0 fn.2.2.2.length) 0 s fn.2.2.2.length) (h:∀ n,n<fn.2.2.2.length->0<=s.h.getD n 0):Zep fn.2.2.2:=by
 obtain ⟨_,cl⟩:=Zcu P hm r
 intro a ha b hb
 have hn:=cl a ha (h a ha)
 obtain ⟨⟨op,v⟩,hx⟩:∃ x,fn.2.2.2[a]? = some x:=⟨_,List.getElem?_eq_getElem ha⟩
 have hia:Zu fn.2.2.2 a=(op,v):=by unfold Zu;rw [List.getD_eq_getElem?_getD,hx];rfl
 unfold Zap at hb
 rw [hia] at hb
 simp only [] at hb
 unfold Jp at hn
 rw [hx] at hn
 simp only [] at hn
 by_cases h0:op=0
 · subst h0
   rw [if_pos rfl] at hb
   injection hb with hb
   subst hb
   refine (hn (a+1) ?_).1
   simp [Xm]
 · rw [if_neg h0] at hb
   by_cases h14:op=14
   · subst h14
     rw [if_pos rfl] at hb
     injection hb with hb
     subst hb
     refine (hn v.toNat ?_).1
     simp [Xm]
   · rw [if_neg h14] at hb;cases hb
theorem Zuv {fs:List FnP} (P:Zkj fs) {fn:FnP} (hm:fn∈fs) (hs:Zep fn.2.2.2):Zhh fn.2.2.2:=⟨(P.len fn hm).2,(P.len fn hm).1,hs,Ziq P hm⟩
theorem Zyl {fs:List FnP} (P:Zkj fs) {fn:FnP} (hm:fn∈fs) {n:Nat} {x:Zaq} (hn:n<fn.2.2.2.length) (h:Xn fn.2.2.2 n (Jl fn.2.2.2 n)=some x):Ynu fn.2.2.2 n x.long x.put:=by
 obtain ⟨h1,h2,h3⟩:=Zot (Zws _ _) h
 have h4:=Yma hn
 exact ⟨(P.len fn hm).2,hn,h1,by omega,by omega,Ziq P hm,Yfl (Ziq P hm) h⟩
theorem Yby (mem:Int) (dl:List Int) (fs:List FnP) (pd pF:Option Addr) (cd cF B:Nat) (fv:Array Value) (gH cH gV:Nat) (gh:Nat->Nat) (hs:Nat->List Int) (V:List Bool) (w:World) (b1:Nat) (b2:Nat) (hBw:B<=w.heap.size) (hF:Yk w B pF fs) (hD:Rd w pd (dl.map (Value.int .u8))) (hd:dl.length<=4194304) (hn:fs.length<=64) (hok:∀ f∈fs,Ytq fs.length f.2.2.2) (hFA:Zhs w fs (.agg fv) gH cH gV gh hs V) (h2:w.heap[b2]? = some (.cells fv 35 (0,0)))
 (h1:w.heap[b1]? = some (.cells #[.int .i64 mem,.slice pd dl.length cd,.slice pF fs.length cF] 25 (0,0))) :
 Calls Try.prog 31 #[.pointer (some ⟨b1,0,none⟩),.pointer (some ⟨b2,0,none⟩)] w (Zfc w mem dl (Zfo fs hs V)):=by
 have G0:=Ga w (.cells #[.int .i64 0,.slice none 0 0,.slice none 0 0] 25) none
 obtain ⟨q1,q2,m1,m2,j1,j2,ce,co,hfv⟩:=hFA.f
 injection hfv with hfv
 subst hfv
 have RP:=Hq (Ycl mem dl fs pd pF cd cF B _ gH cH gV gh hs V (w.alloc (.cells #[.int .i64 0,.slice none 0 0,.slice none 0 0] 25)) (Nat.le_trans hBw G0.size) (Zs hF G0 (by simp)) (Yy hD G0) hd hn hok (Zci hFA G0))
 have XN:=Hq (heap_alloc_new w (.cells #[.int .i64 0,.slice none 0 0,.slice none 0 0] 25))
 have c0:=Cq _ _ 0 _ _ _ h1
 have c1:=Cq _ _ 1 _ _ _ h1
 have c2:=Cq _ _ 2 _ _ _ h1
 have d0:=Cq _ _ 0 _ _ _ h2
 have d1:=Cq _ _ 1 _ _ _ h2
 have d2:=Cq _ _ 2 _ _ _ h2
 have d3:=Cq _ _ 3 _ _ _ h2
 have d4:=Cq _ _ 4 _ _ _ h2
 have d5:=Cq _ _ 5 _ _ _ h2
 have l2:=(Gs h2)
 have l1:=(Gs h1)
 have GG:=Hq G0
 clear G0 hF hD h1 hok hFA h2
 go_enter Try.func31,Try.ntmps31
 go_wp2_with fail
 clear c0 c1 c2 l1 d0 d1 d2 d3 d4 d5 l2
 generalize hs9:w.heap.size=bs at *
 have HS:=Hq hs9
 clear hs9
 generalize w.alloc (.cells #[.int .i64 0,.slice none 0 0,.slice none 0 0] 25)=w2 at *
 refine RP.out.mono ?_
 rintro e w3 ⟨D,F,cv,rfl,g3,o3⟩
 obtain ⟨pD,pF3,cD,cF3,rfl,rfl⟩:=Jc o3
 have X3:=Zb XN.out g3 (by simp)
 have v0:=Cq _ _ 0 _ _ _ X3
 have v1:=Cq _ _ 1 _ _ _ X3
 have v2:=Cq _ _ 2 _ _ _ X3
 have z0:=frozen_of_row _ _ 0 _ _ X3
 have z1:=frozen_of_row _ _ 1 _ _ X3
 have z2:=frozen_of_row _ _ 2 _ _ X3
 have lv:=(Gs X3)
 have HX:=Hq X3
 have G3:=Hq (Za GG.out g3)
 have O3:=Hq (Zaj o3 (show w.heap.size<=w2.heap.size from GG.out.size))
 have hbs:w.heap.size<=bs:=by rw [HS.out];exact Nat.le_refl _
 clear X3 g3 o3
 go_wp2
 refine bodyPost_ret (v := .agg #[.int .i64 mem,.slice pD dl.length cD,.slice pF3 (Zfo fs hs V).length cF3]) ?_ rfl ⟨_,_,cv,rfl,Ze (Ze (Ze G3.out hbs) hbs) hbs,Zag (mem:=mem) O3.out HX.out⟩
 rw [Ym rfl]
 go_simp
theorem Ybx (mem:Int) (dl:List Int) (fs:List FnP) (pd pF:Option Addr) (cd cF B:Nat)  (w:World) (b1:Nat) (hBw:B<=w.heap.size) (hF:Yk w B pF fs) (hD:Rd w pd (dl.map (Value.int .u8))) (hd:dl.length<=4194304) (hn:fs.length<=64) (hok:∀ f∈fs,Zhh f.2.2.2)
 (h1:w.heap[b1]? = some (.cells #[.int .i64 mem,.slice pd dl.length cd,.slice pF fs.length cF] 25 (0,0))) :
 Calls Try.prog 34 #[.pointer (some ⟨b1,0,none⟩)] w (Zfc w mem dl (Zau fs)):=by
 have G0:=Ga w (.cells #[.int .i64 0,.slice none 0 0,.slice none 0 0] 25) none
 have RP:=Hq (Zsn mem dl fs pd pF cd cF B (w.alloc (.cells #[.int .i64 0,.slice none 0 0,.slice none 0 0] 25)) (Nat.le_trans hBw G0.size) (Zs hF G0 (by simp)) (Yy hD G0) hd hn hok)
 have XN:=Hq (heap_alloc_new w (.cells #[.int .i64 0,.slice none 0 0,.slice none 0 0] 25))
 have c0:=Cq _ _ 0 _ _ _ h1
 have c1:=Cq _ _ 1 _ _ _ h1
 have c2:=Cq _ _ 2 _ _ _ h1
 have l1:=(Gs h1)
 have GG:=Hq G0
 clear G0 hF hD h1 hok
 go_enter Try.func34,Try.ntmps34
 go_wp2_with fail
 clear c0 c1 c2 l1
 generalize hs9:w.heap.size=bs at *
 have HS:=Hq hs9
 clear hs9
 generalize w.alloc (.cells #[.int .i64 0,.slice none 0 0,.slice none 0 0] 25)=w2 at *
 refine RP.out.mono ?_
 rintro e w3 ⟨D,F,cv,rfl,g3,o3⟩
 obtain ⟨pD,pF3,cD,cF3,rfl,rfl⟩:=Jc o3
 have X3:=Zb XN.out g3 (by simp)
 have v0:=Cq _ _ 0 _ _ _ X3
 have v1:=Cq _ _ 1 _ _ _ X3
 have v2:=Cq _ _ 2 _ _ _ X3
 have z0:=frozen_of_row _ _ 0 _ _ X3
 have z1:=frozen_of_row _ _ 1 _ _ X3
 have z2:=frozen_of_row _ _ 2 _ _ X3
 have lv:=(Gs X3)
 have HX:=Hq X3
 have G3:=Hq (Za GG.out g3)
 have O3:=Hq (Zaj o3 (show w.heap.size<=w2.heap.size from GG.out.size))
 have hbs:w.heap.size<=bs:=by rw [HS.out];exact Nat.le_refl _
 clear X3 g3 o3
 go_wp2
 refine bodyPost_ret (v := .agg #[.int .i64 mem,.slice pD dl.length cD,.slice pF3 (Zau fs).length cF3]) ?_ rfl ⟨_,_,cv,rfl,Ze (Ze (Ze G3.out hbs) hbs) hbs,Zag (mem:=mem) O3.out HX.out⟩
 rw [Ym rfl]
 go_simp
end Go.Proofs.Ythlkflagancdfaa.OT
namespace Go.Proofs.Ythlkflagancdfaa.CK
open Go.RowKit Go.Great Go.Maps
structure RnB (w wr:World) (mem:Int) (pd:Option Addr) (nd cd:Nat) (pF:Option Addr) (cF:Nat) (fs:List FnP):Prop where
 gr:w.grownBy wr none
 pb:Ycv wr w.heap.size mem (.slice pd nd cd) (.slice pF fs.length cF)
 f2:wr.heap[w.heap.size+1]? = some (.cells #[.slice none 0 0,.slice none 0 0,.slice none 0 0,.slice none 0 0,.int .i64 0,.int .i64 0] 35 (0,0))
 f3:wr.heap[w.heap.size+1+1]? = some (.cells #[.int .i64 0,.int .i64 0,.int .i64 0] 39 (0,0))
 sz:w.heap.size+3<=wr.heap.size
theorem Jy {w wr wr':World} {mem:Int} {pd:Option Addr} {nd cd:Nat} {pF:Option Addr} {cF:Nat} {fs:List FnP} {r:Option Nat} (H:RnB w wr mem pd nd cd pF cF fs) (g:wr.grownBy wr' r) (hr:∀ k,r=some k->w.heap.size+3<=k):RnB w wr' mem pd nd cd pF cF fs:=by
 have nn:∀ b,b<w.heap.size+3->r≠some b:=fun b hb e=>by have:=hr b e;omega
 exact ⟨Yu H.gr g (fun k hk=>by have:=hr k hk;omega),Zb H.pb g (nn _ (by omega)),Zb H.f2 g (nn _ (by omega)),Zb H.f3 g (nn _ (by omega)),Nat.le_trans H.sz g.size⟩
theorem Zie {w wr:World} {mem:Int} {pd:Option Addr} {nd cd:Nat} {pF:Option Addr} {cF:Nat} {fs:List FnP} {F0 F1 F2 F3 F4 F5 G0 G1 G2:Value} (H:RnB w wr mem pd nd cd pF cF fs):w.grownBy (Zvr wr (w.heap.size+1) (w.heap.size+1+1) F0 F1 F2 F3 F4 F5 G0 G1 G2) none /\
 (Zvr wr (w.heap.size+1) (w.heap.size+1+1) F0 F1 F2 F3 F4 F5 G0 G1 G2).heap[w.heap.size+1]? = some (.cells #[F0,F1,F2,F3,F4,F5] 35 (0,0))/\(Zvr wr (w.heap.size+1) (w.heap.size+1+1) F0 F1 F2 F3 F4 F5 G0 G1 G2).heap[w.heap.size+1+1]? = some (.cells #[G0,G1,G2] 39 (0,0)) :=
 ⟨Zgp H.gr (by omega) (by omega),(Zfv H.f2 H.f3 (by omega)).1,(Zfv H.f2 H.f3 (by omega)).2⟩
def rnF (N:Nat) (t:Nat->Value):Act:=⟨#[t 0,.pointer (some ⟨N,0,none⟩),.pointer (some ⟨N+1,0,none⟩),.pointer (some ⟨N+1+1,0,none⟩),t 4,t 5,t 6,t 7,t 8,t 9,t 10,t 11,t 12,t 13,t 14,t 15,t 16,t 17,t 18,t 19,t 20,t 21,t 22,t 23,t 24,t 25,t 26,t 27,t 28,t 29,t 30,t 31,t 32,t 33,t 34,t 35,t 36,t 37,t 38,t 39,t 40,t 41,t 42,t 43,t 44,t 45,t 46,t 47,t 48,t 49,t 50,t 51,t 52,t 53,t 54,t 55,t 56,t 57,t 58,t 59,t 60,t 61,t 62,t 63,t 64,t 65,t 66,t 67,t 68,t 69,t 70,t 71,t 72,t 73,t 74,t 75,t 76,t 77,t 78,t 79,t 80,t 81,t 82,t 83,t 84,t 85,t 86,t 87,t 88,t 89],[]⟩
structure Xbv (N:Nat) (a:Act):Prop where
 sz:a.tmps.size=90
 df:a.defers=[]
 s1:a.tmps.getD 1 undef = .pointer (some ⟨N,0,none⟩)
 s2:a.tmps.getD 2 undef = .pointer (some ⟨N+1,0,none⟩)
 s3:a.tmps.getD 3 undef = .pointer (some ⟨N+1+1,0,none⟩)
theorem Yvd {N:Nat} {a:Act} (H:Xbv N a):a=rnF N (fun i=>a.tmps.getD i undef):=by
 refine Zjw H.sz H.df fun j hj => ?_
 have hs:=H.sz
 rw [hs] at hj
 unfold tm
 iterate 1 (rcases j with _|j;· rfl)
 rcases j with _|j
 · exact H.s1
 rcases j with _|j
 · exact H.s2
 rcases j with _|j
 · exact H.s3
 iterate 86 (rcases j with _|j;· rfl)
 omega
def Zvt (fs:List FnP) (f:Nat):Nat:=match fs[f]? with|some fn=>fn.2.2.2.length|none=>0
def Ydc {α:Type} (g:Nat->α) (k:Nat) (v:α):Nat->α:=fun x=>if x=k then v else g x
theorem Ju {α:Type} (g:Nat->α) (k:Nat) (v:α):Ydc g k v k=v:=if_pos rfl
theorem Zaf {α:Type} {g:Nat->α} {k x:Nat} {v:α} (h:x≠k):Ydc g k v x=g x:=if_neg h
theorem Zea {α:Type} (g:Nat->α) (k:Nat):(List.range (k+1)).map g=(List.range k).map g++[g k]:=by rw [List.range_succ,List.map_append];rfl
theorem Zex {α β:Type} (g:Nat->α) (k:Nat) (v:α) (φ:Nat->α->β):(List.range k).map (fun f=>φ f (Ydc g k v f))=(List.range k).map fun f=>φ f (g f):=by
 refine List.map_congr_left fun x hx => ?_
 rw [Zaf (by have:=List.mem_range.1 hx;omega)]
structure RnW (w wr:World) (mem:Int) (pd:Option Addr) (nd cd:Nat) (pF:Option Addr) (cF:Nat) (fs:List FnP) (bx kH kT kL kR:Nat) (vH vT vL:Value) (gh:Nat->Nat) (tops:Nat->Int) (hs:Nat->List Int) (lv:Nat->Value) (ln:Nat->Nat):Prop where
 b:RnB w wr mem pd nd cd pF cF fs
 xb:wr.heap[bx]? = some (.cells #[vH,vT,vL,.slice none 0 0,.int .i64 0,.int .i64 0] 35 (0,0))
 bxl:w.heap.size+3<=bx
 oH:wr.ownsRow (bx+1) 32 1 vH kH ((List.range kH).map fun f=>Value.slice (some ⟨gh f,0,none⟩) (Zvt fs f) (Zvt fs f))
 oT:wr.ownsRow (bx+1) 3 1 vT kT ((List.range kT).map fun f=>Value.int .i64 (tops f))
 oL:wr.ownsRow (bx+1) 32 1 vL kL ((List.range kL).map fun f=>lv f)
 ap:∀ q,vH.ownBlock=some q->vL.ownBlock≠some q
 rows:∀ f,f<kR->wr.ownsRow (bx+1) 3 1 (.slice (some ⟨gh f,0,none⟩) (Zvt fs f) (Zvt fs f)) (Zvt fs f) ((hs f).map (Value.int .i64))
 rT:∀ f,f<kR->vT.ownBlock≠some (gh f)
 ht:∀ (f:Nat) (fn:FnP),f<kR->fs[f]? = some fn->∃ s,HRun fs fn (hs0 fn.2.2.2.length) 0 s fn.2.2.2.length/\Yaj fn.2.2.2.length s/\s.h=hs f/\s.top=tops f
 lp:∀ (f:Nat) (fn:FnP),f<kL->fs[f]? = some fn->∃ (p:Option Addr) (c:Nat),lv f = .slice p (ln f) c/\(ln f=0->Yts (nxL fn.2.2.2 (hs f)))
section
variable {w wr wr' W3 W4:World} {mem:Int} {pd:Option Addr} {nd cd:Nat} {pF:Option Addr} {cF:Nat} {fs:List FnP} {bx k kH kT kL kR:Nat} {vH vT vL v':Value} {gh:Nat->Nat} {tops:Nat->Int} {hs:Nat->List Int} {lv:Nat->Value} {ln:Nat->Nat}
theorem Zqq {v:Value} {r:Option Nat} (h:∀ q,v.ownBlock=some q->r≠some q):v.ownBlock=none\/v.ownBlock≠r:=by
 cases e:v.ownBlock with
 | none=>exact Or.inl rfl
 | some q=>exact Or.inr (fun e2=>h q e e2.symm)
theorem Zeg (H:RnW w wr mem pd nd cd pF cF fs bx kH kT kL kR vH vT vL gh tops hs lv ln) (g:wr.grownBy wr' none):RnW w wr' mem pd nd cd pF cF fs bx kH kT kL kR vH vT vL gh tops hs lv ln :=
 ⟨Jy H.b g (fun k e=>by cases e),Zb H.xb g (by simp),H.bxl,H.oH.kept g (Classical.em _),H.oT.kept g (Classical.em _),H.oL.kept g (Classical.em _),H.ap,fun f hf=>(H.rows f hf).kept g (Classical.em _),H.rT,H.ht,H.lp⟩
theorem Yqp (H:RnW w wr mem pd nd cd pF cF fs bx k k k k vH vT vL gh tops hs lv ln) {g:Nat} {s:HS} {fn:FnP} (hfn:fs[k]? = some fn) (hr:HRun fs fn (hs0 fn.2.2.2.length) 0 s fn.2.2.2.length) (hi:Yaj fn.2.2.2.length s)
 (ho:wr.ownsRow (bx+1) 3 1 (.slice (some ⟨g,0,none⟩) (Zvt fs k) (Zvt fs k)) (Zvt fs k) (s.h.map (Value.int .i64))) (hg:vT.ownBlock≠some g) :
 RnW w wr mem pd nd cd pF cF fs bx k k k (k+1) vH vT vL (Ydc gh k g) (Ydc tops k s.top) (Ydc hs k s.h) lv ln:=by
 refine ⟨H.b,H.xb,H.bxl,?_,?_,H.oL,H.ap,fun f hf => ?_,fun f hf => ?_,fun f fn' hf hfn' => ?_,fun f fn' hf hfn' => ?_⟩
 · rw [Zex gh k g (fun f x=>Value.slice (some ⟨x,0,none⟩) (Zvt fs f) (Zvt fs f))];exact H.oH
 · rw [Zex tops k s.top (fun f x=>Value.int .i64 x)];exact H.oT
 · by_cases e:f=k
   · subst e;rw [Ju,Ju];exact ho
   · rw [Zaf e,Zaf e];exact H.rows f (by omega)
 · by_cases e:f=k
   · subst e;rw [Ju];exact hg
   · rw [Zaf e];exact H.rT f (by omega)
 · by_cases e:f=k
   · subst e
     rw [hfn] at hfn'
     injection hfn' with hfn'
     subst hfn'
     rw [Ju,Ju]
     exact ⟨s,hr,hi,rfl,rfl⟩
   · rw [Zaf e,Zaf e];exact H.ht f fn' (by omega) hfn'
 · rw [Zaf (by omega)];exact H.lp f fn' hf hfn'
theorem Yed (H:RnB w W4 mem pd nd cd pF cF fs) (hb:w.heap.size+3<=bx) (o:Nat) (v:Value):RnB w (W4.setCell ⟨bx,o,none⟩ v) mem pd nd cd pF cF fs:=Jy H (Zg W4 bx o v) (fun k e=>by injection e with e;omega)
theorem Zfh {e:TypeId} {size n:Nat} {v:Value} {xs:List Value} (h:W4.ownsRow (bx+1) e size v n xs) (o:Nat) (u:Value):(W4.setCell ⟨bx,o,none⟩ u).ownsRow (bx+1) e size v n xs:=Zdy h (Nat.lt_succ_self _)
theorem Xad (H:RnW w wr mem pd nd cd pF cF fs bx kH kT kL kR vH vT vL gh tops hs lv ln) (g0:wr.grownBy W3 none) (hown:W4.ownsRow (bx+1) 32 1 v' (kH+1) (((List.range kH).map fun f=>Value.slice (some ⟨gh f,0,none⟩) (Zvt fs f) (Zvt fs f))++[.slice (some ⟨gh kH,0,none⟩) (Zvt fs kH) (Zvt fs kH)]))
 (hgr:W3.grownBy W4 vH.ownBlock) (hloc:v'.ownBlock=vH.ownBlock\/v'.ownBlock=some W3.heap.size):RnW w (W4.setCell ⟨bx,0,none⟩ v') mem pd nd cd pF cF fs bx (kH+1) kT kL kR v' vT vL gh tops hs lv ln:=by
 have H0:=Zeg H g0
 have hlo:∀ q,vH.ownBlock=some q->w.heap.size+3<=q:=fun q hq=>by have:=(H0.oH.lt q hq).1;have:=H.bxl;omega
 have b4:=Jy H0.b hgr hlo
 have x4:=Zb H0.xb hgr (Zet H0.oH (Nat.lt_succ_self _))
 refine ⟨Yed b4 H.bxl _ _,Zi x4,H.bxl,?_,?_,?_,fun q hq hq2 => ?_,fun f hf => ?_,H.rT,H.ht,H.lp⟩
 · rw [Zea];exact Zfh hown _ _
 · exact Zfh (H0.oT.kept hgr (Zqq fun q hq=>Jg H0.oT H0.oH (by decide) hq)) _ _
 · exact Zfh (H0.oL.kept hgr (Zqq fun q hq e=>H.ap q e hq)) _ _
 · rcases hloc with h|h
   · rw [h] at hq;exact H.ap q hq hq2
   · rw [h] at hq
     injection hq with hq
     have:=(H.oL.lt q hq2).2
     have:=g0.size
     omega
 · exact Zfh ((H0.rows f hf).kept hgr (Zqq fun q hq=>Jg (H0.rows f hf) H0.oH (by decide) hq)) _ _
theorem Xab (H:RnW w wr mem pd nd cd pF cF fs bx kH kT kL kR vH vT vL gh tops hs lv ln) (g0:wr.grownBy W3 none) (hown:W4.ownsRow (bx+1) 3 1 v' (kT+1) (((List.range kT).map fun f=>Value.int .i64 (tops f))++[.int .i64 (tops kT)]))
 (hgr:W3.grownBy W4 vT.ownBlock) (hloc:v'.ownBlock=vT.ownBlock\/v'.ownBlock=some W3.heap.size):RnW w (W4.setCell ⟨bx,1,none⟩ v') mem pd nd cd pF cF fs bx kH (kT+1) kL kR vH v' vL gh tops hs lv ln:=by
 have H0:=Zeg H g0
 have hlo:∀ q,vT.ownBlock=some q->w.heap.size+3<=q:=fun q hq=>by have:=(H0.oT.lt q hq).1;have:=H.bxl;omega
 have b4:=Jy H0.b hgr hlo
 have x4:=Zb H0.xb hgr (Zet H0.oT (Nat.lt_succ_self _))
 refine ⟨Yed b4 H.bxl _ _,Zi x4,H.bxl,?_,?_,?_,H.ap,fun f hf => ?_,fun f hf => ?_,H.ht,H.lp⟩
 · exact Zfh (H0.oH.kept hgr (Zqq fun q hq=>Jg H0.oH H0.oT (by decide) hq)) _ _
 · rw [Zea];exact Zfh hown _ _
 · exact Zfh (H0.oL.kept hgr (Zqq fun q hq=>Jg H0.oL H0.oT (by decide) hq)) _ _
 · exact Zfh ((H0.rows f hf).kept hgr (Zqq fun q hq e=>by
    have e1:q=gh f:=by simpa [Value.ownBlock] using hq.symm
    subst e1
    exact H.rT f hf e)) _ _
 · rcases hloc with h|h
   · rw [h];exact H.rT f hf
   · rw [h]
     intro e
     injection e with e
     have:=((H.rows f hf).lt (gh f) rfl).2
     have:=g0.size
     omega
theorem Xac {N6:Nat} {ws:Nat->World} {lvv v7:Value} {fn:FnP} (H:RnW w wr mem pd nd cd pF cF fs bx (k+1) (k+1) k (k+1) vH vT vL gh tops hs lv ln) (hfn:fs[k]? = some fn) (R:RkF wr.drew (bx+1) bx k fn.2.2.2 (hs k) vL ((List.range k).map fun f=>lv f) lvv v7 N6 ws) :
 ∃ n,RnW w (ws 4) mem pd nd cd pF cF fs bx (k+1) (k+1) (k+1) (k+1) vH vT v7 gh tops hs (Ydc lv k lvv) (Ydc ln k n):=by
 have H0:=Zeg H (Zd (Zc wr none))
 obtain ⟨v,L,e,g1,o1,hL⟩:=R.lp
 injection e with e
 subst e
 obtain ⟨p,c,hv⟩:=Zq o1
 have hgr:=R.gr
 have hlo:∀ q,vL.ownBlock=some q->w.heap.size+3<=q:=fun q hq=>by have:=(H0.oL.lt q hq).1;have:=H.bxl;omega
 have b4:=Jy H0.b hgr hlo
 have x4:=Zb H0.xb hgr (Zet H0.oL (Nat.lt_succ_self _))
 refine ⟨L.length,?_⟩
 rw [R.e4]
 refine ⟨Yed b4 H.bxl _ _,Zi x4,H.bxl,?_,?_,?_,fun q hq hq2 => ?_,fun f hf => ?_,H.rT,H.ht,fun f fn' hf hfn' => ?_⟩
 · exact Zfh (H0.oH.kept hgr (Zqq fun q hq=>H.ap q hq)) _ _
 · exact Zfh (H0.oT.kept hgr (Zqq fun q hq=>Jg H0.oT H0.oL (by decide) hq)) _ _
 · rw [Zea,Ju,Zex lv k lvv (fun _ x=>x)];exact Zfh R.own _ _
 · rcases R.loc with h|⟨q',h,h'⟩
   · rw [h] at hq2;exact H.ap q hq hq2
   · rw [h] at hq2
     injection hq2 with hq2
     have:=(H0.oH.lt q hq).2
     omega
 · exact Zfh ((H0.rows f hf).kept hgr (Zqq fun q hq=>Jg (H0.rows f hf) H0.oL (by decide) hq)) _ _
 · by_cases e:f=k
   · subst e
     rw [hfn] at hfn'
     injection hfn' with hfn'
     subst hfn'
     rw [Ju,Ju]
     exact ⟨p,c,hv,fun h=>hL (List.length_eq_zero_iff.1 h)⟩
   · rw [Zaf e,Zaf e];exact H.lp f fn' (by omega) hfn'
end
def Zns (wr:World) (mem:Int) (vd vF:Value) (bx:Nat):World:=(wr.alloc (.map #[] 0)).alloc (.cells #[.int .i64 mem,vd,vF,.pointer (some ⟨bx,0,none⟩),.map (some wr.heap.size)] 71)
theorem Zmo (wr:World) (mem:Int) (vd vF:Value) (bx:Nat):wr.grownBy (Zns wr mem vd vF bx) none:=Za (Ga _ _ _) (Ga _ _ _)
structure RnS (w wr:World) (bx:Nat) (fs:List FnP) (vH vT vL:Value) (gH gT gL cH cT cL:Nat) (gh:Nat->Nat) (hs:Nat->List Int):Prop where
 eH:vH = .slice (some ⟨gH,0,none⟩) fs.length cH
 eT:vT = .slice (some ⟨gT,0,none⟩) fs.length cT
 eL:vL = .slice (some ⟨gL,0,none⟩) fs.length cL
 lH:bx<gH/\gH<wr.heap.size
 lT:bx<gT/\gT<wr.heap.size
 lL:bx<gL/\gL<wr.heap.size
 lg:∀ (f:Nat) (fn:FnP),fs[f]? = some fn->bx<gh f/\gh f<wr.heap.size/\wr.cell? ⟨gH,f,none⟩=some (.slice (some ⟨gh f,0,none⟩) fn.2.2.2.length fn.2.2.2.length)/\∀ i:Nat,i<fn.2.2.2.length->wr.cell? ⟨gh f,i,none⟩=some (.int .i64 ((hs f).getD i 0))
section
variable {w wr:World} {mem:Int} {pd:Option Addr} {nd cd:Nat} {pF:Option Addr} {cF B:Nat} {fs:List FnP} {bx:Nat} {vH vT vL:Value} {gh:Nat->Nat} {tops:Nat->Int} {hs:Nat->List Int} {lv:Nat->Value} {ln:Nat->Nat}
theorem Zww {fn:FnP} {f:Nat} (h:fs[f]? = some fn):Zvt fs f=fn.2.2.2.length:=by unfold Zvt;rw [h]
theorem Zmd {α:Type} {φ:Nat->α} {n f:Nat} (h:f<n):((List.range n).map φ)[f]? = some (φ f):=by
 rw [List.getElem?_map,List.getElem?_range h];rfl
theorem Yvc (H:RnW w wr mem pd nd cd pF cF fs bx fs.length fs.length fs.length fs.length vH vT vL gh tops hs lv ln) (hok:Zkj fs):∃ gH gT gL cH cT cL,RnS w wr bx fs vH vT vL gH gT gL cH cT cL gh hs:=by
 have hn:=hok.n1
 obtain ⟨gH,cH,eH,lH,hH⟩:=Yb H.oH (by omega)
 obtain ⟨gT,cT,eT,lT,hT⟩:=Yb H.oT (by omega)
 obtain ⟨gL,cL,eL,lL,hL⟩:=Yb H.oL (by omega)
 refine ⟨gH,gT,gL,cH,cT,cL,eH,eT,eL,⟨(H.oH.lt gH (by rw [eH];rfl)).1,lH⟩,⟨(H.oT.lt gT (by rw [eT];rfl)).1,lT⟩,⟨(H.oL.lt gL (by rw [eL];rfl)).1,lL⟩,fun f fn hfn => ?_⟩
 have hf:=(List.getElem?_eq_some_iff.1 hfn).1
 have hr:=H.rows f hf
 obtain ⟨s,h1,h2,h3,h4⟩:=H.ht f fn hf hfn
 have hlen:(hs f).length=fn.2.2.2.length:=by rw [<- h3];exact h2.hl
 refine ⟨(hr.lt (gh f) rfl).1,(hr.lt (gh f) rfl).2,?_,fun i hi => ?_⟩
 · rw [hH f _ (Zmd hf) (by omega),Zww hfn]
 · rw [hr.cellAt i (by rw [Zww hfn];omega),List.getElem?_map,List.getD_eq_getElem?_getD,List.getElem?_eq_getElem (by omega:i<(hs f).length)]
   rfl
theorem Yww {gH gT gL cH cT cL:Nat} (H:RnW w wr mem pd nd cd pF cF fs bx fs.length fs.length fs.length fs.length vH vT vL gh tops hs lv ln) (hok:Zkj fs) (S:RnS w wr bx fs vH vT vL gH gT gL cH cT cL gh hs) (hF:Yk w B pF fs) (hB:B<=w.heap.size) :
 LkH (Zns wr mem (.slice pd nd cd) (.slice pF fs.length cF) bx) (wr.heap.size+1) bx wr.heap.size B mem pd nd cd pF cF fs gH gT gL cH cT cL hs tops ln:=by
 have g:=Zmo wr mem (.slice pd nd cd) (.slice pF fs.length cF) bx
 have hxl:=(Gs H.xb)
 have sz:=H.b.gr.size
 have hbl:=H.bxl
 have hz:(Zns wr mem (.slice pd nd cd) (.slice pF fs.length cF) bx).heap.size=wr.heap.size+2:=by simp [Zns]
 have x:=Zb H.xb g (by simp)
 rw [S.eH,S.eT,S.eL] at x
 have kp:∀ {b o:Nat} {v:Value},wr.cell? ⟨b,o,none⟩=some v->(Zns wr mem (.slice pd nd cd) (.slice pF fs.length cF) bx).cell? ⟨b,o,none⟩=some v:=fun h=>g.cell h (by simp)
 refine ⟨Yi _ _ _,x,Zei (Yfo wr hok.nf) (Ga _ _ none) (by simp),by omega,by omega,by omega,Zs (Zs hF H.b.gr (by simp)) g (by simp),by omega,by omega,by omega,⟨by have:=S.lH;omega,by have:=S.lT;omega,fun f ar lo r c hfn => ?_,fun f hf => ?_,fun f ar lo r c hfn => ?_⟩,⟨by have:=S.lL;omega,fun f hf => ?_⟩,fun f ar lo r c hfn => ?_,fun f ar lo r c hfn hl => ?_⟩
 · obtain ⟨h1,h2,h3,h4⟩:=S.lg f _ hfn
   have hf:=(List.getElem?_eq_some_iff.1 hfn).1
   obtain ⟨s,r1,r2,r3,r4⟩:=H.ht f _ hf hfn
   refine ⟨gh f,c.length,kp h3,by omega,fun i hi=>⟨kp (h4 i hi),?_⟩⟩
   have:=r2.rng i hi
   rw [r3] at this
   omega
 · obtain ⟨⟨ar,lo,r,c⟩,hfn⟩:∃ fn,fs[f]? = some fn:=⟨_,List.getElem?_eq_getElem hf⟩
   obtain ⟨s,r1,r2,r3,r4⟩:=H.ht f _ hf hfn
   obtain ⟨g2,c2,e2,l2,h2⟩:=Yb H.oT (by have:=hok.n1;omega)
   rw [S.eT] at e2
   injection e2 with e2 _ _
   injection e2 with e2
   injection e2 with e2 _ _
   subst e2
   have:=r2.t0
   have:=r2.t1
   exact ⟨kp (h2 f _ (Zmd hf) (by omega)),by rw [<- r4];omega,by rw [<- r4];omega⟩
 · have:=hok.args _ (List.mem_of_getElem? hfn)
   simp only [] at this
   omega
 · obtain ⟨⟨ar,lo,r,c⟩,hfn⟩:∃ fn,fs[f]? = some fn:=⟨_,List.getElem?_eq_getElem hf⟩
   obtain ⟨p,cc,h1,h2⟩:=H.lp f _ hf hfn
   obtain ⟨g2,c2,e2,l2,h3⟩:=Yb H.oL (by have:=hok.n1;omega)
   rw [S.eL] at e2
   injection e2 with e2 _ _
   injection e2 with e2
   injection e2 with e2 _ _
   subst e2
   refine ⟨p,cc,?_⟩
   rw [<- h1]
   exact kp (h3 f _ (Zmd hf) (by omega))
 · have hf:=(List.getElem?_eq_some_iff.1 hfn).1
   obtain ⟨s,r1,r2,r3,r4⟩:=H.ht f _ hf hfn
   have:=Zcu hok (List.mem_of_getElem? hfn) r1
   rw [r3] at this
   exact this
 · have hf:=(List.getElem?_eq_some_iff.1 hfn).1
   obtain ⟨p,cc,h1,h2⟩:=H.lp f _ hf hfn
   exact h2 hl
theorem Yve {w':World} {P:Nat->Prop} (H:RnB w wr mem pd nd cd pF cF fs) (g:Sp P wr w') (hP:∀ k,k<wr.heap.size->P k->w.heap.size+3<=k):RnB w w' mem pd nd cd pF cF fs:=by
 have sz:=H.sz
 have mv:∀ {b:Nat} {o:Obj},b<w.heap.size+3->wr.heap[b]? = some o->w'.heap[b]? = some o:=fun hb h=>by
  rw [g.block _ (by omega) (fun e=>by have:=hP _ (by omega) e;omega)];exact h
 refine ⟨⟨g.os.trans H.gr.os,g.tape.trans H.gr.tape,g.output.trans H.gr.output,Nat.le_trans H.gr.size g.size,fun b hb hr => ?_⟩,mv (by omega) H.pb,mv (by omega) H.f2,mv (by omega) H.f3,Nat.le_trans H.sz g.size⟩
 rw [g.block b (by omega) (fun e=>by have:=hP _ (by omega) e;omega)]
 exact H.gr.block b hb hr
theorem Yqi {gH gT gL cH cT cL:Nat} {w8:World} {e:Ending} (H:RnW w wr mem pd nd cd pF cF fs bx fs.length fs.length fs.length fs.length vH vT vL gh tops hs lv ln) (hok:Zkj fs) (S:RnS w wr bx fs vH vT vL gH gT gL cH cT cL gh hs)
 (hA:Zxy (Zns wr mem (.slice pd nd cd) (.slice pF fs.length cF) bx) bx wr.heap.size fs.length (.slice (some ⟨gH,0,none⟩) fs.length cH) (.slice (some ⟨gT,0,none⟩) fs.length cT) (.slice (some ⟨gL,0,none⟩) fs.length cL) (Zsb fs (Zsh fs hs)) e w8) :
 ∃ (gV:Nat) (V:List Bool) (ce co:Int),RnB w w8 mem pd nd cd pF cF fs/\w8.heap[bx]? = some (.cells #[.slice (some ⟨gH,0,none⟩) fs.length cH,.slice (some ⟨gT,0,none⟩) fs.length cT,.slice (some ⟨gL,0,none⟩) fs.length cL,.slice (some ⟨gV,0,none⟩) fs.length fs.length,.int .i64 ce,.int .i64 co] 35 (0,0)) /\
   Ytk w (Zvr w8 (w.heap.size+1) (w.heap.size+1+1) (.slice (some ⟨gH,0,none⟩) fs.length cH) (.slice (some ⟨gT,0,none⟩) fs.length cT) (.slice (some ⟨gL,0,none⟩) fs.length cL) (.slice (some ⟨gV,0,none⟩) fs.length fs.length) (.int .i64 ce) (.int .i64 co) (.int .i64 0) (.int .i64 0) (.int .i64 0)) fs
    (.agg #[.slice (some ⟨gH,0,none⟩) fs.length cH,.slice (some ⟨gT,0,none⟩) fs.length cT,.slice (some ⟨gL,0,none⟩) fs.length cL,.slice (some ⟨gV,0,none⟩) fs.length fs.length,.int .i64 ce,.int .i64 co]) gH cH gT cT gL cL gV ce co gh hs V:=by
 obtain ⟨-,g8,gV,V,ce,co,x8,r8,hV⟩:=hA
 have g:=Zmo wr mem (.slice pd nd cd) (.slice pF fs.length cF) bx
 have sz:=H.b.sz
 have hbl:=H.bxl
 have hxl:=(Gs H.xb)
 have szl:=g.size
 have hbm:wr.heap.size<(Zns wr mem (.slice pd nd cd) (.slice pF fs.length cF) bx).heap.size:=by
  have hz:(Zns wr mem (.slice pd nd cd) (.slice pF fs.length cF) bx).heap.size=wr.heap.size+2:=by simp [Zns]
  omega
 have b8:=Yve (Jy H.b g (fun k e=>by cases e)) g8 (fun k hk e=>by rcases e with e|e <;> omega)
 have mv:∀ {b o:Nat} {v:Value},bx<b->b<wr.heap.size->wr.cell? ⟨b,o,none⟩=some v->∀ {F0 F1 F2 F3 F4 F5 G0 G1 G2:Value},(Zvr w8 (w.heap.size+1) (w.heap.size+1+1) F0 F1 F2 F3 F4 F5 G0 G1 G2).cell? ⟨b,o,none⟩=some v:=fun h1 h2 h=>by
  intro F0 F1 F2 F3 F4 F5 G0 G1 G2
  rw [Zbk (Zoh (by omega) (by omega)),Zbk (g8.block _ (by omega) (fun e=>by rcases e with e|e <;> omega))]
  exact g.cell h (by simp)
 refine ⟨gV,V,ce,co,b8,x8,⟨rfl,fun f fn hfn => ?_,fun f fn hfn => ?_,fun f hf => ?_,hV,⟨by have:=S.lH;omega,by have:=(r8.lt gV rfl).1;omega⟩⟩⟩
 · obtain ⟨h1,h2,h3,h4⟩:=S.lg f fn hfn
   exact ⟨by omega,mv S.lH.1 S.lH.2 h3,fun i hi=>mv h1 h2 (h4 i hi)⟩
 · have hf:=(List.getElem?_eq_some_iff.1 hfn).1
   obtain ⟨s,r1,r2,r3,r4⟩:=H.ht f fn hf hfn
   exact ⟨s,r1,r2,r3⟩
 · have hlv:=(r8.lt gV rfl)
   have hlen:V.length=fs.length:=hV.1
   rw [Zbk (Zoh (by omega) (by omega)),r8.cellAt f (by omega),List.getElem?_map,List.getD_eq_getElem?_getD,List.getElem?_eq_getElem (by omega:f<V.length)]
   rfl
end
end Go.Proofs.Ythlkflagancdfaa.CK
