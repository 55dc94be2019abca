/-
  Part of a proof: contracts of functions and lemmas, each stated by its own theorem. Conditions: as each theorem states.
-/
import Derived.Test.YthlkflagancdfaaMK17
import Derived.Test.YthlkflagancdfaaMK15
import Derived.Test.YthlkflagancdfaaMK13
set_option linter.unusedSimpArgs false
set_option linter.unusedVariables false
set_option maxRecDepth 100000
set_option maxHeartbeats 16000000
namespace Go.Proofs.Ythlkflagancdfaa.OT
open Go.RowKit Go.Great
open Go.Proofs.Ythlkflagancdfaa.CK
structure Xbm (c:List Ins):Prop where
 l:c.length<=4096
 n:1<=c.length
 j:∀ x∈c,jmp x.1=true->0<=x.2/\x.2<c.length
 r:Jl c
theorem Zrt (c:List Ins) (n:Nat):1<=Zba c n:=by
 unfold Zba
 by_cases a:n+1<c.length/\Zad c (n+1)=false
 · rw [if_pos a]
   by_cases b:n+2<c.length/\Zad c (n+2)=false
   · rw [if_pos b];omega
   · rw [if_neg b];omega
 · rw [if_neg a];exact Nat.le_refl _
theorem Ylh {c:List Ins} {n:Nat} {f:Jn} (h:Zax c n=some f):∀ y∈f.put,y.1≠0:=by
 unfold Zax at h
 simp only [] at h
 split at h
 · injection h with h;subst h;intro y hy;simp at hy
 split at h
 · injection h with h;subst h;intro y hy;simp at hy
 split at h
 · injection h with h;subst h;intro y hy;simp at hy;subst hy;decide
 split at h
 · next h4=>injection h with h;subst h;intro y hy;simp at hy;subst hy;omega
 · cases h
theorem Yhj {c:List Ins} {n L:Nat} {f:Jn} (h:Zau c n L=some f):∀ y∈f.put,y.1≠0:=by
 unfold Zau at h
 simp only [] at h
 repeat' split at h
 all_goals first
  | (cases h;done)
  | (injection h with h;subst h;intro y hy;simp at hy;done)
  | (injection h with h;subst h;intro y hy;simp at hy;subst hy;simp;done)
  | (injection h with h;subst h;intro y hy;simp at hy;subst hy;simp only [];split <;> decide)
theorem Ynq {c:List Ins} {n L:Nat} {f:Jn} (h:Zek c n L=some f):∀ y∈f.put,y.1≠0:=by
 unfold Zek at h
 simp only [] at h
 repeat' split at h
 all_goals first
  | (cases h;done)
  | (injection h with h;subst h;intro y hy;simp at hy;done)
  | (next h5=>injection h with h;subst h;intro y hy;simp at hy;subst hy;omega)
theorem Yfc {c:List Ins} {n L:Nat} {f:Jn} (h:Zce c n L=some f):∀ y∈f.put,y.1≠0:=by
 unfold Zce at h
 split at h
 · injection h with h;subst h;intro y hy;simp at hy;subst hy;decide
 · cases h
theorem Zuu {c:List Ins} {n L:Nat} {f:Jn} (h:Zaj c n L=some f):∀ y∈f.put,y.1≠0:=by
 unfold Zaj at h
 cases h1:Zax c n with
 | some g=>rw [h1] at h;simp at h;subst h;exact Ylh h1
 | none =>
   rw [h1] at h
   cases h2:Zau c n L with
   | some g=>rw [h2] at h;simp at h;subst h;exact Yhj h2
   | none =>
     rw [h2] at h
     cases h3:Zek c n L with
     | some g=>rw [h3] at h;simp at h;subst h;exact Ynq h3
     | none =>
       rw [h3] at h
       simp at h
       exact Yfc h
theorem Yid {w:World} {bk m:Nat} {f:Nat->Int} (h:Ybn w bk m f):Ybn w bk (m+1) f:=by
 obtain ⟨n,D,h1,h2,h3⟩:=h
 exact ⟨n,D,h1,by omega,h3⟩
def Ylv (w:World) (b2 b1:Nat) (x0 x1 x2 x3:Value):World :=
 (((((((w.setCell ⟨b2,0,none⟩ x0).setCell ⟨b2,1,none⟩ x1).setCell ⟨b2,2,none⟩ x2).setCell ⟨b2,3,none⟩ x3).setCell ⟨b1,0,none⟩ x0).setCell ⟨b1,1,none⟩ x1).setCell ⟨b1,2,none⟩ x2).setCell ⟨b1,3,none⟩ x3
theorem Ych {w:World} {b2 b1 k:Nat} {x0 x1 x2 x3:Value} (h2:k≠b2) (h1:k≠b1):(Ylv w b2 b1 x0 x1 x2 x3).heap[k]? = w.heap[k]? := by
 have s:∀ (X:World) (b o:Nat) (v:Value),k≠b->(X.setCell ⟨b,o,none⟩ v).heap[k]? = X.heap[k]? := fun X b o v hb=>heap_setCell_other X _ k v (by intro e;exact hb (by rw [e]))
 unfold Ylv
 rw [s _ _ _ _ h1,s _ _ _ _ h1,s _ _ _ _ h1,s _ _ _ _ h1,s _ _ _ _ h2,s _ _ _ _ h2,s _ _ _ _ h2,s _ _ _ _ h2]
theorem Yyd {w:World} {b2 b1:Nat} {x0 x1 x2 x3 y0 y1 y2 y3:Value} {t:TypeId} (h:w.heap[b1]? = some (.cells #[y0,y1,y2,y3] t (0,0))) (hne:b1≠b2):(Ylv w b2 b1 x0 x1 x2 x3).heap[b1]? = some (.cells #[x0,x1,x2,x3] t (0,0)):=by
 have s:∀ (X:World) (o:Nat) (v:Value) (ob:Obj),X.heap[b1]? = some ob->(X.setCell ⟨b2,o,none⟩ v).heap[b1]? = some ob:=fun X o v ob hX=>by rw [heap_setCell_other X _ b1 v (by intro e;exact hne (by rw [e]))];exact hX
 unfold Ylv
 rw [Zg (Zg (Zg (Zg (s _ _ _ _ (s _ _ _ _ (s _ _ _ _ (s _ _ _ _ h)))))))]
 rfl
theorem Yci {w0 w:World} {b2 b1:Nat} {x0 x1 x2 x3:Value} (h:w0.grownBy w none) (h2:w0.heap.size<=b2) (h1:w0.heap.size<=b1):w0.grownBy (Ylv w b2 b1 x0 x1 x2 x3) none :=
 Zd (Zd (Zd (Zd (Zd (Zd (Zd (Zd h h2) h2) h2) h2) h1) h1) h1) h1
theorem Zvr {w w':World} {B b b':Nat} {q:Option Addr} {c:List Ins} {t:TypeId} {v:Value} (h:Xz w B q c) (ho:∀ y∈c,y.1≠0) (hv:v = .nilFunc) (hx:w.heap[b]? = some (.cells #[.int .i64 0,.int .i64 0,.int .i64 0,v] t (0,0))) (hx':w.heap[b']? = some (.cells #[.int .i64 0,.int .i64 0,.int .i64 0,v] t (0,0))) (hs:∀ j,j<w.heap.size->j≠b->j≠b'->w'.heap[j]? = w.heap[j]?):Xz w' B q c:=fun h0=>by
 obtain ⟨b1,o,e,hb,hc⟩:=h h0
 subst hv
 obtain ⟨⟨op,a1⟩,hi⟩:∃ x,c[0]? = some x:=⟨_,List.getElem?_eq_getElem h0⟩
 have hop:=ho _ (List.mem_of_getElem? hi)
 obtain ⟨g0,g1⟩:=hc 0 op a1 hi
 simp only [Nat.zero_mul,Nat.add_zero] at g0 g1 hop
 have key:∀ bb:Nat,w.heap[bb]? = some (.cells #[.int .i64 0,.int .i64 0,.int .i64 0,.nilFunc] t (0,0))->b1≠bb:=by
  intro bb hbb e2
  subst e2
  unfold World.cell? at g0 g1
  rw [hbb] at g0 g1
  simp only [] at g0 g1
  rcases (by omega:o=0\/o=1\/o=2\/o=3\/4<=o) with rfl|rfl|rfl|rfl|h3
  · simp at g0;exact hop g0.symm
  · simp at g0;exact hop g0.symm
  · simp at g0;exact hop g0.symm
  · simp at g0
  · rw [Array.getElem?_eq_none (by simpa using h3)] at g0;cases g0
 refine ⟨b1,o,e,hb,fun i op a hi => ?_⟩
 obtain ⟨g0,g1⟩:=hc i op a hi
 have hq:=World.block_lt_of_cell? _ _ g0
 exact ⟨by rw [Zbi (hs b1 hq (key b hx) (key b' hx'))];exact g0,by rw [Zbi (hs b1 hq (key b hx) (key b' hx'))];exact g1⟩
theorem Ytt {w w7:World} {a:Act} {s6 bn k j lo' k7:Nat} {wh:Int} {pu:List Ins} {q7:Option Addr} {pv:Array Value} (h2:a.tmps.getD 2 undef = .pointer (some ⟨w.heap.size+1,0,none⟩)) (h3:a.tmps.getD 3 undef = .bool true) (hd:a.defers=[])
 (U0:w7.heap[w.heap.size]? = some (.cells pv 25 (0,0))) (U1:w7.heap[w.heap.size+1]? = some (.cells #[.int .i64 0,.int .i64 0,.int .i64 0,.nilFunc] 59 (0,0))) (U2:w7.heap[w.heap.size+1+1]? = some (.cells #[.int .i64 0,.int .i64 0,.int .i64 0,.nilFunc] 59 (0,0)))
 (UF:w7.heap[s6]? = some (.cells #[.int .i64 k] 3 (0,0))) (UN:w7.heap[bn]? = some (.cells #[.int .i64 j] 3 (0,0))) (hs:w.heap.size+1+1<s6) (hb:w.heap.size+1+1<bn) (G7:w.grownBy w7 none) (N7:q7=none->k7=0) (C7:Xz w7 w7.heap.size q7 pu) (HP:∀ y∈pu,y.1≠0) :
 bodyPost Try.prog Try.f36 (Ylp w pv (some (k,j,⟨lo',pu,wh⟩))) Exit.ret a ((Ylv w7 (w.heap.size+1+1) (w.heap.size+1) (.int .i64 k) (.int .i64 j) (.int .i64 wh) (.func (.func 55) #[] #[.pointer (some ⟨w.heap.size,0,none⟩),.pointer (some ⟨s6,0,none⟩),.pointer (some ⟨bn,0,none⟩),.pointer (some ⟨w7.heap.size,0,none⟩)])).alloc (.cells #[.int .i64 lo',.slice q7 pu.length k7,.int .i64 wh] 104)):=by
 have hsz:∀ x0 x1 x2 x3,(Ylv w7 (w.heap.size+1+1) (w.heap.size+1) x0 x1 x2 x3).heap.size=w7.heap.size:=fun x0 x1 x2 x3=>by unfold Ylv;simp
 generalize hF:Value.func (.func 55) #[] #[.pointer (some ⟨w.heap.size,0,none⟩),.pointer (some ⟨s6,0,none⟩),.pointer (some ⟨bn,0,none⟩),.pointer (some ⟨w7.heap.size,0,none⟩)]=F
 have hsz2:=hsz (.int .i64 k) (.int .i64 j) (.int .i64 wh) F
 have GS:=Yci (x0 := .int .i64 k) (x1 := .int .i64 j) (x2 := .int .i64 wh) (x3:=F) G7 (show w.heap.size<=w.heap.size+1+1 by omega) (show w.heap.size<=w.heap.size+1 by omega)
 have S1:=Yyd (b2:=w.heap.size+1+1) (x0 := .int .i64 k) (x1 := .int .i64 j) (x2 := .int .i64 wh) (x3:=F) U1 (by omega)
 have SO:∀ z,z≠w.heap.size+1+1->z≠w.heap.size+1->(Ylv w7 (w.heap.size+1+1) (w.heap.size+1) (.int .i64 k) (.int .i64 j) (.int .i64 wh) F).heap[z]? = w7.heap[z]? := fun z h1 h2=>Ych h1 h2
 have CS:=Zvr C7 HP rfl U2 U1 (fun z _ h1 h2=>SO z h1 h2)
 generalize Ylv w7 (w.heap.size+1+1) (w.heap.size+1) (.int .i64 k) (.int .i64 j) (.int .i64 wh) F=W at *
 have GA:=Ga W (.cells #[.int .i64 lo',.slice q7 pu.length k7,.int .i64 wh] 104) none
 have XA:=heap_alloc_new W (.cells #[.int .i64 lo',.slice q7 pu.length k7,.int .i64 wh] 104)
 rw [hsz2] at XA
 have X1:=Zb S1 GA (by simp)
 have hX1:=Hq X1
 refine bodyPost_ret (v := .tuple #[.agg #[.int .i64 k,.int .i64 j,.int .i64 wh,F],.bool true]) ?_ hd ⟨Za GS GA,w.heap.size,s6,bn,w7.heap.size,q7,k7,by rw [hF],Zb (by rw [SO _ (by omega) (by omega)];exact U0) GA (by simp),Zb (by rw [SO _ (by omega) (by omega)];exact UF) GA (by simp),Zb (by rw [SO _ (by omega) (by omega)];exact UN) GA (by simp),XA,N7,Zkh (Xo CS GA (by simp)) (by rw [<- hsz2];exact GA.size)⟩
 have k0:=Cq _ _ 0 _ _ _ X1
 have k1:=Cq _ _ 1 _ _ _ X1
 have k2:=Cq _ _ 2 _ _ _ X1
 have k3:=Cq _ _ 3 _ _ _ X1
 have q0:=(Gs X1)
 generalize W.alloc (.cells #[.int .i64 lo',.slice q7 pu.length k7,.int .i64 wh] 104)=W2 at *
 clear X1 XA GA CS SO S1 GS hsz hsz2 hF U0 U1 U2 UF UN G7 C7 HP
 rw [results_cell_tmp rfl,h2,h3]
 go_simp
theorem Ygh {fs:List FnP} {k:Nat} {f:FnP} (h:fs[k]? = some f):Zqs (fs.drop k) k=match Zqt f.2.2.2 f.2.2.2.length 0 with
 | some (n,x)=>some (k,n,x)
 | none=>Zqs (fs.drop (k+1)) (k+1):=by
 obtain ⟨hkl,e⟩:=List.getElem?_eq_some_iff.1 h
 rw [List.drop_eq_getElem_cons hkl,e]
 rfl
theorem Zjz {c:List Ins} {r n:Nat}:Zqt c (r+1) n=match Zaj c n (Zba c n) with
 | some x=>some (n,x)
 | none=>Zqt c r (n+1):=rfl
theorem Ytu (mem:Int) (fs:List FnP) (pd pF:Option Addr) (nd cd cF B:Nat) (w:World) (hBw:B<=w.heap.size) (hF:Yl w B pF fs) (hn:fs.length<=64) (hok:∀ f∈fs,Xbm f.2.2.2) :
 Calls Try.prog 36 #[.agg #[.int .i64 mem,.slice pd nd cd,.slice pF fs.length cF]] w (Ylp w #[.int .i64 mem,.slice pd nd cd,.slice pF fs.length cF] (Zqs fs 0)):=by
 have hmm := @run_makeMap Try.prog
 have FF:=Hq hF
 have OK:=Hq hok
 have hni:(fs.length:Int)<=64:=by omega
 have GZ:=Xl w (.cells #[.int .i64 mem,.slice pd nd cd,.slice pF fs.length cF] 25) (.cells #[.int .i64 0,.int .i64 0,.int .i64 0,.nilFunc] 59) (.cells #[.int .i64 0,.int .i64 0,.int .i64 0,.nilFunc] 59)
 have T0:=Hq GZ.1
 have T1:=Hq GZ.2.1
 have T2:=Hq GZ.2.2
 have G0:=Hq (Xm w (.cells #[.int .i64 mem,.slice pd nd cd,.slice pF fs.length cF] 25) (.cells #[.int .i64 0,.int .i64 0,.int .i64 0,.nilFunc] 59) (.cells #[.int .i64 0,.int .i64 0,.int .i64 0,.nilFunc] 59))
 clear hF hok GZ
 go_enter Try.func36,Try.ntmps36
 go_wp2
 go_step3
 go_wp2
 go_step3
 go_wp2
 have SZ2:=Hq (show w.heap.size+1+1+1=(((w.alloc (.cells #[.int .i64 mem,.slice pd nd cd,.slice pF fs.length cF] 25)).alloc (.cells #[.int .i64 0,.int .i64 0,.int .i64 0,.nilFunc] 59)).alloc (.cells #[.int .i64 0,.int .i64 0,.int .i64 0,.nilFunc] 59)).heap.size by simp)
 generalize ((w.alloc (.cells #[.int .i64 mem,.slice pd nd cd,.slice pF fs.length cF] 25)).alloc (.cells #[.int .i64 0,.int .i64 0,.int .i64 0,.nilFunc] 59)).alloc (.cells #[.int .i64 0,.int .i64 0,.int .i64 0,.nilFunc] 59)=w2 at *
 go_loopw [5,18] (fun t5 i wr=>t5 = .bool false/\∃ k:Nat,i = .int .i64 k/\k<=fs.length/\Zqs fs 0=Zqs (fs.drop k) k/\w2.grownBy wr none) (fun _ i _=>fs.length - (intOf i).toNat)
 case atStart=>exact ⟨rfl,0,rfl,Nat.zero_le _,rfl,Zc _ _⟩
 case round =>
  obtain ⟨rfl,k,rfl,hk,he,hg⟩:=hrel
  have HE:=Hq he
  have HG:=Hq hg
  by_cases hlt:(k:Int)<(fs.length:Int)
  · obtain ⟨⟨a,lo,r,c⟩,hf⟩:∃ f,fs[k]? = some f:=⟨_,List.getElem?_eq_getElem (by omega)⟩
    have gw:=Za G0.out hg
    obtain ⟨b,o,rfl,hb,hc⟩:=FF.out (by omega)
    obtain ⟨f0,f1,f2,pc,cc,f3,hcode⟩:=hc k a lo r c hf
    have c0:=gw.cell f0 (by simp)
    have c1:=gw.cell f1 (by simp)
    have c2:=gw.cell f2 (by simp)
    have c3:=gw.cell f3 (by simp)
    have lb:b<wr.heap.size:=by have:=gw.size;omega
    have hcok:=OK.out _ (List.mem_of_getElem? hf)
    simp only [] at hcok
    have CO:=Hq hcok
    have HST:=Hq (Ygh hf)
    have HCB:=Hq (Xo hcode gw (by simp))
    have hcl:(c.length:Int)<=4096:=by have:=hcok.l;omega
    have GZ:=Xl wr (.cells #[.int .i64 (k:Int)] 3) (.cells #[.int .i64 a,.int .i64 lo,.int .i64 r,.slice pc c.length cc] 52) (.map #[] 0)
    have Y0:=Hq GZ.1
    have Y1:=Hq GZ.2.1
    have GB:=Hq (Xm wr (.cells #[.int .i64 (k:Int)] 3) (.cells #[.int .i64 a,.int .i64 lo,.int .i64 r,.slice pc c.length cc] 52) (.map #[] 0))
    have M0:=Hq (show Ybn (((wr.alloc (.cells #[.int .i64 (k:Int)] 3)).alloc (.cells #[.int .i64 a,.int .i64 lo,.int .i64 r,.slice pc c.length cc] 52)).alloc (.map #[] 0)) (wr.heap.size+1+1) 0 fun _=>0 by
     have h:=Zuv ((wr.alloc (.cells #[.int .i64 (k:Int)] 3)).alloc (.cells #[.int .i64 a,.int .i64 lo,.int .i64 r,.slice pc c.length cc] 52))
     rw [World.size_alloc,World.size_alloc] at h
     exact h)
    clear hc hf he hg hcode hcok gw f0 f1 f2 f3 GZ
    obtain ⟨wo,hwo⟩:∃ wo,wo=wr:=⟨_,rfl⟩
    subst hwo
    go_wp2
    clear c0 c1 c2 c3 lb hmm
    generalize hsz:wo.heap.size=s6 at *
    have HSZ:=Hq hsz
    clear hsz
    have CB4:=Hq (Xo HCB.out GB.out (by simp))
    generalize ((wo.alloc (.cells #[.int .i64 (k:Int)] 3)).alloc (.cells #[.int .i64 a,.int .i64 lo,.int .i64 r,.slice pc c.length cc] 52)).alloc (.map #[] 0)=w4 at *
    have hsw4:s6+1+1<w4.heap.size:=Yus M0.out
    have IQ:=Hq (Znf CB4.out (show B<=w4.heap.size by have:=G0.out.size;have:=HG.out.size;have:=GB.out.size;omega))
    go_loopw [27] (fun i wr=>∃ j:Nat,i = .int .i64 j/\j<=c.length/\w4.grownBy wr (some (s6+1+1))/\Ybn wr (s6+1+1) j (Zod (c.take j))) (fun i _=>c.length - (intOf i).toNat)
    case atStart=>exact ⟨0,rfl,Nat.zero_le _,Zc _ _,Zeq M0.out (fun x=>by simp [Zod])⟩
    case round =>
     obtain ⟨j,rfl,hj,hg,hM⟩:=hrel
     have IG:=Hq hg
     have IM:=Hq hM
     by_cases hlj:(j:Int)<(c.length:Int)
     · obtain ⟨⟨op,x⟩,hx⟩:∃ x,c[j]? = some x:=⟨_,List.getElem?_eq_getElem (by omega)⟩
       obtain ⟨b1,o1,hpc,hb1,d0',d1'⟩:=IQ.out j _ hx
       subst hpc
       have hnb:b1<B:=by
        obtain ⟨b9,o9,e9,hb9,-⟩:=CB4.out (by omega)
        injection e9 with e9;injection e9 with e9 _ _
        omega
       have hne:some b1≠some (s6+1+1):=by
        intro e;injection e with e
        have:=G0.out.size;have:=HG.out.size;have:=HSZ.out;omega
       have d0:=hg.cell d0' hne
       have d1:=hg.cell d1' hne
       have lb1:=Nat.lt_of_lt_of_le hb1 hg.size
       simp only [] at d0 d1
       have GX:=Ga wr (.cells #[.int .i64 op,.int .i64 x] 49) none
       have XX:=heap_alloc_new wr (.cells #[.int .i64 op,.int .i64 x] 49)
       have hts:=Ybz hx
       cases hjm:jmp op with
       | false =>
         have JF:=Hq (show ∀ w,Calls Try.prog 52 #[.int .i64 op] w fun e w'=>e = .returned (.bool false)/\w=w' from fun w=>hjm ▸ Yu op w)
         have MN:=Hq (Yid (Zeq (Zmy hM GX (by simp)) (fun y=>show Zod (c.take j) y=Zod (c.take (j+1)) y by rw [hts,Zvx,if_neg (by simp [hjm])];omega)))
         have GN:=Hq (Za hg (Zfu (r:=some (s6+1+1)) GX))
         clear hg hM hx d0' d1' hb1 hnb hne GX XX hts hjm
         go_wp2_with (go_at_call 52;refine (JF.out _).mono ?_;rintro e w' ⟨rfl,rfl⟩)
         go_roundw
         case rel=>exact ⟨j+1,by go_num,by omega,GN.out,MN.out⟩
         case measure=>simp [intOf];omega
       | true =>
         obtain ⟨hv0,hv1⟩:=CO.out.j _ (List.mem_of_getElem? hx) hjm
         simp only [] at hv0 hv1
         obtain ⟨m,rfl⟩:=Int.eq_ofNat_of_zero_le hv0
         have JT:=Hq (show ∀ w,Calls Try.prog 52 #[.int .i64 op] w fun e w'=>e = .returned (.bool true)/\w=w' from fun w=>hjm ▸ Yu op w)
         have hM8:=Zmy hM GX (by simp)
         have hcn:=Ywg (c.take j) m
         have hjl:((c.take j).length:Int)<=4096:=by rw [List.length_take];omega
         have hlook:=Zrq (x:=m) hM8 (by omega)
         obtain ⟨w9,hput,hM9,hg9⟩:=Yac (x:=m) (v:=Zod (c.take j) m+1) hM8 (by omega) (by omega) (by omega)
         have MN:=Hq (Zeq hM9 (fun y=>show (if y=m then Zod (c.take j) m+1 else Zod (c.take j) y)=Zod (c.take (j+1)) y by
          rw [hts,Zvx]
          by_cases e:y=m
          · subst e;rw [if_pos rfl,if_pos ⟨hjm,rfl⟩]
          · rw [if_neg e,if_neg (fun h=>e (by have:=h.2;simp only [] at this;omega))];omega))
         have GN:=Hq (Za (Za hg (Zfu (r:=some (s6+1+1)) GX)) hg9)
         have y1:=Cq _ _ 1 _ _ _ XX
         have ly:=(Gs XX)
         generalize Zod (c.take j) m=cm at *
         have hcm0:0<=cm:=hcn.1
         have hcm1:cm<=4096:=by omega
         clear hg hM hx d0' d1' hb1 hnb hne GX XX hts hjm hM8 hM9 hg9 hv0 hcn
         go_wp2_with (go_at_call 52;refine (JT.out _).mono ?_;rintro e w' ⟨rfl,rfl⟩)
         go_roundw
         case rel=>exact ⟨j+1,by go_num,by omega,GN.out,MN.out⟩
         case measure=>simp [intOf];omega
     · have hjn:j=c.length:=by omega
       subst hjn
       have Y05:=Zb (Zb Y0.out (Zc _ none) (by simp)) hg (by simp;omega)
       have Y15:=Zb Y1.out hg (by simp)
       have G5:=Hq (show wo.grownBy wr none from Yw GB.out hg (fun q e=>by injection e with e;have:=HSZ.out;omega))
       have MF:=Hq (Zeq hM (fun y=>show Zod (c.take c.length) y=Zod c y by rw [List.take_length]))
       have X05:=Hq Y05
       have X15:=Hq Y15
       have b3:=Cq _ _ 3 _ _ _ Y15
       have lb3:=(Gs Y15)
       clear hg hM Y05 Y15
       go_wp2
       clear b3 lb3
       obtain ⟨w5,hw5⟩:∃ w5,w5=wr:=⟨_,rfl⟩
       subst hw5
       go_loopw [5,43] (fun t5 i wr=>t5 = .bool false/\∃ j:Nat,i = .int .i64 j/\j<=c.length/\Zqt c c.length 0=Zqt c (c.length - j) j/\w5.grownBy wr none) (fun _ i _=>c.length - (intOf i).toNat)
       case atStart=>exact ⟨rfl,0,rfl,Nat.zero_le _,rfl,Zc _ _⟩
       case round =>
        obtain ⟨rfl,j,rfl,hj,hej,hg⟩:=hrel
        have HEJ:=Hq hej
        have JG:=Hq hg
        have y1:=Zb X15.out hg (by simp)
        have b3:=Cq _ _ 3 _ _ _ y1
        have lb3:=(Gs y1)
        clear y1
        by_cases hlj:(j:Int)<(c.length:Int)
        · have GN:=Ga wr (.cells #[.int .i64 (j:Int)] 3) none
          have XN:=heap_alloc_new wr (.cells #[.int .i64 (j:Int)] 3)
          have HGN:=Hq (Za hg GN)
          have HXN:=Hq XN
          have MF6:=Hq (Zmy MF.out (Za hg GN) (by simp))
          have X06:=Hq (Zb X05.out (Za hg GN) (by simp))
          have q3:=GN.cell b3 (by simp)
          have n0:=Cq _ _ 0 _ _ _ XN
          have ln:=(Gs XN)
          have lf:=Nat.lt_of_lt_of_le lb3 GN.size
          obtain ⟨rr,hrr⟩:∃ rr,c.length - j=rr+1:=⟨c.length - j - 1,by omega⟩
          have HRR:=Hq hrr
          rw [hrr,Zjz] at hej
          have HEI:=Hq hej
          clear hg hej GN XN b3 lb3 hrr
          go_wp2
          generalize hbn:wr.heap.size=bn at *
          have HBN:=Hq hbn
          clear hbn
          generalize wr.alloc (.cells #[.int .i64 (j:Int)] 3)=w6 at *
          go_loop [12] (fun l=>∃ L:Nat,l = .int .i64 L/\1<=L/\L<=Zba c j/\j+L<=c.length) (fun l=>3 - (intOf l).toNat)
          case atStart=>exact ⟨1,rfl,Nat.le_refl _,Zrt c j,by omega⟩
          case round =>
           obtain ⟨L,rfl,hL1,hLp,hjL⟩:=hrel
           have hL3:=Yil hL1 hLp
           have hlk:=Zrq (x:=j+L) MF6.out (by omega)
           rw [Int.natCast_add] at hlk
           have hwj:IntKind.i64.wrap ((j:Int)+(L:Int))=(j:Int)+(L:Int):=IntWalk.i64_in _ (by omega)
           by_cases hcond:L<3/\j+L<c.length/\Zad c (j+L)=false
           · obtain ⟨h1,h2,h3⟩:=hcond
             rw [(Zov c (j+L)).1 h3] at hlk
             have i1:(L:Int)<3:=by omega
             have i2:(j:Int)+(L:Int)<(c.length:Int):=by omega
             have HNX:=Hq (Ycy hL1 hLp h1 h2 h3)
             clear h3 hLp
             go_wp2
             go_round
             case rel=>exact ⟨L+1,by go_num,by omega,HNX.out,by omega⟩
             case measure=>simp [intOf];omega
           · have HLE:=Hq (Yik hL1 hLp hcond)
             have hct:L<3->j+L<c.length->(Zod c (j+L) == 0)=false:=fun h1 h2=>by
              cases h3:Zad c (j+L) with
              | false=>exact absurd ⟨h1,h2,h3⟩ hcond
              | true =>
                have h4:¬ Zod c (j+L)=0:=fun e=>by rw [<- Zov,h3] at e;cases e
                simpa using h4
             have MT:=Hq (Yia c pc cc B j L w6 (by have:=G0.out.size;have:=HG.out.size;have:=G5.out.size;have:=HGN.out.size;omega) (Xo HCB.out (Za G5.out HGN.out) (by simp)) (by omega) CO.out.l CO.out.r hL3 hjL (fun e=>by
              have hm:=List.mem_of_getElem? (show c[j]? = some (Zn c j) by unfold Zn;rw [List.getD_eq_getElem?_getD,List.getElem?_eq_getElem (by omega)];rfl)
              exact CO.out.j _ hm (by rw [e];rfl)))
             generalize Zod c (j+L)=cm at *
             clear hcond hLp
             have h3w:(¬ ((L:Int)<3))\/((L:Int)<3/\¬ ((j:Int)+(L:Int)<(c.length:Int)))\/((L:Int)<3/\(j:Int)+(L:Int)<(c.length:Int)/\(cm == 0)=false):=by
              by_cases e1:L<3
              · by_cases e2:j+L<c.length
                · exact Or.inr (Or.inr ⟨by omega,by omega,hct e1 e2⟩)
                · exact Or.inr (Or.inl ⟨by omega,by omega⟩)
              · exact Or.inl (by omega)
             clear hct
             rw [HLE.out] at HEI
             rcases h3w with i1|⟨i1,i2⟩|⟨i1,i2,i3⟩
             all_goals
              cases hmt:Zaj c j L with
              | none =>
                rw [hmt] at MT HEI
                go_wp2_with (go_at_call 54;refine MT.out.mono ?_;rintro e w7 ⟨hg7,l7,wt7,q7,m7,k7,rfl⟩;have G7:=Hq hg7;clear hg7)
                go_roundw
                case rel=>exact ⟨rfl,j+1,by go_num,by omega,by have h1:=HEI.out;have h2:=HRR.out;rw [show c.length - (j+1)=rr by omega];exact h1,Za HGN.out (Za G7.out (Ga _ _ _))⟩
                case measure=>simp [intOf];omega
              | some x =>
                rw [hmt] at MT HEI
                have HPU:=Hq (Zuu hmt)
                obtain ⟨lo',pu,wh⟩:=x
                have HRE:=Hq (show Zqs fs 0=some (k,j,⟨lo',pu,wh⟩) by
                 have h1:=HEJ.out
                 rw [HRR.out,Zjz,HLE.out,hmt] at h1
                 rw [HE.out,HST.out,h1])
                have gw6:=Za HG.out (Za G5.out HGN.out)
                go_wp2_with (go_at_call 54;refine MT.out.mono ?_;rintro e w7 ⟨hg7,q7,k7,rfl,hn7,hc7⟩;have t2:=Zb T2.out (Za gw6 hg7) (by simp);have t1:=Zb T1.out (Za gw6 hg7) (by simp);have tf:=Zb X06.out hg7 (by simp);have tn:=Zb HXN.out hg7 (by simp);have U0:=Hq (Zb T0.out (Za gw6 hg7) (by simp));have U2:=Hq t2;have U1:=Hq t1;have UF:=Hq tf;have UN:=Hq tn;have G7:=Hq (Za gw6 hg7);have N7:=Hq hn7;have C7:=Hq hc7;have a0:=Cq _ _ 0 _ _ _ t2;have a1:=Cq _ _ 1 _ _ _ t2;have a2:=Cq _ _ 2 _ _ _ t2;have a3:=Cq _ _ 3 _ _ _ t2;have e0:=frozen_of_row _ _ 0 _ _ t2;have e1:=frozen_of_row _ _ 1 _ _ t2;have e2:=frozen_of_row _ _ 2 _ _ t2;have e3:=frozen_of_row _ _ 3 _ _ t2;have d0:=Cq _ _ 0 _ _ _ t1;have d1:=Cq _ _ 1 _ _ _ t1;have d2:=Cq _ _ 2 _ _ _ t1;have d3:=Cq _ _ 3 _ _ _ t1;have f0:=frozen_of_row _ _ 0 _ _ t1;have f1:=frozen_of_row _ _ 1 _ _ t1;have f2:=frozen_of_row _ _ 2 _ _ t1;have f3:=frozen_of_row _ _ 3 _ _ t1;have m0:=Cq _ _ 0 _ _ _ tf;have p0:=Cq _ _ 0 _ _ _ tn;have r0:=(Gs t2);have r1:=(Gs t1);have r2:=(Gs tf);have r3:=(Gs tn);clear t1 t2 tf tn hg7 hn7 hc7)
                rw [Exit.noGoto_ret,HRE.out]
                exact Ytt rfl rfl rfl U0.out U1.out U2.out UF.out UN.out (by have:=HG.out.size;have:=HSZ.out;have:=SZ2.out;omega) (by have:=HG.out.size;have:=G5.out.size;have:=JG.out.size;have:=HBN.out;have:=SZ2.out;omega) (Za G0.out G7.out) N7.out C7.out HPU.out
        · have hjn:j=c.length:=by omega
          have HU:=Hq (show Zqs fs 0=Zqs (fs.drop (k+1)) (k+1) by
           rw [HE.out,HST.out,hej,hjn,Nat.sub_self];rfl)
          clear hg hej b3 lb3
          go_wp2
          go_roundw
          case rel=>exact ⟨rfl,k+1,by go_num,by omega,HU.out,Za HG.out (Za G5.out JG.out)⟩
          case measure=>simp [intOf];omega
  · have hkn:k=fs.length:=by omega
    have HU:=Hq (show Zqs fs 0=none by rw [he,hkn,List.drop_length];rfl)
    have t2:=Zb T2.out hg (by simp)
    have t1:=Zb T1.out hg (by simp)
    have a0:=Cq _ _ 0 _ _ _ t2
    have a1:=Cq _ _ 1 _ _ _ t2
    have a2:=Cq _ _ 2 _ _ _ t2
    have a3:=Cq _ _ 3 _ _ _ t2
    have d0:=Cq _ _ 0 _ _ _ t1
    have d1:=Cq _ _ 1 _ _ _ t1
    have d2:=Cq _ _ 2 _ _ _ t1
    have d3:=Cq _ _ 3 _ _ _ t1
    have f0:=frozen_of_row _ _ 0 _ _ t1
    have f1:=frozen_of_row _ _ 1 _ _ t1
    have f2:=frozen_of_row _ _ 2 _ _ t1
    have f3:=frozen_of_row _ _ 3 _ _ t1
    have r0:=(Gs t2)
    have r1:=(Gs t1)
    have H1:=Hq t1
    clear he hg t1 t2
    go_wp2
    rw [HU.out]
    refine bodyPost_ret (v := .tuple #[.agg #[.int .i64 0,.int .i64 0,.int .i64 0,.nilFunc],.bool false]) ?_ rfl ⟨?_,rfl⟩
    · rw [results_cell_tmp rfl]
      go_simp
    · refine Zd (Zd (Zd (Zd (Za G0.out HG.out) ?_) ?_) ?_) ?_ <;> omega
end Go.Proofs.Ythlkflagancdfaa.OT
namespace Go.Proofs.Ythlkflagancdfaa.CK
structure GoL (n:Nat) (b:Int) (L:List Nat) (h:List Int) (wt:List Bool) (least:Nat) (h':List Int) (wt':List Bool) (least':Nat):Prop where
 lh:h'.length=n
 lw:wt'.length=n
 at_:∀ x,x<n->(h'.getD x 0=h.getD x 0/\wt'.getD x false=wt.getD x false)\/(h.getD x 0 = -1/\h'.getD x 0=b/\wt'.getD x false=true/\least'<=x)
 all:∀ y∈L,h'.getD y 0=b
 le:least'<=least
theorem Yat {n:Nat} {b:Int} (hb:0<=b):∀ {L:List Nat} {h:List Int} {wt:List Bool} {least:Nat} {h':List Int} {wt':List Bool} {least':Nat},h.length=n->wt.length=n->(∀ y∈L,y<n)->goL b L h wt least=some (h',wt',least')->GoL n b L h wt least h' wt' least'
 | [],h,wt,least,h',wt',least',h1,h2,_,e=>by
   simp only [goL,Option.some.injEq,Prod.mk.injEq] at e
   obtain ⟨rfl,rfl,rfl⟩:=e
   exact ⟨h1,h2,fun x _=>Or.inl ⟨rfl,rfl⟩,(fun y hy=>by cases hy),Nat.le_refl _⟩
 | m::r,h,wt,least,h',wt',least',h1,h2,hL,e=>by
   have hm:=hL m (List.mem_cons_self ..)
   unfold goL at e
   by_cases hc:h.getD m 0 = -1
   · rw [if_pos hc] at e
     obtain ⟨l1,l2,l3,l4,l5⟩:=Yat hb (by simp [h1]) (by simp [h2]) (fun y hy=>hL y (List.mem_cons_of_mem _ hy)) e
     have hmb:h'.getD m 0=b:=by
      rcases l3 m hm with ⟨e1,_⟩|⟨e1,e2,_⟩
      · rw [e1,Zs _ _ _ _ _ (by omega),if_pos rfl]
      · exact e2
     refine ⟨l1,l2,fun x hx => ?_,fun y hy => ?_,by omega⟩
     · by_cases hxm:x=m
       · subst hxm
         right
         refine ⟨hc,hmb,?_,by omega⟩
         rcases l3 x hx with ⟨_,e2⟩|⟨_,_,e2,_⟩
         · rw [e2,Zs _ _ _ _ _ (by omega),if_pos rfl]
         · exact e2
       · have e1:=l3 x hx
         rw [Zs _ _ _ _ _ (by omega),if_neg hxm,Zs _ _ _ _ _ (by omega),if_neg hxm] at e1
         exact e1
     · rcases List.mem_cons.1 hy with rfl|hy
       · exact hmb
       · exact l4 y hy
   · rw [if_neg hc] at e
     by_cases hd:h.getD m 0=b
     · rw [if_pos hd] at e
       obtain ⟨l1,l2,l3,l4,l5⟩:=Yat hb h1 h2 (fun y hy=>hL y (List.mem_cons_of_mem _ hy)) e
       refine ⟨l1,l2,l3,fun y hy => ?_,l5⟩
       rcases List.mem_cons.1 hy with rfl|hy
       · rcases l3 y hm with ⟨e1,_⟩|⟨_,e2,_⟩
         · rw [e1];exact hd
         · exact e2
       · exact l4 y hy
     · rw [if_neg hd] at e;cases e
structure HCl (fn:FnP) (s:HS) (pl:Nat):Prop where
 inv:Zzb fn.2.2.2.length s
 w:∀ x,x<fn.2.2.2.length->s.wt.getD x false=true->pl<=x
 c:∀ x,x<fn.2.2.2.length->0<=s.h.getD x 0->s.wt.getD x false=false->∀ y∈Jc fn.2.2.2 x,y<fn.2.2.2.length/\0<=s.h.getD y 0
 z:s.h.getD 0 0=0
theorem Yvx {fn:FnP} (h:1<=fn.2.2.2.length):HCl fn (hs0 fn.2.2.2.length) 0:=by
 refine ⟨Ysa h,fun x _ _=>Nat.zero_le _,fun x hx h0 hw => ?_,?_⟩
 · simp only [hs0] at h0 hw
   rw [Zs _ _ _ _ _ (by simp;omega)] at h0 hw
   by_cases e:x=0
   · rw [if_pos e] at hw;cases hw
   · rw [if_neg e] at h0;simp [List.getD_eq_getElem?_getD,List.getElem?_replicate,hx] at h0
 · simp only [hs0]
   rw [Zs _ _ _ _ _ (by simp;omega),if_pos rfl]
theorem Ypr {fs:List FnP} {fn:FnP} (hok:Zjp fs) (hfn:fn∈fs) {s s':HS} {pl pl':Nat} (H:HCl fn s pl) (st:HStep fs fn s pl s' pl'):HCl fn s' pl':=by
 obtain ⟨inv,hw,hc,hz⟩:=H
 cases st with
 | skip hlt hwt =>
   refine ⟨inv,fun x hx h => ?_,hc,hz⟩
   have:=hw x hx h
   have:x≠pl:=fun e=>by rw [e,hwt] at h;cases h
   omega
 | take hlt hwt hst hgo =>
   rename_i b h' wt'
   obtain ⟨⟨op,a⟩,hins⟩:∃ x,fn.2.2.2[pl]? = some x:=⟨_,List.getElem?_eq_getElem (by omega)⟩
   have hio:=hok.ins fn hfn _ (List.mem_of_getElem? hins)
   simp only [] at hio
   have hrng:=inv.rng pl hlt
   have hw0:=inv.wts pl hlt hwt
   have hsE:Zdc fs fn pl op a (s.h.getD pl 0)=(0,b):=by unfold Xe at hst;simp only [hins] at hst;exact hst
   obtain ⟨⟨b0,b1⟩,hn⟩:=Zmh hio (by omega) hsE
   have hnx:∀ y∈Jc fn.2.2.2 pl,y<fn.2.2.2.length:=by
    intro y hy
    unfold Jc at hy
    simp only [hins] at hy
    obtain ⟨z,hz,rfl⟩:=List.mem_map.1 hy
    have:=hn z hz
    omega
   obtain ⟨l1,l2,l3,l4,l5⟩:=Yat b0 inv.hl (by simp [inv.wl]) hnx hgo
   have keep:∀ x,x<fn.2.2.2.length->0<=s.h.getD x 0->h'.getD x 0=s.h.getD x 0:=by
    intro x hx h0
    rcases l3 x hx with ⟨e,_⟩|⟨e,_⟩
    · exact e
    · rw [e] at h0;omega
   refine ⟨⟨l1,l2,fun i hi => ?_,fun i hi hwi => ?_,?_,?_⟩,fun x hx h => ?_,fun x hx h0 hwx y hy => ?_,?_⟩
   · simp only []
     rcases l3 i hi with ⟨e,_⟩|⟨_,e,_⟩
     · rw [e];exact inv.rng i hi
     · rw [e];exact Or.inr ⟨b0,b1⟩
   · simp only [] at hwi ⊢
     rcases l3 i hi with ⟨e,e2⟩|⟨_,e,_⟩
     · rw [e2,Zs _ _ _ _ _ (by rw [inv.wl];exact hlt)] at hwi
       by_cases hip:i=pl
       · rw [if_pos hip] at hwi;cases hwi
       · rw [if_neg hip] at hwi;rw [e];exact inv.wts i hi hwi
     · rw [e];exact b0
   · simp only [];have:=inv.t0;omega
   · simp only []
     have:=inv.t1
     omega
   · simp only [] at h
     rcases l3 x hx with ⟨_,e2⟩|⟨_,_,_,e⟩
     · rw [e2,Zs _ _ _ _ _ (by rw [inv.wl];exact hlt)] at h
       by_cases hip:x=pl
       · rw [if_pos hip] at h;cases h
       · rw [if_neg hip] at h
         have:=hw x hx h
         omega
     · exact e
   · simp only [] at h0 hwx ⊢
     rcases l3 x hx with ⟨e,e2⟩|⟨_,_,e,_⟩
     · rw [e2,Zs _ _ _ _ _ (by rw [inv.wl];exact hlt)] at hwx
       rw [e] at h0
       by_cases hip:x=pl
       · subst hip
         exact ⟨hnx y hy,by rw [l4 y hy];exact b0⟩
       · rw [if_neg hip] at hwx
         obtain ⟨h3,h4⟩:=hc x hx h0 hwx y hy
         exact ⟨h3,by rw [keep y h3 h4];exact h4⟩
     · rw [e] at hwx;cases hwx
   · simp only []
     rw [keep 0 (by omega) (by rw [hz];decide)]
     exact hz
theorem Zyd {fs:List FnP} {fn:FnP} (hok:Zjp fs) (hfn:fn∈fs) {s s':HS} {pl pl':Nat} (r:HRun fs fn s pl s' pl'):HCl fn s pl->HCl fn s' pl':=by
 induction r with
 | refl=>exact id
 | step r st ih=>exact fun H=>Ypr hok hfn (ih H) st
theorem Zbl {fs:List FnP} {fn:FnP} (hok:Zjp fs) (hfn:fn∈fs) {s:HS} (r:HRun fs fn (hs0 fn.2.2.2.length) 0 s fn.2.2.2.length) :
 s.h.getD 0 0=0/\∀ x,x<fn.2.2.2.length->0<=s.h.getD x 0->∀ y∈Jc fn.2.2.2 x,y<fn.2.2.2.length/\0<=s.h.getD y 0:=by
 have H:=Zyd hok hfn r (Yvx (hok.len fn hfn).1)
 refine ⟨H.z,fun x hx h0=>H.c x hx h0 ?_⟩
 cases hb:s.wt.getD x false with
 | false=>rfl
 | true=>have:=H.w x hx hb;omega
end Go.Proofs.Ythlkflagancdfaa.CK
namespace Go.Proofs.Ythlkflagancdfaa.OT
open Go.Proofs.Ythlkflagancdfaa.CK
inductive Reach (c:List (Int × Int)):Nat->Prop
 | z:Reach c 0
 | next {p n:Nat}:Reach c p->p<c.length->n∈Jc c p->Reach c n
structure Ylu (fs:List FnP) (fn:FnP) (H:Nat->Int):Prop where
 z:H 0=0
 st:∀ p,p<fn.2.2.2.length->Reach fn.2.2.2 p->∃ b,Xe fs fn p (H p)=(0,b)/\∀ n∈Jc fn.2.2.2 p,n<fn.2.2.2.length/\H n=b
section
variable {fs:List FnP} {fn:FnP} {H:Nat->Int}
theorem Zsk {c:List (Int × Int)} {b:Int}:∀ {L:List Nat} {h:List Int} {wt:List Bool} {least:Nat},(∀ n∈L,n<h.length/\H n=b/\Reach c n)->wt.length=h.length->(∀ x,x<h.length->h.getD x 0 = -1\/(h.getD x 0=H x/\Reach c x))->(∀ x,x<h.length->wt.getD x false=true->h.getD x 0=H x/\Reach c x) ->
 ∃ h' wt' least',goL b L h wt least=some (h',wt',least')/\h'.length=h.length/\wt'.length=h.length/\(∀ x,x<h.length->h'.getD x 0 = -1\/(h'.getD x 0=H x/\Reach c x))/\(∀ x,x<h.length->wt'.getD x false=true->h'.getD x 0=H x/\Reach c x)
 | [],h,wt,least,_,hw,h1,h2=>⟨h,wt,least,rfl,rfl,hw,h1,h2⟩
 | n::r,h,wt,least,hL,hw,h1,h2=>by
   obtain ⟨hn,hb,hr⟩:=hL n (List.mem_cons_self ..)
   unfold goL
   by_cases hc:h.getD n 0 = -1
   · rw [if_pos hc]
     obtain ⟨h',wt',least',e,l1,l2,a1,a2⟩:=Zsk (b:=b) (L:=r) (h:=h.set n b) (wt:=wt.set n true) (least:=min least n) (fun m hm=>by simp;exact hL m (List.mem_cons_of_mem _ hm)) (by simp [hw]) (fun x hx=>by
      rw [Zs _ _ _ _ _ hn]
      split
      · next e=>subst e;exact Or.inr ⟨hb.symm,hr⟩
      · exact h1 x (by simpa using hx)) (fun x hx hx2=>by
      rw [Zs _ _ _ _ _ hn]
      rw [Zs _ _ _ _ _ (by omega)] at hx2
      split
      · next e=>subst e;exact ⟨hb.symm,hr⟩
      · next e=>rw [if_neg e] at hx2;exact h2 x (by simpa using hx) hx2)
     refine ⟨h',wt',least',e,by simpa using l1,by simpa using l2,fun x hx=>a1 x (by simpa using hx),fun x hx=>a2 x (by simpa using hx)⟩
   · rw [if_neg hc]
     have hq:h.getD n 0=b:=by
      rcases h1 n hn with e|e
      · exact absurd e hc
      · rw [e.1,hb]
     rw [if_pos hq]
     exact Zsk (fun m hm=>hL m (List.mem_cons_of_mem _ hm)) hw h1 h2
structure HF (fn:FnP) (H:Nat->Int) (s:HS):Prop where
 hl:s.h.length=fn.2.2.2.length
 wl:s.wt.length=fn.2.2.2.length
 a:∀ x,x<fn.2.2.2.length->s.h.getD x 0 = -1\/(s.h.getD x 0=H x/\Reach fn.2.2.2 x)
 w:∀ x,x<fn.2.2.2.length->s.wt.getD x false=true->s.h.getD x 0=H x/\Reach fn.2.2.2 x
theorem Yjg (F:Ylu fs fn H) {s:HS} {pl:Nat} (I:HF fn H s) (hp:pl<fn.2.2.2.length) (hw:s.wt.getD pl false=true) :
 ∃ b h' wt' least',Xe fs fn pl (s.h.getD pl 0)=(0,b)/\goL b (Jc fn.2.2.2 pl) s.h (s.wt.set pl false) pl=some (h',wt',least')/\∀ t,HF fn H ⟨h',wt',t⟩:=by
 obtain ⟨hH,hr⟩:=I.w pl hp hw
 obtain ⟨b,hs,hg⟩:=F.st pl hp hr
 obtain ⟨h',wt',least',e,l1,l2,a1,a2⟩:=Zsk (H:=H) (c:=fn.2.2.2) (b:=b) (L:=Jc fn.2.2.2 pl) (h:=s.h) (wt:=s.wt.set pl false) (least:=pl) (fun n hn=>by
  obtain ⟨q1,q2⟩:=hg n hn
  exact ⟨by rw [I.hl];exact q1,q2,Reach.next hr hp hn⟩) (by simp [I.wl,I.hl]) (fun x hx=>I.a x (by rw [<- I.hl];exact hx)) (fun x hx hx2=>by
  rw [Zs _ _ _ _ _ (by rw [I.wl];exact hp)] at hx2
  split at hx2
  · cases hx2
  · exact I.w x (by rw [<- I.hl];exact hx) hx2)
 refine ⟨b,h',wt',least',?_,e,fun t=>⟨l1.trans I.hl,l2.trans I.hl,fun x hx=>a1 x (by rw [I.hl];exact hx),fun x hx=>a2 x (by rw [I.hl];exact hx)⟩⟩
 rw [hH];exact hs
theorem Xfk (F:Ylu fs fn H) (hn:1<=fn.2.2.2.length):HF fn H (hs0 fn.2.2.2.length):=by
 refine ⟨by simp [hs0],by simp [hs0],fun x hx => ?_,fun x hx hw => ?_⟩
 · simp only [hs0]
   rw [Zs _ _ _ _ _ (by simp;omega)]
   split
   · next e=>subst e;exact Or.inr ⟨F.z.symm,Reach.z⟩
   · left;simp [List.getD_eq_getElem?_getD,List.getElem?_replicate,hx]
 · simp only [hs0] at hw ⊢
   rw [Zs _ _ _ _ _ (by simp;omega)] at hw ⊢
   by_cases e:x=0
   · subst e;rw [if_pos rfl];exact ⟨F.z.symm,Reach.z⟩
   · rw [if_neg e] at hw;simp [List.getD_eq_getElem?_getD,List.getElem?_replicate,hx] at hw
theorem Yrz (F:Ylu fs fn H) {s s':HS} {pl pl':Nat} (r:HRun fs fn s pl s' pl') (I:HF fn H s):HF fn H s':=by
 induction r with
 | refl=>exact I
 | step _ hs ih =>
   cases hs with
   | skip _ _=>exact ih
   | take hp hw hst hgo =>
     obtain ⟨b',h'',wt'',least'',e1,e2,e3⟩:=Yjg F ih hp hw
     rw [hst] at e1
     injection e1 with _ e1
     subst e1
     rw [hgo] at e2
     injection e2 with e2
     injection e2 with e2 e4
     injection e4 with e4 _
     subst e2
     subst e4
     exact e3 _
theorem Yka (F:Ylu fs fn H) (hn:1<=fn.2.2.2.length) {s:HS} {pl:Nat} {e:Int} (r:HRun fs fn (hs0 fn.2.2.2.length) 0 s pl):¬ Xfc fs fn s pl e:=by
 rintro ⟨hp,hw,hb⟩
 obtain ⟨b',h'',wt'',least'',e1,e2,e3⟩:=Yjg F (Yrz F r (Xfk F hn)) hp hw
 rcases hb with ⟨h1,h2⟩|⟨h1,b,h2,h3⟩
 · rw [e1] at h2;exact h1 h2.symm
 · rw [e1] at h2
   injection h2 with _ h2
   subst h2
   rw [e2] at h3;cases h3
theorem Zvk (F:Ylu fs fn H) (hok:Zjp fs) (hfn:fn∈fs) {s:HS} (r:HRun fs fn (hs0 fn.2.2.2.length) 0 s fn.2.2.2.length) :
 ∀ x,x<fn.2.2.2.length->(Reach fn.2.2.2 x->s.h.getD x 0=H x/\0<=H x)/\(¬ Reach fn.2.2.2 x->s.h.getD x 0 = -1):=by
 have hn:=(hok.len fn hfn).1
 have I:=Yrz F r (Xfk F hn)
 obtain ⟨z,cl⟩:=Zbl hok hfn r
 have up:∀ x,Reach fn.2.2.2 x->0<=s.h.getD x 0:=by
  intro x hr
  induction hr with
  | z=>rw [z];exact Int.le_refl _
  | next hr hp hy ih=>exact (cl _ hp ih _ hy).2
 intro x hx
 refine ⟨fun hr => ?_,fun hr => ?_⟩
 · have h0:=up x hr
   rcases I.a x hx with e|⟨e,_⟩
   · omega
   · exact ⟨e,by omega⟩
 · rcases I.a x hx with e|⟨_,e⟩
   · exact e
   · exact absurd e hr
end
structure HT (fs:List FnP) (fn:FnP) (s:HS):Prop where
 c:∀ x,x<fn.2.2.2.length->0<=s.h.getD x 0->s.wt.getD x false=false->∃ b,Xe fs fn x (s.h.getD x 0)=(0,b)/\∀ y∈Jc fn.2.2.2 x,y<fn.2.2.2.length/\0<=b/\s.h.getD y 0=b
theorem Yvw {fs:List FnP} {fn:FnP} (hok:Zjp fs) (hfn:fn∈fs) {s s':HS} {pl pl':Nat} (C:HCl fn s pl) (T:HT fs fn s) (st:HStep fs fn s pl s' pl'):HT fs fn s':=by
 have inv:=C.inv
 cases st with
 | skip hlt hwt=>exact T
 | take hlt hwt hst hgo =>
   rename_i b h' wt'
   obtain ⟨⟨op,a⟩,hins⟩:∃ x,fn.2.2.2[pl]? = some x:=⟨_,List.getElem?_eq_getElem (by omega)⟩
   have hio:=hok.ins fn hfn _ (List.mem_of_getElem? hins)
   simp only [] at hio
   have hrng:=inv.rng pl hlt
   have hw0:=inv.wts pl hlt hwt
   have hsE:Zdc fs fn pl op a (s.h.getD pl 0)=(0,b):=by unfold Xe at hst;simp only [hins] at hst;exact hst
   obtain ⟨⟨b0,b1⟩,hn⟩:=Zmh hio (by omega) hsE
   have hnx:∀ y∈Jc fn.2.2.2 pl,y<fn.2.2.2.length:=by
    intro y hy
    unfold Jc at hy
    simp only [hins] at hy
    obtain ⟨z,hz,rfl⟩:=List.mem_map.1 hy
    have:=hn z hz
    omega
   obtain ⟨l1,l2,l3,l4,l5⟩:=Yat b0 inv.hl (by simp [inv.wl]) hnx hgo
   have keep:∀ x,x<fn.2.2.2.length->0<=s.h.getD x 0->h'.getD x 0=s.h.getD x 0:=by
    intro x hx h0
    rcases l3 x hx with ⟨e,_⟩|⟨e,_⟩
    · exact e
    · rw [e] at h0;omega
   refine ⟨fun x hx h0 hwx => ?_⟩
   simp only [] at h0 hwx ⊢
   rcases l3 x hx with ⟨e,e2⟩|⟨_,_,e,_⟩
   · rw [e2,Zs _ _ _ _ _ (by rw [inv.wl];exact hlt)] at hwx
     rw [e] at h0
     rw [e]
     by_cases hip:x=pl
     · subst hip
       exact ⟨b,hst,fun y hy=>⟨hnx y hy,b0,l4 y hy⟩⟩
     · rw [if_neg hip] at hwx
       obtain ⟨b2,h3,h4⟩:=T.c x hx h0 hwx
       refine ⟨b2,h3,fun y hy => ?_⟩
       obtain ⟨q1,q2,q3⟩:=h4 y hy
       exact ⟨q1,q2,by rw [keep y q1 (by rw [q3];exact q2),q3]⟩
   · rw [e] at hwx;cases hwx
theorem Xgj {fs:List FnP} {fn:FnP} (h:1<=fn.2.2.2.length):HT fs fn (hs0 fn.2.2.2.length):=by
 refine ⟨fun x hx h0 hw => ?_⟩
 simp only [hs0] at h0 hw
 rw [Zs _ _ _ _ _ (by simp;omega)] at h0 hw
 by_cases e:x=0
 · rw [if_pos e] at hw;cases hw
 · rw [if_neg e] at h0;simp [List.getD_eq_getElem?_getD,List.getElem?_replicate,hx] at h0
theorem Xaw {fs:List FnP} {fn:FnP} (hok:Zjp fs) (hfn:fn∈fs) {s s':HS} {pl pl':Nat} (r:HRun fs fn s pl s' pl'):HCl fn s pl->HT fs fn s->HT fs fn s':=by
 induction r with
 | refl=>exact fun _ h=>h
 | step r st ih=>exact fun C H=>Yvw hok hfn (Zyd hok hfn r C) (ih C H) st
theorem Zfj {fs:List FnP} {fn:FnP} (hok:Zjp fs) (hfn:fn∈fs) {s:HS} (r:HRun fs fn (hs0 fn.2.2.2.length) 0 s fn.2.2.2.length):Ylu fs fn (fun x=>s.h.getD x 0):=by
 have hn:=(hok.len fn hfn).1
 have C:=Zyd hok hfn r (Yvx hn)
 have T:=Xaw hok hfn r (Yvx hn) (Xgj hn)
 obtain ⟨z,cl⟩:=Zbl hok hfn r
 have up:∀ x,Reach fn.2.2.2 x->0<=s.h.getD x 0:=by
  intro x hr
  induction hr with
  | z=>rw [z];exact Int.le_refl _
  | next hr hp hy ih=>exact (cl _ hp ih _ hy).2
 refine ⟨z,fun p hp hr => ?_⟩
 have hw:s.wt.getD p false=false:=by
  cases hb:s.wt.getD p false with
  | false=>rfl
  | true=>have:=C.w p hp hb;omega
 obtain ⟨b,h1,h2⟩:=T.c p hp (up p hr) hw
 exact ⟨b,h1,fun y hy=>⟨(h2 y hy).1,(h2 y hy).2.2⟩⟩
end Go.Proofs.Ythlkflagancdfaa.OT
namespace Go.Proofs.Ythlkflagancdfaa.CK
open Go.RowKit Go.Great Go.Maps
structure St2 (w0:World) (bx gH gT:Nat) (fs:List FnP) (hs:Nat->List Int) (tops:Nat->Int):Prop where
 n1:gH≠bx
 n2:gT≠bx
 h:∀ (f:Nat) (ar lo r:Int) (c:List (Int × Int)),fs[f]? = some (ar,lo,r,c)->∃ (gh ch:Nat),w0.cell? ⟨gH,f,none⟩=some (.slice (some ⟨gh,0,none⟩) c.length ch)/\gh≠bx /\
   ∀ i:Nat,i<c.length->w0.cell? ⟨gh,i,none⟩=some (.int .i64 ((hs f).getD i 0)) /\ -1<=(hs f).getD i 0/\(hs f).getD i 0<=256
 t:∀ f:Nat,f<fs.length->w0.cell? ⟨gT,f,none⟩=some (.int .i64 (tops f))/\0<=tops f/\tops f<=256
 ar:∀ (f:Nat) (ar lo r:Int) (c:List (Int × Int)),fs[f]? = some (ar,lo,r,c)->0<=ar/\ar<=16/\0<=lo/\lo<=64
structure XW (w0 w:World) (bx gH gT nf cH cT bk:Nat) (x2 x3 x4 x5:Value) (kn:Nat->Option Int):Prop where
 g:w0.grownBy w (some bx)
 xc:w.heap[bx]? = some (.cells #[.slice (some ⟨gH,0,none⟩) nf cH,.slice (some ⟨gT,0,none⟩) nf cT,x2,x3,x4,x5] 35 (0,0))
 lk:w0.heap.size<=bk
 kw:KnW w bk nf kn
theorem Zzf {w0 w w':World} {bx gH gT nf cH cT bk:Nat} {x2 x3 x4 x5:Value} {kn kn':Nat->Option Int} (H:XW w0 w bx gH gT nf cH cT bk x2 x3 x4 x5 kn) (hx:bx<w0.heap.size) (g:w.grownBy w' (some bk)) (k:KnW w' bk nf kn'):XW w0 w' bx gH gT nf cH cT bk x2 x3 x4 x5 kn' :=
 ⟨Zds H.g g H.lk,Zb H.xc g (by intro e;injection e with e;have:=H.lk;omega),H.lk,k⟩
def KnB (fin:List Nat) (nf:Nat) (kn:Nat->Option Int):Prop:=∀ f,f<nf->∀ v,kn f=some v->0<=v/\v<=1000*((rk fin f:Int)+1)
def KnM (fin:List Nat) (nf:Nat) (kn kn':Nat->Option Int) (r:Nat):Prop:=(∀ x v,kn x=some v->kn' x=some v)/\∀ x,x<nf->kn' x≠none->kn x≠none\/rk fin x<r
def Xbv (w0 w:World) (bx gH gT nf cH cT bk:Nat) (x2 x3 x4 x5:Value) (fin:List Nat) (kn:Nat->Option Int) (f:Nat) (e:Ending) (w':World):Prop :=
 ∃ v kn',e = .returned (.int .i64 v)/\w.grownBy w' (some bk)/\KnW w' bk nf kn'/\kn' f=some v/\KnB fin nf kn'/\KnM fin nf kn kn' (rk fin f+1)
def cq9:Nat->Nat
 | 0=>55
 | 1=>56
 | 2=>57
 | 3=>58
 | 4=>59
 | 5=>60
 | 6=>61
 | 7=>62
 | 8=>63
 | 9=>64
 | 10=>65
 | 11=>66
 | 12=>67
 | 13=>68
 | 14=>69
 | 15=>70
 | 16=>71
 | 17=>72
 | 18=>73
 | 19=>74
 | 20=>75
 | 21=>76
 | 22=>77
 | 23=>78
 | 24=>79
 | 25=>80
 | 26=>81
 | 27=>82
 | 28=>83
 | 29=>84
 | 30=>9
 | _=>5000
theorem Xj:∀ i,i<31->∀ j,j<31->j≠i->cq9 j≠cq9 i:=by decide
theorem Ysg (i:Nat) (h:i<31):i=0\/i=1\/i=2\/i=3\/i=4\/i=5\/i=6\/i=7\/i=8\/i=9\/i=10\/i=11\/i=12\/i=13\/i=14\/i=15\/i=16\/i=17\/i=18\/i=19\/i=20\/i=21\/i=22\/i=23\/i=24\/i=25\/i=26\/i=27\/i=28\/i=29\/i=30:=by omega
theorem Zgv (j:Nat) (hj:j∈[0,1,2,11,12]):∀ i,i<31->cq9 i≠j:=by revert j;decide
def Zdt (bw bx gH nF cH f gh nC ch at_ bF oF cF ca bk:Nat) (most hv ga v9:Int):Nat->Value
 | 0 => .int .i64 most
 | 1 => .pointer (some ⟨bw,0,none⟩)
 | 2 => .pointer (some ⟨bw,0,none⟩)
 | 3 => .pointer (some ⟨bw,3,none⟩)
 | 4 => .pointer (some ⟨bx,0,none⟩)
 | 5 => .pointer (some ⟨bx,0,none⟩)
 | 6 => .pointer (some ⟨bx,0,none⟩)
 | 7 => .slice (some ⟨gH,0,none⟩) nF cH
 | 8 => .int .i64 f
 | 9 => .pointer (some ⟨gH,f,none⟩)
 | 10 => .slice (some ⟨gh,0,none⟩) nC ch
 | 11 => .int .i64 at_
 | 12 => .pointer (some ⟨gh,at_,none⟩)
 | 13 => .int .i64 hv
 | 14 => .pointer (some ⟨bw,0,none⟩)
 | 15 => .pointer (some ⟨bw,0,none⟩)
 | 16 => .pointer (some ⟨bw,0,none⟩)
 | 17 => .pointer (some ⟨bw,2,none⟩)
 | 18 => .slice (some ⟨bF,oF,none⟩) nF cF
 | 19 => .int .i64 ca
 | 20 => .pointer (some ⟨bF,oF+ca*4,none⟩)
 | 21 => .pointer (some ⟨bF,oF+ca*4,none⟩)
 | 22 => .int .i64 ga
 | 23 => .int .i64 (hv - ga)
 | 24 => .pointer (some ⟨bw,0,none⟩)
 | 25 => .int .i64 ca
 | 26 => .map (some bk)
 | 27 => .int .i64 v9
 | 28 => .int .i64 (hv - ga+v9)
 | 29 => .int .i64 (max most (hv - ga+v9))
 | 30 => .int .i64 (max most (hv - ga+v9))
 | _=>undef
theorem d28 {l:Array Bool} (h:l.getD 27 false=true):∀ p∈[(30,0),(28,27),(29,27),(30,27)],p.1=28->l.getD p.2 false=true:=by
 intro p hp e
 simp only [List.mem_cons,List.not_mem_nil,or_false] at hp
 rcases hp with rfl|rfl|rfl|rfl <;> simp only [] at e ⊢ <;> first|exact h|omega
theorem d29 {l:Array Bool} (h:l.getD 27 false=true):∀ p∈[(30,0),(28,27),(29,27),(30,27)],p.1=29->l.getD p.2 false=true:=by
 intro p hp e
 simp only [List.mem_cons,List.not_mem_nil,or_false] at hp
 rcases hp with rfl|rfl|rfl|rfl <;> simp only [] at e ⊢ <;> first|exact h|omega
theorem d30 {l:Array Bool} (h0:l.getD 0 false=true) (h:l.getD 27 false=true):∀ p∈[(30,0),(28,27),(29,27),(30,27)],p.1=30->l.getD p.2 false=true:=by
 intro p hp e
 simp only [List.mem_cons,List.not_mem_nil,or_false] at hp
 rcases hp with rfl|rfl|rfl|rfl <;> simp only [] at e ⊢ <;> first|exact h|exact h0|omega
theorem Xex:∀ i,i<31->cq9 i=9->i=30:=by decide
theorem Xbd {bw bx gH nF cH f gh nC ch at_ bF oF cF ca bk:Nat} {most hv ga v9 v8:Int} (l:Array Bool) (hun:l.getD 27 false=false) (h28:l.getD 28 false=false) (h29:l.getD 29 false=false) (h30:l.getD 30 false=false) :
 ∀ i,i<31->l.getD i false=true->cq9 i<103->Zdt bw bx gH nF cH f gh nC ch at_ bF oF cF ca bk most hv ga v8 i=Zdt bw bx gH nF cH f gh nC ch at_ bF oF cF ca bk most hv ga v9 i:=by
 intro i hi hl _
 rcases Ysg i hi with rfl|rfl|rfl|rfl|rfl|rfl|rfl|rfl|rfl|rfl|rfl|rfl|rfl|rfl|rfl|rfl|rfl|rfl|rfl|rfl|rfl|rfl|rfl|rfl|rfl|rfl|rfl|rfl|rfl|rfl|rfl <;> first|rfl|(rw [hun] at hl;cases hl)|(rw [h28] at hl;cases hl)|(rw [h29] at hl;cases hl)|(rw [h30] at hl;cases hl)
theorem Ykw (N:Nat):∀ (w0 w:World) (bw bx bm B:Nat) (mem:Int) (pd:Option Addr) (nd cd:Nat) (pF:Option Addr) (cF:Nat) (fs:List FnP) (cl:Nat->List Nat) (gH gT cH cT bk:Nat) (x2 x3 x4 x5:Value) (hs:Nat->List Int) (tops:Nat->Int) (kn:Nat->Option Int) (fin:List Nat) (f:Nat)
 (S:St w0 bw bx bm B mem pd nd cd pF cF fs cl) (S2:St2 w0 bx gH gT fs hs tops) (H:XW w0 w bx gH gT fs.length cH cT bk x2 x3 x4 x5 kn) (hKB:KnB fin fs.length kn) (hfin:Zta (Xv fs cl) fin) (hlt:∀ x∈fin,x<fs.length) (hfl:fin.length<=64) (hff:f∈fin) (hN:rk fin f<N),
 Calls Try.prog 45 #[.pointer (some ⟨bw,0,none⟩),.int .i64 f,.map (some bk)] w (Xbv w0 w bx gH gT fs.length cH cT bk x2 x3 x4 x5 fin kn f):=by
 induction N with
 | zero=>intro w0 w bw bx bm B mem pd nd cd pF cF fs cl gH gT cH cT bk x2 x3 x4 x5 hs tops kn fin f S S2 H hKB hfin hlt hfl hff hN;omega
 | succ N ih =>
   intro w0 w bw bx bm B mem pd nd cd pF cF fs cl gH gT cH cT bk x2 x3 x4 x5 hs tops kn fin f S S2 H hKB hfin hlt hfl hff hN
   have hf:=hlt f hff
   have hlook:=Yrv H.kw hf
   have hrk:=Ynb fin f hff
   cases hk:kn f with
   | some v =>
     rw [hk] at hlook
     simp only [Option.getD_some,Option.isSome_some] at hlook
     have HH:=Hq H
     have HK:=Hq hk
     have HB:=Hq hKB
     clear S S2 H hKB ih hk hfin hlt
     go_enter Try.func45,Try.ntmps45
     go_wp2
     go_ret
     exact ⟨v,kn,rfl,Zc _ _,HH.out.kw,HK.out,HB.out,fun x u h=>h,fun x _ h=>Or.inl h⟩
   | none =>
     rw [hk] at hlook
     simp only [Option.getD_none,Option.isSome_none] at hlook
     have hlx:=S.lx
     have kb:=Zb S.bwc H.g (by intro e;injection e with e;exact S.ne1 e.symm)
     have b3:=Cq _ _ 3 _ _ _ kb
     have b4:=Cq _ _ 4 _ _ _ kb
     have j1:=Cq _ _ 1 _ _ _ H.xc
     have s1:=(Gs kb)
     have s2:=(Gs H.xc)
     obtain ⟨ht0,ht1,ht2⟩:=S2.t f hf
     have ct:=H.g.cell ht0 (by intro e;injection e with e;exact S2.n2 e)
     have sT:=World.block_lt_of_cell? _ _ ct
     have hfi:(f:Int)<(fs.length:Int):=by omega
     obtain ⟨pc,cc,hrun,hcells⟩:=S.calls f hf
     have hr1:=hrun w (H.g.block bm S.lm (by intro e;injection e with e;exact S.ne2 e))
     obtain ⟨⟨ar,lo,r,c⟩,hfn⟩:∃ fn,fs[f]? = some fn:=⟨_,List.getElem?_eq_getElem hf⟩
     obtain ⟨hcl,hok⟩:=S.ok f ar lo r c hfn
     have hci:((cl f).length:Int)<=4096:=by omega
     have SS:=Hq S
     have SS2:=Hq S2
     have HH:=Hq H
     have IH:=Hq ih
     have HKN:=Hq hk
     have HCE:=Hq hcells
     have HFN:=Hq hfn
     have HOK:=Hq hok
     have HB:=Hq hKB
     have HFIN:=Hq hfin
     have HLT:=Hq hlt
     have HFF:=Hq hff
     have HNN:=Hq hN
     clear S S2 H ih hk hcells hfn hok hKB hfin hlt hff hN hrun kb ht0
     go_enter Try.func45,Try.ntmps45
     go_wp2_with (at_lookup;refine Zbr rfl _ _ 69 rfl rfl rfl hr1 ?_)
     clear b3 b4 j1 s1 s2 ct sT hr1 hlook
     go_loopw [9,38] (fun m i wr=>∃ (k:Nat) (most:Int) (knk:Nat->Option Int),m = .int .i64 most/\i = .int .i64 k/\k<=(cl f).length/\w.grownBy wr (some bk)/\XW w0 wr bx gH gT fs.length cH cT bk x2 x3 x4 x5 knk/\KnB fin fs.length knk/\KnM fin fs.length kn knk (rk fin f)/\0<=most/\most<=256+1000*(rk fin f:Int)) (fun _ i _=>(cl f).length - (intOf i).toNat)
     case atStart=>exact ⟨0,tops f,kn,rfl,rfl,Nat.zero_le _,Zc _ _,HH.out,HB.out,⟨fun x u h=>h,fun x _ h=>Or.inl h⟩,ht1,by omega⟩
     case round =>
      obtain ⟨k,most,knk,rfl,rfl,hk,hgk,hW,hkb,hkm,hm0,hm1⟩:=hrel
      obtain ⟨wo,hwo⟩:∃ wo,wo=wr:=⟨_,rfl⟩
      subst hwo
      by_cases hlt:(k:Int)<((cl f).length:Int)
      · obtain ⟨at_,hat⟩:∃ a,(cl f)[k]? = some a:=⟨_,List.getElem?_eq_getElem (by omega)⟩
        obtain ⟨bc,hpc,hbx,hcell⟩:=HCE.out k at_ hat
        obtain ⟨ca,hins,hca2⟩:=HOK.out at_ (List.mem_of_getElem? hat)
        have ec:=hW.g.cell hcell (by intro e;injection e with e;exact hbx e)
        subst hpc
        have sc:=World.block_lt_of_cell? _ _ ec
        have kb:=Zb SS.out.bwc hW.g (by intro e;injection e with e;exact SS.out.ne1 e.symm)
        have b2:=Cq _ _ 2 _ _ _ kb
        have b3:=Cq _ _ 3 _ _ _ kb
        have y0:=Cq _ _ 0 _ _ _ hW.xc
        have s1:=(Gs kb)
        have lbw:=(Gs SS.out.bwc)
        have hFr:=Zq SS.out.hF hW.g (fun r e=>by injection e with e;rw [<- e];exact SS.out.bx_)
        obtain ⟨bF,oF,hpF,hbF,hcF⟩:=hFr (by omega)
        obtain ⟨-,-,-,pc',cc',e3,hcode⟩:=hcF f ar lo r c HFN.out
        have hat2:=(List.getElem?_eq_some_iff.1 hins).1
        obtain ⟨b',o',hpc',hb',hcc⟩:=hcode (by omega)
        subst hpc' hpF
        obtain ⟨d0,d1⟩:=hcc at_ 17 ca hins
        have sF:=World.block_lt_of_cell? _ _ e3
        have sb:=World.block_lt_of_cell? _ _ d1
        have hai:(at_:Int)<(c.length:Int):=by omega
        obtain ⟨gh,ch,eH0,hghx,hhv⟩:=SS2.out.h f ar lo r c HFN.out
        obtain ⟨eh0,hv0,hv1⟩:=hhv at_ hat2
        have c1:=hW.g.cell eH0 (by intro e;injection e with e;exact SS2.out.n1 e)
        have c2:=hW.g.cell eh0 (by intro e;injection e with e;exact hghx e)
        have lgH:gH<w0.heap.size:=World.block_lt_of_cell? _ _ eH0
        have lgh:gh<w0.heap.size:=World.block_lt_of_cell? _ _ eh0
        obtain ⟨⟨ga,lo',r',c'⟩,hfa⟩:∃ fn,fs[ca]? = some fn:=⟨_,List.getElem?_eq_getElem hca2⟩
        obtain ⟨c4,-,-,-⟩:=hcF ca ga lo' r' c' hfa
        obtain ⟨hga0,hga1,-,-⟩:=SS2.out.ar ca ga lo' r' c' hfa
        have hbk:=hW.lk
        have hBw:=SS.out.hB
        have eb:¬ bw=bk:=by omega
        have ex:¬ bx=bk:=by omega
        have eH:¬ gH=bk:=by omega
        have eh:¬ gh=bk:=by omega
        have eF:¬ bF=bk:=by omega
        have hf2:=hf
        generalize hhv2:(hs f).getD at_ 0=hv at c2 hv0 hv1
        have hsub:IntKind.i64.wrap (hv - ga)=hv - ga:=IntWalk.i64_in _ (by omega)
        have hmem:ca∈Xv fs cl f:=by
         unfold Xv
         simp only [HFN.out]
         refine List.mem_map.2 ⟨at_,List.mem_of_getElem? hat,?_⟩
         simp only [hins]
         exact Int.toNat_natCast ca
        obtain ⟨hcf,hcr⟩:=Zqu HFIN.out f HFF.out ca hmem
        have hXd:XW w0 wo.drew bx gH gT fs.length cH cT bk x2 x3 x4 x5 knk:=⟨Ze hW.g,hW.xc,hW.lk,Zcb hW.kw (Ze (Zc wo none)) (by simp)⟩
        have CA:=Hq (IH.out w0 wo.drew bw bx bm B mem pd nd cd _ cF fs cl gH gT cH cT bk x2 x3 x4 x5 hs tops knk fin ca SS.out SS2.out hXd hkb HFIN.out HLT.out hfl hcf (by have:=HNN.out;omega))
        have hrc:=Ynb fin ca hcf
        have HHW:=Hq hW
        have HXD:=Hq hXd
        have HKM:=Hq hkm
        have HGK:=Hq hgk
        have HCR:=Hq hcr
        clear hW hkb hkm hgk hat hins hcell hcc hcode hcF hFr hbx kb hXd hcr hhv eH0 eh0 hhv2 hfa hmem
        go_upto_region 9 with fail
        rename_i K hK
        refine Je (n:=31) (J:=fun a0 l a1 w1=>∃ v9 kn9,RJ a0 103 31 cq9 (Zdt bw bx gH fs.length cH f gh c.length ch at_ bF oF cF ca bk most hv ga v9) l a1/\WX 27 31 [(30,0),(28,27),(29,27),(30,27)] wo.drew (some bk) (fun w9=>KnW w9 bk fs.length kn9/\kn9 ca=some v9/\KnB fin fs.length kn9/\KnM fin fs.length knk kn9 (rk fin ca+1)) l w1) (by kernel_rfl) rfl (Zai (by kernel_rfl)) (fun l a1 w1 h=>by obtain ⟨_,_,_,h⟩:=h;exact h.sz) ⟨0,knk,Jd rfl,Zle _ _ _ _ _ _⟩ ?step ?fin
        case step =>
         intro l a1 w' i hJJ hi hin
         obtain ⟨v9,kn9,hJ,hW⟩:=hJJ
         have hun:l.getD i false=false:=getD_both (mem_ready.1 hi).1
         have gW:wo.grownBy w' (some bk):=Za (Ze (Zc wo _)) hW.g
         rcases Ysg i hin with rfl|rfl|rfl|rfl|rfl|rfl|rfl|rfl|rfl|rfl|rfl|rfl|rfl|rfl|rfl|rfl|rfl|rfl|rfl|rfl|rfl|rfl|rfl|rfl|rfl|rfl|rfl|rfl|rfl|rfl|rfl
         · have e9:a1.tmps.getD 9 undef = .int .i64 most:=hJ.un 9 (fun i hi hl he=>by
            have h30:i=30:=Xex i hi he
            subst h30
            have:=hW.x (30,0) (by decide) hl
            rw [hun] at this;cases this)
           exact Zj (Zo hW hJ rfl (by rfl) rfl (by decide) (by decide) (Xj _ (by decide)) (w':=w') (by simp [execOp,Act.eval,e9,go_sem,Zdt]) (Ya hW (by decide) (by decide) (Zy (by decide)))) (fun a9 w9 h9=>⟨v9,kn9,h9⟩)
         · have e0:a1.tmps.getD 0 undef = .pointer (some ⟨bw,0,none⟩):=hJ.un 0 (fun i hi _=>Zgv 0 (by decide) i hi)
           exact Zj (Zo hW hJ rfl (by rfl) rfl (by decide) (by decide) (Xj _ (by decide)) (w':=w') (by simp [execOp,resolve,invoke,builtin,Act.eval,e0,hat2,hf2,hca2,hsub,go_sem,Zdt]) (Ya hW (by decide) (by decide) (Zy (by decide)))) (fun a9 w9 h9=>⟨v9,kn9,h9⟩)
         · have e56:a1.tmps.getD 56 undef = .pointer (some ⟨bw,0,none⟩):=(Zu hJ hi 1 (by kernel_rfl))
           exact Zj (Zo hW hJ rfl (by rfl) rfl (by decide) (by decide) (Xj _ (by decide)) (w':=w') (by simp [execOp,resolve,invoke,builtin,Act.eval,e56,hat2,hf2,hca2,hsub,go_sem,Zdt]) (Ya hW (by decide) (by decide) (Zy (by decide)))) (fun a9 w9 h9=>⟨v9,kn9,h9⟩)
         · have e57:a1.tmps.getD 57 undef = .pointer (some ⟨bw,0,none⟩):=(Zu hJ hi 2 (by kernel_rfl))
           exact Zj (Zo hW hJ rfl (by rfl) rfl (by decide) (by decide) (Xj _ (by decide)) (w':=w') (by simp [execOp,resolve,invoke,builtin,Act.eval,e57,hat2,hf2,hca2,hsub,go_sem,Zdt]) (Ya hW (by decide) (by decide) (Zy (by decide)))) (fun a9 w9 h9=>⟨v9,kn9,h9⟩)
         · have e58:a1.tmps.getD 58 undef = .pointer (some ⟨bw,3,none⟩):=(Zu hJ hi 3 (by kernel_rfl))
           have h0:=gW.cell b3 (by simpa using eb)
           exact Zj (Zo hW hJ rfl (by rfl) rfl (by decide) (by decide) (Xj _ (by decide)) (w':=w') (by simp [execOp,resolve,invoke,builtin,Act.eval,e58,h0,hat2,hf2,hca2,hsub,go_sem,Zdt]) (Ya hW (by decide) (by decide) (Zy (by decide)))) (fun a9 w9 h9=>⟨v9,kn9,h9⟩)
         · have e59:a1.tmps.getD 59 undef = .pointer (some ⟨bx,0,none⟩):=(Zu hJ hi 4 (by kernel_rfl))
           exact Zj (Zo hW hJ rfl (by rfl) rfl (by decide) (by decide) (Xj _ (by decide)) (w':=w') (by simp [execOp,resolve,invoke,builtin,Act.eval,e59,hat2,hf2,hca2,hsub,go_sem,Zdt]) (Ya hW (by decide) (by decide) (Zy (by decide)))) (fun a9 w9 h9=>⟨v9,kn9,h9⟩)
         · have e60:a1.tmps.getD 60 undef = .pointer (some ⟨bx,0,none⟩):=(Zu hJ hi 5 (by kernel_rfl))
           exact Zj (Zo hW hJ rfl (by rfl) rfl (by decide) (by decide) (Xj _ (by decide)) (w':=w') (by simp [execOp,resolve,invoke,builtin,Act.eval,e60,hat2,hf2,hca2,hsub,go_sem,Zdt]) (Ya hW (by decide) (by decide) (Zy (by decide)))) (fun a9 w9 h9=>⟨v9,kn9,h9⟩)
         · have e61:a1.tmps.getD 61 undef = .pointer (some ⟨bx,0,none⟩):=(Zu hJ hi 6 (by kernel_rfl))
           have h0:=gW.cell y0 (by simpa using ex)
           exact Zj (Zo hW hJ rfl (by rfl) rfl (by decide) (by decide) (Xj _ (by decide)) (w':=w') (by simp [execOp,resolve,invoke,builtin,Act.eval,e61,h0,hat2,hf2,hca2,hsub,go_sem,Zdt]) (Ya hW (by decide) (by decide) (Zy (by decide)))) (fun a9 w9 h9=>⟨v9,kn9,h9⟩)
         · have e1:a1.tmps.getD 1 undef = .int .i64 f:=hJ.un 1 (fun i hi _=>Zgv 1 (by decide) i hi)
           exact Zj (Zo hW hJ rfl (by rfl) rfl (by decide) (by decide) (Xj _ (by decide)) (w':=w') (by simp [execOp,resolve,invoke,builtin,Act.eval,e1,hat2,hf2,hca2,hsub,go_sem,Zdt]) (Ya hW (by decide) (by decide) (Zy (by decide)))) (fun a9 w9 h9=>⟨v9,kn9,h9⟩)
         · have e62:a1.tmps.getD 62 undef = .slice (some ⟨gH,0,none⟩) fs.length cH:=(Zu hJ hi 7 (by kernel_rfl))
           have e63:a1.tmps.getD 63 undef = .int .i64 f:=(Zu hJ hi 8 (by kernel_rfl))
           exact Zj (Zo hW hJ rfl (by rfl) rfl (by decide) (by decide) (Xj _ (by decide)) (w':=w') (by first|(simp [execOp,resolve,invoke,builtin,Act.eval,e62,e63,hat2,hf2,hca2,hsub,go_sem,Zdt];done)|(simp [execOp,resolve,invoke,builtin,Act.eval,e62,e63,hat2,hf2,hca2,hsub,go_sem,Zdt];omega)|(simp [execOp,resolve,invoke,builtin,Act.eval,e62,e63,hat2,hf2,hca2,hsub,go_sem,Zdt];intro h;omega)|(simp [execOp,resolve,invoke,builtin,Act.eval,e62,e63,hat2,hf2,hca2,hsub,go_sem,Zdt];intros;omega)) (Ya hW (by decide) (by decide) (Zy (by decide)))) (fun a9 w9 h9=>⟨v9,kn9,h9⟩)
         · have e64:a1.tmps.getD 64 undef = .pointer (some ⟨gH,f,none⟩):=(Zu hJ hi 9 (by kernel_rfl))
           have h0:=gW.cell c1 (by simpa using eH)
           exact Zj (Zo hW hJ rfl (by rfl) rfl (by decide) (by decide) (Xj _ (by decide)) (w':=w') (by simp [execOp,resolve,invoke,builtin,Act.eval,e64,h0,hat2,hf2,hca2,hsub,go_sem,Zdt]) (Ya hW (by decide) (by decide) (Zy (by decide)))) (fun a9 w9 h9=>⟨v9,kn9,h9⟩)
         · have e11:a1.tmps.getD 11 undef = .int .i64 at_:=hJ.un 11 (fun i hi _=>Zgv 11 (by decide) i hi)
           exact Zj (Zo hW hJ rfl (by rfl) rfl (by decide) (by decide) (Xj _ (by decide)) (w':=w') (by simp [execOp,resolve,invoke,builtin,Act.eval,e11,hat2,hf2,hca2,hsub,go_sem,Zdt]) (Ya hW (by decide) (by decide) (Zy (by decide)))) (fun a9 w9 h9=>⟨v9,kn9,h9⟩)
         · have e65:a1.tmps.getD 65 undef = .slice (some ⟨gh,0,none⟩) c.length ch:=(Zu hJ hi 10 (by kernel_rfl))
           have e66:a1.tmps.getD 66 undef = .int .i64 at_:=(Zu hJ hi 11 (by kernel_rfl))
           exact Zj (Zo hW hJ rfl (by rfl) rfl (by decide) (by decide) (Xj _ (by decide)) (w':=w') (by first|(simp [execOp,resolve,invoke,builtin,Act.eval,e65,e66,hat2,hf2,hca2,hsub,go_sem,Zdt];done)|(simp [execOp,resolve,invoke,builtin,Act.eval,e65,e66,hat2,hf2,hca2,hsub,go_sem,Zdt];omega)|(simp [execOp,resolve,invoke,builtin,Act.eval,e65,e66,hat2,hf2,hca2,hsub,go_sem,Zdt];intro h;omega)|(simp [execOp,resolve,invoke,builtin,Act.eval,e65,e66,hat2,hf2,hca2,hsub,go_sem,Zdt];intros;omega)) (Ya hW (by decide) (by decide) (Zy (by decide)))) (fun a9 w9 h9=>⟨v9,kn9,h9⟩)
         · have e67:a1.tmps.getD 67 undef = .pointer (some ⟨gh,at_,none⟩):=(Zu hJ hi 12 (by kernel_rfl))
           have h0:=gW.cell c2 (by simpa using eh)
           exact Zj (Zo hW hJ rfl (by rfl) rfl (by decide) (by decide) (Xj _ (by decide)) (w':=w') (by simp [execOp,resolve,invoke,builtin,Act.eval,e67,h0,hat2,hf2,hca2,hsub,go_sem,Zdt]) (Ya hW (by decide) (by decide) (Zy (by decide)))) (fun a9 w9 h9=>⟨v9,kn9,h9⟩)
         · have e0:a1.tmps.getD 0 undef = .pointer (some ⟨bw,0,none⟩):=hJ.un 0 (fun i hi _=>Zgv 0 (by decide) i hi)
           exact Zj (Zo hW hJ rfl (by rfl) rfl (by decide) (by decide) (Xj _ (by decide)) (w':=w') (by simp [execOp,resolve,invoke,builtin,Act.eval,e0,hat2,hf2,hca2,hsub,go_sem,Zdt]) (Ya hW (by decide) (by decide) (Zy (by decide)))) (fun a9 w9 h9=>⟨v9,kn9,h9⟩)
         · have e69:a1.tmps.getD 69 undef = .pointer (some ⟨bw,0,none⟩):=(Zu hJ hi 14 (by kernel_rfl))
           exact Zj (Zo hW hJ rfl (by rfl) rfl (by decide) (by decide) (Xj _ (by decide)) (w':=w') (by simp [execOp,resolve,invoke,builtin,Act.eval,e69,hat2,hf2,hca2,hsub,go_sem,Zdt]) (Ya hW (by decide) (by decide) (Zy (by decide)))) (fun a9 w9 h9=>⟨v9,kn9,h9⟩)
         · have e70:a1.tmps.getD 70 undef = .pointer (some ⟨bw,0,none⟩):=(Zu hJ hi 15 (by kernel_rfl))
           exact Zj (Zo hW hJ rfl (by rfl) rfl (by decide) (by decide) (Xj _ (by decide)) (w':=w') (by simp [execOp,resolve,invoke,builtin,Act.eval,e70,hat2,hf2,hca2,hsub,go_sem,Zdt]) (Ya hW (by decide) (by decide) (Zy (by decide)))) (fun a9 w9 h9=>⟨v9,kn9,h9⟩)
         · have e71:a1.tmps.getD 71 undef = .pointer (some ⟨bw,0,none⟩):=(Zu hJ hi 16 (by kernel_rfl))
           exact Zj (Zo hW hJ rfl (by rfl) rfl (by decide) (by decide) (Xj _ (by decide)) (w':=w') (by simp [execOp,resolve,invoke,builtin,Act.eval,e71,hat2,hf2,hca2,hsub,go_sem,Zdt]) (Ya hW (by decide) (by decide) (Zy (by decide)))) (fun a9 w9 h9=>⟨v9,kn9,h9⟩)
         · have e72:a1.tmps.getD 72 undef = .pointer (some ⟨bw,2,none⟩):=(Zu hJ hi 17 (by kernel_rfl))
           have h0:=gW.cell b2 (by simpa using eb)
           exact Zj (Zo hW hJ rfl (by rfl) rfl (by decide) (by decide) (Xj _ (by decide)) (w':=w') (by simp [execOp,resolve,invoke,builtin,Act.eval,e72,h0,hat2,hf2,hca2,hsub,go_sem,Zdt]) (Ya hW (by decide) (by decide) (Zy (by decide)))) (fun a9 w9 h9=>⟨v9,kn9,h9⟩)
         · have e12:a1.tmps.getD 12 undef = .int .i64 ca:=hJ.un 12 (fun i hi _=>Zgv 12 (by decide) i hi)
           exact Zj (Zo hW hJ rfl (by rfl) rfl (by decide) (by decide) (Xj _ (by decide)) (w':=w') (by simp [execOp,resolve,invoke,builtin,Act.eval,e12,hat2,hf2,hca2,hsub,go_sem,Zdt]) (Ya hW (by decide) (by decide) (Zy (by decide)))) (fun a9 w9 h9=>⟨v9,kn9,h9⟩)
         · have e73:a1.tmps.getD 73 undef = .slice (some ⟨bF,oF,none⟩) fs.length cF:=(Zu hJ hi 18 (by kernel_rfl))
           have e74:a1.tmps.getD 74 undef = .int .i64 ca:=(Zu hJ hi 19 (by kernel_rfl))
           exact Zj (Zo hW hJ rfl (by rfl) rfl (by decide) (by decide) (Xj _ (by decide)) (w':=w') (by first|(simp [execOp,resolve,invoke,builtin,Act.eval,e73,e74,hat2,hf2,hca2,hsub,go_sem,Zdt];done)|(simp [execOp,resolve,invoke,builtin,Act.eval,e73,e74,hat2,hf2,hca2,hsub,go_sem,Zdt];omega)|(simp [execOp,resolve,invoke,builtin,Act.eval,e73,e74,hat2,hf2,hca2,hsub,go_sem,Zdt];intro h;omega)|(simp [execOp,resolve,invoke,builtin,Act.eval,e73,e74,hat2,hf2,hca2,hsub,go_sem,Zdt];intros;omega)) (Ya hW (by decide) (by decide) (Zy (by decide)))) (fun a9 w9 h9=>⟨v9,kn9,h9⟩)
         · have e75:a1.tmps.getD 75 undef = .pointer (some ⟨bF,oF+ca*4,none⟩):=(Zu hJ hi 20 (by kernel_rfl))
           exact Zj (Zo hW hJ rfl (by rfl) rfl (by decide) (by decide) (Xj _ (by decide)) (w':=w') (by simp [execOp,resolve,invoke,builtin,Act.eval,e75,hat2,hf2,hca2,hsub,go_sem,Zdt]) (Ya hW (by decide) (by decide) (Zy (by decide)))) (fun a9 w9 h9=>⟨v9,kn9,h9⟩)
         · have e76:a1.tmps.getD 76 undef = .pointer (some ⟨bF,oF+ca*4,none⟩):=(Zu hJ hi 21 (by kernel_rfl))
           have h0:=gW.cell c4 (by simpa using eF)
           exact Zj (Zo hW hJ rfl (by rfl) rfl (by decide) (by decide) (Xj _ (by decide)) (w':=w') (by simp [execOp,resolve,invoke,builtin,Act.eval,e76,h0,hat2,hf2,hca2,hsub,go_sem,Zdt]) (Ya hW (by decide) (by decide) (Zy (by decide)))) (fun a9 w9 h9=>⟨v9,kn9,h9⟩)
         · have e68:a1.tmps.getD 68 undef = .int .i64 hv:=(Zu hJ hi 13 (by kernel_rfl))
           have e77:a1.tmps.getD 77 undef = .int .i64 ga:=(Zu hJ hi 22 (by kernel_rfl))
           exact Zj (Zo hW hJ rfl (by rfl) rfl (by decide) (by decide) (Xj _ (by decide)) (w':=w') (by simp [execOp,resolve,invoke,builtin,Act.eval,e68,e77,hat2,hf2,hca2,hsub,go_sem,Zdt]) (Ya hW (by decide) (by decide) (Zy (by decide)))) (fun a9 w9 h9=>⟨v9,kn9,h9⟩)
         · have e0:a1.tmps.getD 0 undef = .pointer (some ⟨bw,0,none⟩):=hJ.un 0 (fun i hi _=>Zgv 0 (by decide) i hi)
           exact Zj (Zo hW hJ rfl (by rfl) rfl (by decide) (by decide) (Xj _ (by decide)) (w':=w') (by simp [execOp,resolve,invoke,builtin,Act.eval,e0,hat2,hf2,hca2,hsub,go_sem,Zdt]) (Ya hW (by decide) (by decide) (Zy (by decide)))) (fun a9 w9 h9=>⟨v9,kn9,h9⟩)
         · have e12:a1.tmps.getD 12 undef = .int .i64 ca:=hJ.un 12 (fun i hi _=>Zgv 12 (by decide) i hi)
           exact Zj (Zo hW hJ rfl (by rfl) rfl (by decide) (by decide) (Xj _ (by decide)) (w':=w') (by simp [execOp,resolve,invoke,builtin,Act.eval,e12,hat2,hf2,hca2,hsub,go_sem,Zdt]) (Ya hW (by decide) (by decide) (Zy (by decide)))) (fun a9 w9 h9=>⟨v9,kn9,h9⟩)
         · have e2:a1.tmps.getD 2 undef = .map (some bk):=hJ.un 2 (fun i hi _=>Zgv 2 (by decide) i hi)
           exact Zj (Zo hW hJ rfl (by rfl) rfl (by decide) (by decide) (Xj _ (by decide)) (w':=w') (by simp [execOp,resolve,invoke,builtin,Act.eval,e2,hat2,hf2,hca2,hsub,go_sem,Zdt]) (Ya hW (by decide) (by decide) (Zy (by decide)))) (fun a9 w9 h9=>⟨v9,kn9,h9⟩)
         · have e79:a1.tmps.getD 79 undef = .pointer (some ⟨bw,0,none⟩):=(Zu hJ hi 24 (by kernel_rfl))
           have e80:a1.tmps.getD 80 undef = .int .i64 ca:=(Zu hJ hi 25 (by kernel_rfl))
           have e81:a1.tmps.getD 81 undef = .map (some bk):=(Zu hJ hi 26 (by kernel_rfl))
           have no27:∀ j,(j,27)∈[(30,0),(28,27),(29,27),(30,27)]->l.getD j false=false:=fun j hj=>(by
            rcases Bool.eq_false_or_eq_true (l.getD j false) with e|e
            · have:=hW.x (j,27) hj e;rw [hun] at this;cases this
            · exact e)
           have hw0:=hW.h0 hun
           subst hw0
           refine Jb rfl (by rfl) (by simp [execOp,resolve,invoke,Act.eval,e79,e80,e81,go_sem]) (CA.out.mono fun e w2 he => ?_)
           obtain ⟨v8,kn8,rfl,g8,k8,k8f,kb8,km8⟩:=he
           refine ⟨_,rfl,v8,kn8,?_,Zqc hW (by decide) (Zy (by decide)) ⟨k8,k8f,kb8,km8⟩ (Za (hW.g) g8)⟩
           exact Zch (val:=Zdt bw bx gH fs.length cH f gh c.length ch at_ bF oF cF ca bk most hv ga v8) (Zbe hJ (Xbd l hun (no27 28 (by simp)) (no27 29 (by simp)) (no27 30 (by simp)))) (by decide) (by decide) (Xj _ (by decide))
         · have e78:a1.tmps.getD 78 undef = .int .i64 (hv - ga):=(Zu hJ hi 23 (by kernel_rfl))
           have e82:a1.tmps.getD 82 undef = .int .i64 v9:=(Zu hJ hi 27 (by kernel_rfl))
           have l27:l.getD 27 false=true:=Zl hi 27 (by kernel_rfl)
           obtain ⟨-,hk9,hb9,-⟩:=hW.h1 l27
           have hv9:=hb9 ca hca2 v9 hk9
           have hw2:IntKind.i64.wrap (hv - ga+v9)=hv - ga+v9:=IntWalk.i64_in _ (by omega)
           exact Zj (Zo hW hJ rfl (by rfl) rfl (by decide) (by decide) (Xj _ (by decide)) (w':=w') (by simp [execOp,Act.eval,e78,e82,hw2,go_sem,Zdt]) (Ya hW (by decide) (by decide) (d28 l27))) (fun a9 w9 h9=>⟨v9,kn9,h9⟩)
         · have e55:a1.tmps.getD 55 undef = .int .i64 most:=(Zu hJ hi 0 (by kernel_rfl))
           have e83:a1.tmps.getD 83 undef = .int .i64 (hv - ga+v9):=(Zu hJ hi 28 (by kernel_rfl))
           have l28:l.getD 28 false=true:=Zl hi 28 (by kernel_rfl)
           exact Zj (Zo hW hJ rfl (by rfl) rfl (by decide) (by decide) (Xj _ (by decide)) (w':=w') (by simp [execOp,resolve,invoke,builtin,Act.eval,e55,e83,go_sem,Zdt]) (Ya hW (by decide) (by decide) (d29 (hW.x (28,27) (by decide) l28)))) (fun a9 w9 h9=>⟨v9,kn9,h9⟩)
         · have e84:a1.tmps.getD 84 undef = .int .i64 (max most (hv - ga+v9)):=(Zu hJ hi 29 (by kernel_rfl))
           have l0:l.getD 0 false=true:=Zl hi 0 (by kernel_rfl)
           have l29:l.getD 29 false=true:=Zl hi 29 (by kernel_rfl)
           exact Zj (Zo hW hJ rfl (by rfl) rfl (by decide) (by decide) (Xj _ (by decide)) (w':=w') (by simp [execOp,Act.eval,e84,go_sem,Zdt]) (Ya hW (by decide) (by decide) (d30 l0 (hW.x (29,27) (by decide) l29)))) (fun a9 w9 h9=>⟨v9,kn9,h9⟩)
        intro l a1 w9 hJJ hl
        obtain ⟨v9,kn9,hJ,hW⟩:=hJJ
        obtain ⟨k9,k9f,kb9,km9⟩:=hW.h1 (hl 27 (by decide))
        have hput:=Zag hJ rfl hl (fun i j h1 h2 h3=>Xj j h2 i h1 h3)
        subst hput
        have X9:=Zzf HXD.out SS.out.lx hW.g k9
        have g9:w.grownBy w9 (some bk):=Za HGK.out (Za (Ze (Zc wo _)) hW.g)
        have hv9:=kb9 ca hca2 v9 k9f
        have hcr:=HCR.out
        have hmx:0<=max most (hv - ga+v9)/\max most (hv - ga+v9)<=256+1000*(rk fin f:Int):=by omega
        have hkm9:KnM fin fs.length kn kn9 (rk fin f):=⟨fun x u h=>km9.1 x u (HKM.out.1 x u h),fun x hx h=>by
         rcases km9.2 x hx h with h1|h1
         · exact HKM.out.2 x hx h1
         · exact Or.inr (by omega)⟩
        have HX9:=Hq X9
        have HG9:=Hq g9
        have HB9:=Hq kb9
        have HM9:=Hq hkm9
        have HMX:=Hq hmx
        clear hJ hW hl k9 k9f kb9 km9 X9 g9 hmx hkm9 HXD HKM HGK HHW CA
        refine hK _ _ ?_
        simp only [Zay,cq9,Zdt,Act.put,List.setIfInBounds_toArray,List.set_cons_zero,List.set_cons_succ]
        clear hK K
        go_wp2
        refine ⟨⟨k+1,max most (hv - ga+v9),kn9,rfl,by go_num,by omega,HG9.out,HX9.out,HB9.out,HM9.out,HMX.out.1,HMX.out.2⟩,by simp [intOf];omega⟩
      · have hkn:k=(cl f).length:=by omega
        have hkf:knk f=none:=by
         cases h:knk f with
         | none=>rfl
         | some v =>
           rcases hkm.2 f hf (by rw [h];simp) with h1|h1
           · exact absurd HKN.out h1
           · omega
        obtain ⟨-,-,hlo0,hlo1⟩:=SS2.out.ar f ar lo r c HFN.out
        have kb:=Zb SS.out.bwc hW.g (by intro e;injection e with e;exact SS.out.ne1 e.symm)
        have k2:=Cq _ _ 2 _ _ _ kb
        have s1:=(Gs kb)
        have hFr:=Zq SS.out.hF hW.g (fun r e=>by injection e with e;rw [<- e];exact SS.out.bx_)
        obtain ⟨bF,oF,hpF,hbF,hcF⟩:=hFr (by omega)
        obtain ⟨-,e1,-,-⟩:=hcF f ar lo r c HFN.out
        have sF:=World.block_lt_of_cell? _ _ e1
        have hb1:0<=1+lo+most/\1+lo+most<=1000*((rk fin f:Int)+1):=by omega
        obtain ⟨w9,hput,hk9,hg9⟩:=Yiv (v:=1+lo+most) hW.kw hf hkf (by omega)
        have hat9:=Yrw hk9 hf (v:=1+lo+most) (by simp [Zia])
        have HK9:=Hq hk9
        have HG9:=Hq hg9
        have HKB:=Hq hkb
        have HKM:=Hq hkm
        have HGK:=Hq hgk
        have HB1:=Hq hb1
        clear hW hkb hkm hgk hk9 hg9 hkf hFr hcF kb hb1
        go_wp2
        go_ret
        refine ⟨1+lo+most,Zia knk f (1+lo+most),rfl,Za HGK.out HG9.out,HK9.out,by simp [Zia],fun x hx u hu => ?_,fun x u hu => ?_,fun x hx hne => ?_⟩
        · by_cases e:x=f
          · subst e
            have:u=1+lo+most:=by simpa [Zia] using hu.symm
            rw [this];exact HB1.out
          · exact HKB.out x hx u (by simpa [Zia,e] using hu)
        · by_cases e:x=f
          · subst e;rw [HKN.out] at hu;cases hu
          · have:=HKM.out.1 x u hu
            simpa [Zia,e] using this
        · by_cases e:x=f
          · subst e;right;omega
          · rcases HKM.out.2 x hx (by simpa [Zia,e] using hne) with h|h
            · exact Or.inl h
            · exact Or.inr (by omega)
end Go.Proofs.Ythlkflagancdfaa.CK
