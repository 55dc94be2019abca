/-
  Part of a proof: contracts of functions and lemmas, each stated by its own theorem. Conditions: as each theorem states.
-/
import Derived.Test.YthlkflagancdfaaMK18
import Derived.Test.YthlkflagancdfaaMK19
import Derived.Outline
import Derived.Laws.EntriesVeiled
import Derived.Deep.RegionHeld3
import Derived.Test.YthlkflagancdfaaMK13
import Derived.Maps.RangeWalk
set_option linter.unusedSimpArgs false
set_option linter.unusedVariables false
set_option maxRecDepth 100000
set_option maxHeartbeats 16000000
namespace Go.Proofs.Ythlkflagancdfaa.CK
open Go.RowKit Go.Great Go.Maps
structure CA where
 w:Nat
 f:Nat
 k:Nat
 c:Nat
 z:Nat
 o:Nat
 g:Nat
structure CoB (base:Nat) (w:World) (A:CA) (bw bk f n:Nat) (vc:Value) (Z:List Int):Prop where
 lo:base<=A.w/\base<=A.f/\base<=A.k/\base<=A.c/\base<=A.z/\base<=A.o/\base<=A.g
 ne:A.w≠A.g/\A.f≠A.g/\A.k≠A.g/\A.c≠A.g/\A.z≠A.g/\A.o≠A.g
 bw_:Bx w A.w 67 (.pointer (some ⟨bw,0,none⟩))
 bf:Bx w A.f 3 (.int .i64 (f:Int))
 bk_:Bx w A.k 94 (.map (some bk))
 bc:Bx w A.c 50 vc
 bz:Bx w A.z 32 (.slice (some ⟨A.g,0,none⟩) n n)
 bo:Bx w A.o 128 (.func (.func 65) #[] #[.pointer (some ⟨A.z,0,none⟩),.pointer (some ⟨A.c,0,none⟩),.pointer (some ⟨A.w,0,none⟩),.pointer (some ⟨A.k,0,none⟩),.pointer (some ⟨A.f,0,none⟩),.pointer (some ⟨A.o,0,none⟩)])
 r:w.ownsRow base 3 1 (.slice (some ⟨A.g,0,none⟩) n n) n (Z.map (Value.int .i64))
 v:∀ x,0<=Z.getD x 0/\Z.getD x 0<=1099511627777
section
variable {base:Nat} {w w':World} {A:CA} {bw bk f n:Nat} {vc:Value} {Z:List Int}
theorem Ykr (H:CoB base w A bw bk f n vc Z):Z.length=n:=by have:=H.r.1;simpa using this
theorem Zvw (H:CoB base w A bw bk f n vc Z):base<=A.g/\A.g<w.heap.size:=H.r.lt A.g rfl
theorem Zsq (H:CoB base w A bw bk f n vc Z) (k:Nat) (hk:k<n):w.cell? ⟨A.g,k,none⟩=some (.int .i64 (Z.getD k 0)):=by
 have hl:=Ykr H
 rw [H.r.cellAt k (by omega),List.getElem?_map,List.getD_eq_getElem?_getD,List.getElem?_eq_getElem (by omega:k<Z.length)]
 rfl
theorem Zgb {b:Nat} {t:TypeId} {v:Value} {r:Option Nat} (h:Bx w b t v) (g:w.grownBy w' r) (hr:r≠some b):Bx w' b t v:=Zb h g hr
theorem Ykq (H:CoB base w A bw bk f n vc Z) (hb:bk<base) (g:w.grownBy w' (some bk)):CoB base w' A bw bk f n vc Z:=by
 obtain ⟨l1,l2,l3,l4,l5,l6,l7⟩:=H.lo
 have nn:∀ b,base<=b->(some bk:Option Nat)≠some b:=fun b h e=>by injection e with e;omega
 exact ⟨H.lo,H.ne,Zgb H.bw_ g (nn _ l1),Zgb H.bf g (nn _ l2),Zgb H.bk_ g (nn _ l3),Zgb H.bc g (nn _ l4),Zgb H.bz g (nn _ l5),Zgb H.bo g (nn _ l6),H.r.kept g (Or.inr (by simp only [Value.ownBlock];intro e;injection e with e;omega)),H.v⟩
theorem Zns (H:CoB base w A bw bk f n vc Z) (g:w.grownBy w' none):CoB base w' A bw bk f n vc Z :=
 ⟨H.lo,H.ne,Zgb H.bw_ g (by simp),Zgb H.bf g (by simp),Zgb H.bk_ g (by simp),Zgb H.bc g (by simp),Zgb H.bz g (by simp),Zgb H.bo g (by simp),H.r.kept g (Classical.em _),H.v⟩
theorem Ykp (H:CoB base w A bw bk f n vc Z) (k:Nat) (hk:k<n) (b:Int) (hb:0<=b/\b<=1099511627777):CoB base (w.setCell ⟨A.g,k,none⟩ (.int .i64 b)) A bw bk f n vc (Z.set k b):=by
 obtain ⟨n1,n2,n3,n4,n5,n6⟩:=H.ne
 have nn:∀ x,x≠A.g->(some A.g:Option Nat)≠some x:=fun x h e=>by injection e with e;exact h e.symm
 have g:=Zh w A.g k (.int .i64 b)
 refine ⟨H.lo,H.ne,Zgb H.bw_ g (nn _ n1),Zgb H.bf g (nn _ n2),Zgb H.bk_ g (nn _ n3),Zgb H.bc g (nn _ n4),Zgb H.bz g (nn _ n5),Zgb H.bo g (nn _ n6),?_,fun x => ?_⟩
 · rw [List.map_set];exact (H.r.stored k (.int .i64 b)).1
 · rw [Zs _ _ _ _ _ (by rw [Ykr H];exact hk)]
   split
   · exact hb
   · exact H.v x
end
def KnC (nf:Nat) (kn:Nat->Option Int):Prop:=∀ f,f<nf->∀ v,kn f=some v->0<=v/\v<=1099511627777
def Ysl (w:World) (nf bk:Nat) (fin:List Nat) (kn:Nat->Option Int) (f:Nat) (e:Ending) (w':World):Prop :=
 ∃ v kn',e = .returned (.int .i64 v)/\w.grownBy w' (some bk)/\KnW w' bk nf kn'/\kn' f=some v/\KnC nf kn'/\KnM fin nf kn kn' (rk fin f+1)
def Xbn (base:Nat) (W:World) (A:CA) (bw bk f n nf:Nat) (vc:Value) (fin:List Nat) (kn:Nat->Option Int) (e:Ending) (W':World):Prop :=
 ∃ v kn' Z',e = .returned (.int .i64 v)/\(0<=v/\v<=1099511627777)/\Sp (fun k=>k=bk\/k=A.g) W W'/\KnW W' bk nf kn'/\KnC nf kn'/\KnM fin nf kn kn' (rk fin f)/\CoB base W' A bw bk f n vc Z'
theorem Zsa (fin:List Nat) (nf:Nat) (kn:Nat->Option Int) (r:Nat):KnM fin nf kn kn r:=⟨fun _ _ h=>h,fun _ _ h=>Or.inl h⟩
theorem Znc {fin:List Nat} {nf r r1 r2:Nat} {k0 k1 k2:Nat->Option Int} (h:KnM fin nf k0 k1 r1) (g:KnM fin nf k1 k2 r2) (h1:r1<=r) (h2:r2<=r):KnM fin nf k0 k2 r :=
 ⟨fun x v e=>g.1 x v (h.1 x v e),fun x hx e=>by
  rcases g.2 x hx e with h3|h3
  · rcases h.2 x hx h3 with h4|h4
    · exact Or.inl h4
    · exact Or.inr (by omega)
  · exact Or.inr (by omega)⟩
theorem Yem {P:Nat->Prop} {w0 w w':World} {bx gH gT nf cH cT bk:Nat} {x2 x3 x4 x5:Value} {kn kn':Nat->Option Int} (H:XW w0 w bx gH gT nf cH cT bk x2 x3 x4 x5 kn) (hx:bx<w0.heap.size) (g:Sp P w w') (hP:∀ k,P k->w0.heap.size<=k) (k:KnW w' bk nf kn'):XW w0 w' bx gH gT nf cH cT bk x2 x3 x4 x5 kn':=by
 have hs:=H.g.size
 exact ⟨⟨g.os.trans H.g.os,g.tape.trans H.g.tape,g.output.trans H.g.output,Nat.le_trans H.g.size g.size,fun b hb hr=>by rw [g.block b (by omega) (fun h=>by have:=hP b h;omega)];exact H.g.block b hb hr⟩,
  by rw [g.block bx (by omega) (fun h=>by have:=hP bx h;omega)];exact H.xc,H.lk,k⟩
structure CoP (fin:List Nat) (f:Nat) (c:List (Int × Int)) (Zde:Nat->Nat) (T:Nat->Prop):Prop where
 nx:∀ x,T x->x<c.length/\∀ (op a:Int),c[x]? = some (op,a)->∀ y∈Zkx c.length op a x,0<=y/\T y.toNat/\Zde y.toNat<Zde x
 ca:∀ x,T x->∀ a:Int,c[x]? = some (17,a)->0<=a/\a.toNat∈fin/\rk fin a.toNat<rk fin f
structure Xbu (w0:World) (B:Nat) (c:List (Int × Int)) (b' o':Nat):Prop where
 lt:b'<B
 at_:∀ (i:Nat) (op a:Int),c[i]? = some (op,a)->w0.cell? ⟨b',o'+i*2,none⟩=some (.int .i64 op)/\w0.cell? ⟨b',o'+i*2+1,none⟩=some (.int .i64 a)
def cr5:Nat->Nat
 | 0=>28
 | 1=>29
 | 2=>30
 | 3=>31
 | 4=>32
 | 5=>33
 | 6=>34
 | 7=>35
 | 8=>36
 | 9=>37
 | 10=>9
 | _=>5000
theorem Zfv:∀ i,i<11->∀ j,j<11->j≠i->cr5 j≠cr5 i:=by decide
theorem Ysf (i:Nat) (h:i<11):i=0\/i=1\/i=2\/i=3\/i=4\/i=5\/i=6\/i=7\/i=8\/i=9\/i=10:=by omega
theorem Zsn (j:Nat) (hj:j∈[0,2,3,4]):∀ i,i<11->cr5 i≠j:=by revert j;decide
def Ztb (Aw Ac Ak bw at_ b' o' nC cc ca bk:Nat) (v9:Int):Nat->Value
 | 0 => .int .i64 1
 | 1 => .pointer (some ⟨bw,0,none⟩)
 | 2 => .slice (some ⟨b',o',none⟩) nC cc
 | 3 => .int .i64 at_
 | 4 => .pointer (some ⟨b',o'+at_*2,none⟩)
 | 5 => .pointer (some ⟨b',o'+at_*2+1,none⟩)
 | 6 => .int .i64 ca
 | 7 => .map (some bk)
 | 8 => .int .i64 v9
 | 9 => .int .i64 (1+v9)
 | 10 => .int .i64 (1+v9)
 | _=>undef
theorem Xbc {l:Array Bool} (h8:l.getD 8 false=true):∀ p∈([(10,0),(9,8),(10,8)]:List (Nat × Nat)),p.1=9->l.getD p.2 false=true:=by
 intro p hp e
 simp only [List.mem_cons,List.not_mem_nil,or_false] at hp
 rcases hp with rfl|rfl|rfl <;> simp only [] at e ⊢ <;> first|exact h8|omega
theorem Ywd {l:Array Bool} (h0:l.getD 0 false=true) (h8:l.getD 8 false=true):∀ p∈([(10,0),(9,8),(10,8)]:List (Nat × Nat)),p.1=10->l.getD p.2 false=true:=by
 intro p hp e
 simp only [List.mem_cons,List.not_mem_nil,or_false] at hp
 rcases hp with rfl|rfl|rfl <;> simp only [] at e ⊢ <;> first|exact h0|exact h8|omega
theorem Xew:∀ i,i<11->cr5 i=9->i=10:=by decide
theorem Xbb {Aw Ac Ak bw at_ b' o' nC cc ca bk:Nat} {v8 v9:Int} (l:Array Bool) (hun:l.getD 8 false=false) (h9:l.getD 9 false=false) (h10:l.getD 10 false=false) :
 ∀ i,i<11->l.getD i false=true->cr5 i<68->Ztb Aw Ac Ak bw at_ b' o' nC cc ca bk v8 i=Ztb Aw Ac Ak bw at_ b' o' nC cc ca bk v9 i:=by
 intro i hi hl _
 rcases Ysf i hi with rfl|rfl|rfl|rfl|rfl|rfl|rfl|rfl|rfl|rfl|rfl <;> first|rfl|(rw [hun] at hl;cases hl)|(rw [h9] at hl;cases hl)|(rw [h10] at hl;cases hl)
def cr6:Nat->Nat
 | 0=>38
 | 1=>39
 | 2=>40
 | 3=>41
 | 4=>42
 | 5=>43
 | 6=>44
 | 7=>45
 | 8=>46
 | 9=>47
 | _=>5000
theorem Zae:∀ i,i<10->∀ j,j<10->j≠i->cr6 j≠cr6 i:=by decide
theorem Ykm (i:Nat) (h:i<10):i=0\/i=1\/i=2\/i=3\/i=4\/i=5\/i=6\/i=7\/i=8\/i=9:=by omega
theorem Zkg (j:Nat) (hj:j∈[0,3,5]):∀ i,i<10->cr6 i≠j:=by revert j;decide
def Zkv (Aw Af bw at_ f nd cd nf cF nL k9:Nat) (mem:Int) (pd pF p9:Option Addr):Nat->Value
 | 0 => .pointer (some ⟨bw,0,none⟩)
 | 1 => .pointer (some ⟨bw,0,none⟩)
 | 2 => .pointer (some ⟨bw,0,none⟩)
 | 3 => .agg #[.int .i64 mem,.slice pd nd cd,.slice pF nf cF]
 | 4 => .int .i64 f
 | 5 => .int .i64 at_
 | 6 => .agg #[.int .i64 f,.int .i64 at_]
 | 7 => .slice p9 nL k9
 | 8 => .int .i64 nL
 | 9 => .int .i64 0
 | _=>undef
theorem Yse {l:Array Bool} (h7:l.getD 7 false=true):∀ p∈([(8,7)]:List (Nat × Nat)),p.1=8->l.getD p.2 false=true:=by
 intro p hp e
 simp only [List.mem_cons,List.not_mem_nil,or_false] at hp
 rcases hp with rfl <;> simp only [] at e ⊢ <;> first|exact h7|omega
theorem Ysd {Aw Af bw at_ f nd cd nf cF nL k8 k9:Nat} {mem:Int} {pd pF p8 p9:Option Addr} (l:Array Bool) (hun:l.getD 7 false=false) (h8:l.getD 8 false=false) :
 ∀ i,i<10->l.getD i false=true->cr6 i<68->Zkv Aw Af bw at_ f nd cd nf cF nL k8 mem pd pF p8 i=Zkv Aw Af bw at_ f nd cd nf cF nL k9 mem pd pF p9 i:=by
 intro i hi hl _
 rcases Ykm i hi with rfl|rfl|rfl|rfl|rfl|rfl|rfl|rfl|rfl|rfl <;> first|rfl|(rw [hun] at hl;cases hl)|(rw [h8] at hl;cases hl)
theorem Zus (mem:Int) (vd:Value) (fs:List FnP) (pF:Option Addr) (cF B f at_:Nat) (ar lo r:Int) (c:List (Int × Int)) (op a:Int) (w:World) (Zde:Nat->Nat) (T:Nat->Prop) (hvd:∃ p n c,vd = .slice p n c) (hB:B<=w.heap.size) (hF:Yl w B pF fs)
 (hfn:fs[f]? = some (ar,lo,r,c)) (hins:c[at_]? = some (op,a)) (hnf:fs.length<=64) (hnc:c.length<=4096) (hnx:∀ (op a:Int),c[at_]? = some (op,a)->∀ y∈Zkx c.length op a at_,0<=y/\T y.toNat/\Zde y.toNat<Zde at_) :
 ∃ L:List Int,L.length<=2/\(∀ y∈L,0<=y/\T y.toNat/\Zde y.toNat<Zde at_)/\Calls Try.prog 41 #[.agg #[.int .i64 mem,vd,.slice pF fs.length cF],.agg #[.int .i64 f,.int .i64 at_]] w (Zfp w L) :=
 ⟨Zkx c.length op a at_,Nat.le_trans (List.length_filter_le _ _) (Zgp _ _ _),hnx op a hins,Zzx mem vd fs pF cF B f at_ (ar,lo,r,c) op a w hvd hB hF ⟨hfn,hins,hnf,hnc⟩⟩
theorem Ydr (w0:World) (bw bx bm B:Nat) (mem:Int) (pd:Option Addr) (nd cd:Nat) (pF:Option Addr) (cF:Nat) (fs:List FnP) (cl:Nat->List Nat) (S:St w0 bw bx bm B mem pd nd cd pF cF fs cl) (hok:Zjp fs) (gH gT cH cT bk:Nat) (x2 x3 x4 x5:Value) (fin:List Nat) (hlt:∀ x∈fin,x<fs.length)
 (f:Nat) (hff:f∈fin) (ar lo r:Int) (c:List (Int × Int)) (hfn:fs[f]? = some (ar,lo,r,c)) (b' o' cc:Nat) (hcode:Xbu w0 B c b' o') (base:Nat) (hbk:w0.heap.size<=bk/\bk<base) (Zde:Nat->Nat) (T:Nat->Prop) (hP:CoP fin f c Zde T)
 (hco:∀ (w:World) (kn:Nat->Option Int) (a:Nat),XW w0 w bx gH gT fs.length cH cT bk x2 x3 x4 x5 kn->KnC fs.length kn->a∈fin->rk fin a<rk fin f->Calls Try.prog 46 #[.pointer (some ⟨bw,0,none⟩),.int .i64 a,.map (some bk)] w (Ysl w fs.length bk fin kn a)) (M:Nat) :
 ∀ (W:World) (kn:Nat->Option Int) (A:CA) (Z:List Int) (at_:Nat) (H:XW w0 W bx gH gT fs.length cH cT bk x2 x3 x4 x5 kn) (hKC:KnC fs.length kn) (hC:CoB base W A bw bk f c.length (.slice (some ⟨b',o',none⟩) c.length cc) Z) (ht:T at_) (hM:Zde at_<M),
 Calls Try.prog 65 #[.int .i64 at_,.pointer (some ⟨A.z,0,none⟩),.pointer (some ⟨A.c,0,none⟩),.pointer (some ⟨A.w,0,none⟩),.pointer (some ⟨A.k,0,none⟩),.pointer (some ⟨A.f,0,none⟩),.pointer (some ⟨A.o,0,none⟩)] W (Xbn base W A bw bk f c.length fs.length (.slice (some ⟨b',o',none⟩) c.length cc) fin kn):=by
 induction M with
 | zero=>intro W kn A Z at_ H hKC hC ht hM;omega
 | succ M ih =>
   intro W kn A Z at_ H hKC hC ht hM
   obtain ⟨Aw,Af,Ak,Ac,Az,Ao,Ag⟩:=A
   obtain ⟨hat2,hnx⟩:=hP.nx at_ ht
   obtain ⟨⟨op,a⟩,hins⟩:∃ x,c[at_]? = some x:=⟨_,List.getElem?_eq_getElem hat2⟩
   have hlz:=hC.lo
   have hnz:=hC.ne
   have zc:=Zw hC.bz
   have zcell:=Zsq hC at_ hat2
   have hv:=hC.v at_
   have hbn:=hok.len _ (List.mem_of_getElem? hfn)
   have lg:=Zvw hC
   have s1:=(Gs hC.bz)
   simp only [] at zc zcell hbn hlz hnz lg s1
   have lgA:=lg.2
   have q1:(at_:Int)<(c.length:Int):=by omega
   have HH:=Hq H
   have HC:=Hq hC
   have HK:=Hq hKC
   have HPP:=Hq hP
   have HCO:=Hq hco
   have IH:=Hq ih
   have SS:=Hq S
   have OK:=Hq hok
   have HFN:=Hq hfn
   have HCD:=Hq hcode
   have HNX:=Hq hnx
   have HIN:=Hq hins
   have HT:=Hq ht
   have HM:=Hq hM
   have HFF:=Hq hff
   have HLT:=Hq hlt
   by_cases hz:0<Z.getD at_ 0
   · generalize Z.getD at_ 0=zv at *
     clear H hC hKC hP hco ih S hok hfn hcode hnx hins ht hM hff hlt
     go_enter Try.func65,Try.ntmps65
     go_wp2
     go_ret
     exact ⟨zv,kn,Z,rfl,hv,Zez _ _,HH.out.kw,HK.out,Zsa _ _ _ _,HC.out⟩
   · have hz0:Z.getD at_ 0=0:=by omega
     rw [hz0] at zcell
     have hcc:=Zw hC.bc
     have s2:=(Gs hC.bc)
     have hbB:=hcode.lt
     have hbx:=S.bx_
     have hlx:=S.lx
     have hw0:=H.g.size
     obtain ⟨d0,d1⟩:=hcode.at_ at_ op a hins
     have e0:=H.g.cell d0 (by intro e;injection e with e;have e2:b'=bx:=e;omega)
     have e1:=H.g.cell d1 (by intro e;injection e with e;have e2:b'=bx:=e;omega)
     have s3:b'<W.heap.size:=by omega
     simp only [] at hcc s2
     have HLZ:=Hq hlz
     have HNZ:=Hq hnz
     by_cases h17:op=17
     · subst h17
       obtain ⟨ha0,hca,hcr⟩:=hP.ca at_ ht a hins
       obtain ⟨ca,rfl⟩:=Int.eq_ofNat_of_zero_le ha0
       simp only [Int.toNat_natCast] at hca hcr
       have hca2:=hlt ca hca
       have hXd:XW w0 W.drew bx gH gT fs.length cH cT bk x2 x3 x4 x5 kn:=⟨Ze H.g,H.xc,H.lk,Zcb H.kw (Ze (Zc W none)) (by simp)⟩
       have CA:=Hq (hco W.drew kn ca hXd hKC hca hcr)
       have wc:=Zw hC.bw_
       have kc:=Zw hC.bk_
       have s4:=(Gs hC.bw_)
       have s5:=(Gs hC.bk_)
       simp only [] at wc kc s4 s5
       have eAw:¬ Aw=bk:=by omega
       have eAc:¬ Ac=bk:=by omega
       have eAk:¬ Ak=bk:=by omega
       have eB:¬ b'=bk:=by omega
       have HCR:=Hq hcr
       clear H hC hKC hP hco ih S hok hfn hcode hnx hins ht hM hff hlt hXd hca hcr hlz hnz d0 d1 hv hz hz0 ha0
       have xc:=hcc
       have D1:=e1
       go_enter Try.func65,Try.ntmps65
       go_upto_region 5 with fail
       rename_i K hK
       have d1:=D1
       refine Je (n:=11) (J:=fun a0 l a1 w1=>∃ v9 kn9,RJ a0 68 11 cr5 (Ztb Aw Ac Ak bw at_ b' o' c.length cc ca bk v9) l a1/\WX 8 11 [(10,0),(9,8),(10,8)] W.drew (some bk) (fun w9=>KnW w9 bk fs.length kn9/\kn9 ca=some v9/\KnC fs.length kn9/\KnM fin fs.length kn kn9 (rk fin ca+1)) l w1) (by kernel_rfl) rfl (Zai (by kernel_rfl)) (fun l a1 w1 h=>by obtain ⟨_,_,_,h⟩:=h;exact h.sz) ⟨0,kn,Jd rfl,Zle _ _ _ _ _ _⟩ ?step ?fin
       case step =>
        intro l a1 w' i hJJ hi hin
        obtain ⟨v9,kn9,hJ,hW⟩:=hJJ
        have hun:l.getD i false=false:=getD_both (mem_ready.1 hi).1
        have gW:W.grownBy w' (some bk):=Za (Ze (Zc W _)) hW.g
        rcases Ysf i hin with rfl|rfl|rfl|rfl|rfl|rfl|rfl|rfl|rfl|rfl|rfl
        · have e9:a1.tmps.getD 9 undef = .int .i64 1:=hJ.un 9 (fun i hi hl he=>by
           have h10:i=10:=Xew i hi he
           subst h10
           have:=hW.x (10,0) (by decide) hl
           rw [hun] at this;cases this)
          exact Zj (Zo hW hJ rfl (by rfl) rfl (by decide) (by decide) (Zfv _ (by decide)) (w':=w') (by simp [execOp,Act.eval,e9,go_sem,Ztb]) (Ya hW (by decide) (by decide) (Zy (by decide)))) (fun a9 w9 h9=>⟨v9,kn9,h9⟩)
        · have e3:a1.tmps.getD 3 undef = .pointer (some ⟨Aw,0,none⟩):=hJ.un 3 (fun i hi _=>Zsn 3 (by decide) i hi)
          have h0:=gW.cell wc (by simpa using eAw)
          exact Zj (Zo hW hJ rfl (by rfl) rfl (by decide) (by decide) (Zfv _ (by decide)) (w':=w') (by simp [execOp,resolve,invoke,builtin,Act.eval,e3,h0,hat2,go_sem,Ztb]) (Ya hW (by decide) (by decide) (Zy (by decide)))) (fun a9 w9 h9=>⟨v9,kn9,h9⟩)
        · have e2:a1.tmps.getD 2 undef = .pointer (some ⟨Ac,0,none⟩):=hJ.un 2 (fun i hi _=>Zsn 2 (by decide) i hi)
          have h0:=gW.cell xc (by simpa using eAc)
          exact Zj (Zo hW hJ rfl (by rfl) rfl (by decide) (by decide) (Zfv _ (by decide)) (w':=w') (by simp [execOp,resolve,invoke,builtin,Act.eval,e2,h0,hat2,go_sem,Ztb]) (Ya hW (by decide) (by decide) (Zy (by decide)))) (fun a9 w9 h9=>⟨v9,kn9,h9⟩)
        · have e0:a1.tmps.getD 0 undef = .int .i64 at_:=hJ.un 0 (fun i hi _=>Zsn 0 (by decide) i hi)
          exact Zj (Zo hW hJ rfl (by rfl) rfl (by decide) (by decide) (Zfv _ (by decide)) (w':=w') (by simp [execOp,resolve,invoke,builtin,Act.eval,e0,hat2,go_sem,Ztb]) (Ya hW (by decide) (by decide) (Zy (by decide)))) (fun a9 w9 h9=>⟨v9,kn9,h9⟩)
        · have e30:a1.tmps.getD 30 undef = .slice (some ⟨b',o',none⟩) c.length cc:=(Zu hJ hi 2 (by kernel_rfl))
          have e31:a1.tmps.getD 31 undef = .int .i64 at_:=(Zu hJ hi 3 (by kernel_rfl))
          exact Zj (Zo hW hJ rfl (by rfl) rfl (by decide) (by decide) (Zfv _ (by decide)) (w':=w') (by first|(simp [execOp,resolve,invoke,builtin,Act.eval,e30,e31,hat2,go_sem,Ztb];done)|(simp [execOp,resolve,invoke,builtin,Act.eval,e30,e31,hat2,go_sem,Ztb];omega)|(simp [execOp,resolve,invoke,builtin,Act.eval,e30,e31,hat2,go_sem,Ztb];intro h;omega)|(simp [execOp,resolve,invoke,builtin,Act.eval,e30,e31,hat2,go_sem,Ztb];intros;omega)) (Ya hW (by decide) (by decide) (Zy (by decide)))) (fun a9 w9 h9=>⟨v9,kn9,h9⟩)
        · have e32:a1.tmps.getD 32 undef = .pointer (some ⟨b',o'+at_*2,none⟩):=(Zu hJ hi 4 (by kernel_rfl))
          exact Zj (Zo hW hJ rfl (by rfl) rfl (by decide) (by decide) (Zfv _ (by decide)) (w':=w') (by simp [execOp,resolve,invoke,builtin,Act.eval,e32,hat2,go_sem,Ztb]) (Ya hW (by decide) (by decide) (Zy (by decide)))) (fun a9 w9 h9=>⟨v9,kn9,h9⟩)
        · have e33:a1.tmps.getD 33 undef = .pointer (some ⟨b',o'+at_*2+1,none⟩):=(Zu hJ hi 5 (by kernel_rfl))
          have h0:=gW.cell d1 (by simpa using eB)
          exact Zj (Zo hW hJ rfl (by rfl) rfl (by decide) (by decide) (Zfv _ (by decide)) (w':=w') (by simp [execOp,resolve,invoke,builtin,Act.eval,e33,h0,hat2,go_sem,Ztb]) (Ya hW (by decide) (by decide) (Zy (by decide)))) (fun a9 w9 h9=>⟨v9,kn9,h9⟩)
        · have e4:a1.tmps.getD 4 undef = .pointer (some ⟨Ak,0,none⟩):=hJ.un 4 (fun i hi _=>Zsn 4 (by decide) i hi)
          have h0:=gW.cell kc (by simpa using eAk)
          exact Zj (Zo hW hJ rfl (by rfl) rfl (by decide) (by decide) (Zfv _ (by decide)) (w':=w') (by simp [execOp,resolve,invoke,builtin,Act.eval,e4,h0,hat2,go_sem,Ztb]) (Ya hW (by decide) (by decide) (Zy (by decide)))) (fun a9 w9 h9=>⟨v9,kn9,h9⟩)
        · have e29:a1.tmps.getD 29 undef = .pointer (some ⟨bw,0,none⟩):=(Zu hJ hi 1 (by kernel_rfl))
          have e34:a1.tmps.getD 34 undef = .int .i64 ca:=(Zu hJ hi 6 (by kernel_rfl))
          have e35:a1.tmps.getD 35 undef = .map (some bk):=(Zu hJ hi 7 (by kernel_rfl))
          have no8:∀ j,(j,8)∈([(10,0),(9,8),(10,8)]:List (Nat × Nat))->l.getD j false=false:=fun j hj=>(by
           rcases Bool.eq_false_or_eq_true (l.getD j false) with e|e
           · have:=hW.x (j,8) hj e;rw [hun] at this;cases this
           · exact e)
          have hw0:=hW.h0 hun
          subst hw0
          refine Jb rfl (by rfl) (by simp [execOp,resolve,invoke,Act.eval,e29,e34,e35,go_sem]) (CA.out.mono fun e w2 he => ?_)
          obtain ⟨v8,kn8,rfl,g8,k8,k8f,kb8,km8⟩:=he
          refine ⟨_,rfl,v8,kn8,?_,Zqc hW (by decide) (Zy (by decide)) ⟨k8,k8f,kb8,km8⟩ (Za (hW.g) g8)⟩
          exact Zch (val:=(Ztb Aw Ac Ak bw at_ b' o' c.length cc ca bk v8)) (Zbe hJ (Xbb l hun (no8 9 (by simp)) (no8 10 (by simp)))) (by decide) (by decide) (Zfv _ (by decide))
        · have e28:a1.tmps.getD 28 undef = .int .i64 1:=(Zu hJ hi 0 (by kernel_rfl))
          have e36:a1.tmps.getD 36 undef = .int .i64 v9:=(Zu hJ hi 8 (by kernel_rfl))
          have l8:l.getD 8 false=true:=Zl hi 8 (by kernel_rfl)
          obtain ⟨-,hk9,hb9,-⟩:=hW.h1 l8
          have hv9:=hb9 ca hca2 v9 hk9
          have hw2:IntKind.i64.wrap (1+v9)=1+v9:=IntWalk.i64_in _ (by omega)
          exact Zj (Zo hW hJ rfl (by rfl) rfl (by decide) (by decide) (Zfv _ (by decide)) (w':=w') (by simp [execOp,Act.eval,e28,e36,hw2,go_sem,Ztb]) (Ya hW (by decide) (by decide) (Xbc l8))) (fun a9 w9 h9=>⟨v9,kn9,h9⟩)
        · have e37:a1.tmps.getD 37 undef = .int .i64 (1+v9):=(Zu hJ hi 9 (by kernel_rfl))
          have l0:l.getD 0 false=true:=Zl hi 0 (by kernel_rfl)
          have l9:l.getD 9 false=true:=Zl hi 9 (by kernel_rfl)
          exact Zj (Zo hW hJ rfl (by rfl) rfl (by decide) (by decide) (Zfv _ (by decide)) (w':=w') (by simp [execOp,Act.eval,e37,go_sem,Ztb]) (Ya hW (by decide) (by decide) (Ywd l0 (hW.x (9,8) (by decide) l9)))) (fun a9 w9 h9=>⟨v9,kn9,h9⟩)
       intro l a1 Wn hJJ hl
       obtain ⟨v9,kn1,hJ,hW⟩:=hJJ
       obtain ⟨k9,k9f,kb9,km9⟩:=hW.h1 (hl 8 (by decide))
       have hput:=Zag hJ rfl hl (fun i j h1 h2 h3=>Zfv j h2 i h1 h3)
       subst hput
       have gn:W.grownBy Wn (some bk):=Za (Ze (Zc W _)) hW.g
       have XN:=Hq (Zzf HH.out hlx gn k9)
       have CN:=Hq (Ykq HC.out hbk.2 gn)
       have KCN:=Hq kb9
       have KMN:=Hq (show KnM fin fs.length kn kn1 (rk fin f) from Znc (Zsa fin fs.length kn 0) km9 (Nat.zero_le _) (by have:=HCR.out;omega))
       have SN:=Hq (show Sp (fun k=>k=bk\/k=Ag) W Wn from Yf gn (fun k _ e=>by injection e with e;exact Or.inl e.symm))
       have hv9:=kb9 ca hca2 v9 k9f
       obtain ⟨nv,hnv⟩:∃ nv,nv=1+v9:=⟨_,rfl⟩
       have NV:1<=nv/\nv<=1099511627778:=by omega
       refine hK _ _ ?_
       simp only [Zay,cr5,Ztb,Act.put,List.setIfInBounds_toArray,List.set_cons_zero,List.set_cons_succ]
       rw [<- hnv]
       clear hK K hJ hW hl k9 k9f kb9 km9 gn hv9 hnv CA wc kc s4 s5 hcc xc e0 e1 d1 D1 zc zcell s1 s2 lgA lg s3 q1
       go_upto_region 6 with fail
       rename_i K hK
       have kb:=Zb SS.out.bwc XN.out.g (by intro e;injection e with e;exact SS.out.ne1 e.symm)
       have b0:=Cq _ _ 0 _ _ _ kb
       have b1:=Cq _ _ 1 _ _ _ kb
       have b2:=Cq _ _ 2 _ _ _ kb
       have wc:=Zw CN.out.bw_
       have fc:=Zw CN.out.bf
       simp only [] at wc fc
       have hszn:=XN.out.g.size
       have hlgn:=Zvw CN.out
       simp only [] at hlgn
       obtain ⟨L,hL2,hLy,nx⟩:=Zus mem (.slice pd nd cd) fs pF cF B f at_ ar lo r c _ _ Wn.drew Zde T ⟨_,_,_,rfl⟩ (by have:=SS.out.hB;simp;omega) (Zq SS.out.hF (Ze XN.out.g) (fun r e=>by injection e with e;rw [<- e];exact SS.out.bx_)) HFN.out HIN.out SS.out.nf hbn.2 HNX.out
       have NX:=Hq nx
       have HLY:=Hq hLy
       clear nx hLy kb
       refine Je (n:=10) (J:=fun a0 l a1 w1=>∃ p9 k9,RJ a0 68 10 cr6 (Zkv Aw Af bw at_ f nd cd fs.length cF L.length k9 mem pd pF p9) l a1/\WX 7 10 [(8,7)] Wn.drew none (fun w9=>w9.ownsRow Wn.drew.heap.size 3 1 (.slice p9 L.length k9) L.length (L.map (Value.int .i64))) l w1) (by kernel_rfl) rfl (Zai (by kernel_rfl)) (fun l a1 w1 h=>by obtain ⟨_,_,_,h⟩:=h;exact h.sz) ⟨none,0,Jd rfl,Zle _ _ _ _ _ _⟩ ?stWn ?fiWn
       case stWn =>
        intro l a1 w' i hJJ hi hin
        obtain ⟨p9,k9,hJ,hW⟩:=hJJ
        have hun:l.getD i false=false:=getD_both (mem_ready.1 hi).1
        have gW:Wn.grownBy w' none:=Za (Ze (Zc Wn _)) hW.g
        rcases Ykm i hin with rfl|rfl|rfl|rfl|rfl|rfl|rfl|rfl|rfl|rfl
        · have e3:a1.tmps.getD 3 undef = .pointer (some ⟨Aw,0,none⟩):=hJ.un 3 (fun i hi _=>Zkg 3 (by decide) i hi)
          have h0:=gW.cell wc (by simp)
          exact Zj (Zo hW hJ rfl (by rfl) rfl (by decide) (by decide) (Zae _ (by decide)) (w':=w') (by simp [execOp,resolve,invoke,builtin,Act.eval,e3,h0,go_sem,Zkv]) (Ya hW (by decide) (by decide) (Zy (by decide)))) (fun a9 w9 h9=>⟨p9,k9,h9⟩)
        · have e38:a1.tmps.getD 38 undef = .pointer (some ⟨bw,0,none⟩):=(Zu hJ hi 0 (by kernel_rfl))
          exact Zj (Zo hW hJ rfl (by rfl) rfl (by decide) (by decide) (Zae _ (by decide)) (w':=w') (by simp [execOp,resolve,invoke,builtin,Act.eval,e38,go_sem,Zkv]) (Ya hW (by decide) (by decide) (Zy (by decide)))) (fun a9 w9 h9=>⟨p9,k9,h9⟩)
        · have e39:a1.tmps.getD 39 undef = .pointer (some ⟨bw,0,none⟩):=(Zu hJ hi 1 (by kernel_rfl))
          exact Zj (Zo hW hJ rfl (by rfl) rfl (by decide) (by decide) (Zae _ (by decide)) (w':=w') (by simp [execOp,resolve,invoke,builtin,Act.eval,e39,go_sem,Zkv]) (Ya hW (by decide) (by decide) (Zy (by decide)))) (fun a9 w9 h9=>⟨p9,k9,h9⟩)
        · have e40:a1.tmps.getD 40 undef = .pointer (some ⟨bw,0,none⟩):=(Zu hJ hi 2 (by kernel_rfl))
          have h0:=gW.cell b0 (by simp)
          have h1:=gW.cell b1 (by simp)
          have h2:=gW.cell b2 (by simp)
          exact Zj (Zo hW hJ rfl (by rfl) rfl (by decide) (by decide) (Zae _ (by decide)) (w':=w') (by simp [execOp,resolve,invoke,builtin,Act.eval,e40,h0,h1,h2,go_sem,Zkv]) (Ya hW (by decide) (by decide) (Zy (by decide)))) (fun a9 w9 h9=>⟨p9,k9,h9⟩)
        · have e5:a1.tmps.getD 5 undef = .pointer (some ⟨Af,0,none⟩):=hJ.un 5 (fun i hi _=>Zkg 5 (by decide) i hi)
          have h0:=gW.cell fc (by simp)
          exact Zj (Zo hW hJ rfl (by rfl) rfl (by decide) (by decide) (Zae _ (by decide)) (w':=w') (by simp [execOp,resolve,invoke,builtin,Act.eval,e5,h0,go_sem,Zkv]) (Ya hW (by decide) (by decide) (Zy (by decide)))) (fun a9 w9 h9=>⟨p9,k9,h9⟩)
        · have e0:a1.tmps.getD 0 undef = .int .i64 at_:=hJ.un 0 (fun i hi _=>Zkg 0 (by decide) i hi)
          exact Zj (Zo hW hJ rfl (by rfl) rfl (by decide) (by decide) (Zae _ (by decide)) (w':=w') (by simp [execOp,resolve,invoke,builtin,Act.eval,e0,go_sem,Zkv]) (Ya hW (by decide) (by decide) (Zy (by decide)))) (fun a9 w9 h9=>⟨p9,k9,h9⟩)
        · have e42:a1.tmps.getD 42 undef = .int .i64 f:=(Zu hJ hi 4 (by kernel_rfl))
          have f42:=e42
          rw [Array.getD_eq_getD_getElem?] at f42
          have e43:a1.tmps.getD 43 undef = .int .i64 at_:=(Zu hJ hi 5 (by kernel_rfl))
          have f43:=e43
          rw [Array.getD_eq_getD_getElem?] at f43
          exact Zj (Zo hW hJ rfl (by rfl) rfl (by decide) (by decide) (Zae _ (by decide)) (w':=w') (by simp [execOp,resolve,invoke,builtin,Act.eval,e42,f42,e43,f43,go_sem,Zkv]) (Ya hW (by decide) (by decide) (Zy (by decide)))) (fun a9 w9 h9=>⟨p9,k9,h9⟩)
        · have e41:a1.tmps.getD 41 undef = .agg #[.int .i64 mem,.slice pd nd cd,.slice pF fs.length cF]:=(Zu hJ hi 3 (by kernel_rfl))
          have e44:a1.tmps.getD 44 undef = .agg #[.int .i64 f,.int .i64 at_]:=(Zu hJ hi 6 (by kernel_rfl))
          have no7:l.getD 8 false=false:=(by
           rcases Bool.eq_false_or_eq_true (l.getD 8 false) with e|e
           · have:=hW.x (8,7) (by decide) e;rw [hun] at this;cases this
           · exact e)
          have hw0:=hW.h0 hun
          subst hw0
          refine Jb rfl (by rfl) (by simp [execOp,resolve,invoke,Act.eval,e41,e44,go_sem]) (NX.out.mono fun e w2 he => ?_)
          obtain ⟨v8,rfl,g8,r8⟩:=he
          obtain ⟨p8,k8,rfl⟩:=Zp r8
          refine ⟨_,rfl,p8,k8,?_,Zqc hW (by decide) (Zy (by decide)) r8 (Za hW.g g8)⟩
          exact Zch (val:=Zkv Aw Af bw at_ f nd cd fs.length cF L.length k8 mem pd pF p8) (Zbe hJ (Ysd l hun no7)) (by decide) (by decide) (Zae _ (by decide))
        · have e45:a1.tmps.getD 45 undef = .slice p9 L.length k9:=(Zu hJ hi 7 (by kernel_rfl))
          have l7:l.getD 7 false=true:=Zl hi 7 (by kernel_rfl)
          exact Zj (Zo hW hJ rfl (by rfl) rfl (by decide) (by decide) (Zae _ (by decide)) (w':=w') (by simp [execOp,resolve,invoke,builtin,Act.eval,e45,go_sem,Zkv]) (Ya hW (by decide) (by decide) (Yse l7))) (fun a9 w9 h9=>⟨p9,k9,h9⟩)
        · exact Zj (Zo hW hJ rfl (by rfl) rfl (by decide) (by decide) (Zae _ (by decide)) (w':=w') (by simp [execOp,resolve,invoke,builtin,Act.eval,go_sem,Zkv]) (Ya hW (by decide) (by decide) (Zy (by decide)))) (fun a9 w9 h9=>⟨p9,k9,h9⟩)
       intro l a1 W2 hJJ hl
       obtain ⟨p9,k9,hJ,hW⟩:=hJJ
       have r9:=hW.h1 (hl 7 (by decide))
       have hput:=Zag hJ rfl hl (fun i j h1 h2 h3=>Zae j h2 i h1 h3)
       subst hput
       have g2:Wn.grownBy W2 none:=Za (Ze (Zc Wn _)) hW.g
       have R9:=Hq r9
       have s2:Sp (fun k=>k=bk\/k=Ag) Wn W2:=Yf g2 (fun k _ e=>by cases e)
       have S2:=Hq (Yo SN.out s2 (fun _ _ h=>h))
       have X2:=Hq (Yem XN.out hlx s2 (fun k h=>by rcases h with h|h <;> omega) (Zcb XN.out.kw g2 (by simp)))
       have C2:=Hq (Zns CN.out g2)
       refine hK _ _ ?_
       simp only [Zay,cr6,Zkv,Act.put,List.setIfInBounds_toArray,List.set_cons_zero,List.set_cons_succ]
       clear hK K hJ hW hl r9 g2 s2 NX wc fc b0 b1 b2
       have hbkn:bk<Wn.drew.heap.size:=by simp;omega
       have hagn:Ag<Wn.drew.heap.size:=by simp;omega
       clear hszn hlgn
       generalize Wn.drew.heap.size=nB at *
       go_wp2
       go_loopw [10,47] (fun m i wr=>∃ (k:Nat) (most:Int) (knk:Nat->Option Int) (Zk:List Int),m = .int .i64 most/\i = .int .i64 k/\k<=L.length/\(0<=most/\most<=1099511627777)/\Sp (fun k=>k=bk\/k=Ag) W wr/\wr.ownsRow nB 3 1 (.slice p9 L.length k9) L.length (L.map (Value.int .i64))/\XW w0 wr bx gH gT fs.length cH cT bk x2 x3 x4 x5 knk/\KnC fs.length knk/\KnM fin fs.length kn knk (rk fin f)/\CoB base wr ⟨Aw,Af,Ak,Ac,Az,Ao,Ag⟩ bw bk f c.length (.slice (some ⟨b',o',none⟩) c.length cc) Zk) (fun _ i _=>L.length - (intOf i).toNat)
       case atStart=>exact ⟨0,0,kn1,Z,rfl,rfl,Nat.zero_le _,⟨by decide,by decide⟩,S2.out,R9.out,X2.out,KCN.out,KMN.out,C2.out⟩
       case round =>
        obtain ⟨k,most,knk,Zk,rfl,rfl,hk,hmost,hSk,hRk,hXk,hKCk,hKMk,hCk⟩:=hrel
        have HSk:=Hq hSk
        have HRk:=Hq hRk
        have HXk:=Hq hXk
        have HKCk:=Hq hKCk
        have HKMk:=Hq hKMk
        have HCk:=Hq hCk
        clear S2 X2 C2 R9
        by_cases hlt:(k:Int)<(L.length:Int)
        · obtain ⟨y,hy⟩:∃ y,L[k]? = some y:=⟨_,List.getElem?_eq_getElem (by omega)⟩
          obtain ⟨hy0,hyT,hyr⟩:=HLY.out y (List.mem_of_getElem? hy)
          obtain ⟨m,rfl⟩:=Int.eq_ofNat_of_zero_le hy0
          simp only [Int.toNat_natCast] at hyT hyr
          obtain ⟨gL,kL,eL,lL,cL⟩:=Zx hRk (by omega)
          injection eL with eL1 eL2 eL3
          subst eL1
          have cn:=cL k (.int .i64 m) (by rw [List.getElem?_map,hy];rfl) (by omega)
          have oc:=Zw hCk.bo
          have s6:=(Gs hCk.bo)
          simp only [] at oc s6
          have OF:=Hq (IH.out wr knk ⟨Aw,Af,Ak,Ac,Az,Ao,Ag⟩ Zk m hXk hKCk hCk hyT (by have:=HM.out;omega))
          simp only [] at OF
          clear hSk hRk hXk hKCk hKMk hCk hy hy0 hyT hyr cL eL2 eL3
          go_wp2_with (go_at_call 65;refine OF.out.mono ?_;rintro e w5 ⟨v5,kn5,Z5,rfl,hv5,hs5,k5,c5,m5,C5⟩;have HS5:=Hq hs5;have HK5:=Hq k5;have HC5:=Hq c5;have HM5:=Hq m5;have HB5:=Hq C5;clear hs5 k5 c5 m5 C5 oc s6 cn)
          all_goals
           refine ⟨⟨k+1,max most v5,kn5,Z5,?_,by go_num,by omega,by omega,Yo HSk.out HS5.out (fun _ _ h=>h),Zdo HRk.out HS5.out (fun q hq hb=>by have:=(HRk.out.lt q hq).1;rcases hb with hb|hb <;> (try have hb:q=Ag:=hb) <;> omega),Yem HXk.out hlx HS5.out (fun q hq=>by have:=HLZ.out;rcases hq with hq|hq <;> (try have hq:q=Ag:=hq) <;> omega) HK5.out,HC5.out,Znc HKMk.out HM5.out (Nat.le_refl _) (Nat.le_refl _),HB5.out⟩,by simp [intOf];omega⟩
           first|rfl|(congr 1;omega)
        · have zc:=Zw hCk.bz
          have zcell:=Zsq hCk at_ hat2
          have zf:=Ye hCk.r at_
          have lg:=(Zvw hCk).2
          have s1:=(Gs hCk.bz)
          simp only [] at zc zcell zf lg s1
          have q1:(at_:Int)<(c.length:Int):=by omega
          have hmin:0<=min (nv+most) 1099511627777/\min (nv+most) 1099511627777<=1099511627777:=by omega
          have CF:=Hq (Ykp hCk at_ hat2 _ hmin)
          have KF:=Hq (Zcb hXk.kw (Zh wr Ag at_ (.int .i64 (min (nv+most) 1099511627777))) (by have:=HLZ.out;intro e;injection e with e;omega))
          have SF:=Hq (Yo HSk.out (Zfr wr Ag at_ (.int .i64 (min (nv+most) 1099511627777))) (fun q _ h=>Or.inr h))
          have zc2:=Zw CF.out.bz
          simp only [] at zc2
          have hn1:1<=nv:=by omega
          have hn2:nv<=1099511627778:=by omega
          obtain ⟨hm1,hm2⟩:=hmost
          clear hSk hRk hXk hKCk hKMk hCk
          go_wp2
          all_goals
           go_ret
           exact ⟨min (nv+most) 1099511627777,knk,_,Zfa (by omega),hmin,SF.out,KF.out,HKCk.out,HKMk.out,CF.out⟩
     · have h17b:(op == 17)=false:=by simp [h17]
       have XN:=HH
       have CN:=HC
       have KCN:=HK
       have KMN:=Hq (Zsa fin fs.length kn (rk fin f))
       have SN:=Hq (Zez (fun k=>k=bk\/k=Ag) W)
       clear H hC hKC hP hco ih S hok hfn hcode hnx hins ht hM hff hlt hlz hnz d0 d1 hv hz hz0
       go_enter Try.func65,Try.ntmps65
       go_upto_region 6 with fail
       rename_i K hK
       have kb:=Zb SS.out.bwc XN.out.g (by intro e;injection e with e;exact SS.out.ne1 e.symm)
       have b0:=Cq _ _ 0 _ _ _ kb
       have b1:=Cq _ _ 1 _ _ _ kb
       have b2:=Cq _ _ 2 _ _ _ kb
       have wc:=Zw CN.out.bw_
       have fc:=Zw CN.out.bf
       simp only [] at wc fc
       have hszn:=XN.out.g.size
       have hlgn:=Zvw CN.out
       simp only [] at hlgn
       obtain ⟨L,hL2,hLy,nx⟩:=Zus mem (.slice pd nd cd) fs pF cF B f at_ ar lo r c _ _ W.drew Zde T ⟨_,_,_,rfl⟩ (by have:=SS.out.hB;simp;omega) (Zq SS.out.hF (Ze XN.out.g) (fun r e=>by injection e with e;rw [<- e];exact SS.out.bx_)) HFN.out HIN.out SS.out.nf hbn.2 HNX.out
       have NX:=Hq nx
       have HLY:=Hq hLy
       clear nx hLy kb
       refine Je (n:=10) (J:=fun a0 l a1 w1=>∃ p9 k9,RJ a0 68 10 cr6 (Zkv Aw Af bw at_ f nd cd fs.length cF L.length k9 mem pd pF p9) l a1/\WX 7 10 [(8,7)] W.drew none (fun w9=>w9.ownsRow W.drew.heap.size 3 1 (.slice p9 L.length k9) L.length (L.map (Value.int .i64))) l w1) (by kernel_rfl) rfl (Zai (by kernel_rfl)) (fun l a1 w1 h=>by obtain ⟨_,_,_,h⟩:=h;exact h.sz) ⟨none,0,Jd rfl,Zle _ _ _ _ _ _⟩ ?stW ?fiW
       case stW =>
        intro l a1 w' i hJJ hi hin
        obtain ⟨p9,k9,hJ,hW⟩:=hJJ
        have hun:l.getD i false=false:=getD_both (mem_ready.1 hi).1
        have gW:W.grownBy w' none:=Za (Ze (Zc W _)) hW.g
        rcases Ykm i hin with rfl|rfl|rfl|rfl|rfl|rfl|rfl|rfl|rfl|rfl
        · have e3:a1.tmps.getD 3 undef = .pointer (some ⟨Aw,0,none⟩):=hJ.un 3 (fun i hi _=>Zkg 3 (by decide) i hi)
          have h0:=gW.cell wc (by simp)
          exact Zj (Zo hW hJ rfl (by rfl) rfl (by decide) (by decide) (Zae _ (by decide)) (w':=w') (by simp [execOp,resolve,invoke,builtin,Act.eval,e3,h0,go_sem,Zkv]) (Ya hW (by decide) (by decide) (Zy (by decide)))) (fun a9 w9 h9=>⟨p9,k9,h9⟩)
        · have e38:a1.tmps.getD 38 undef = .pointer (some ⟨bw,0,none⟩):=(Zu hJ hi 0 (by kernel_rfl))
          exact Zj (Zo hW hJ rfl (by rfl) rfl (by decide) (by decide) (Zae _ (by decide)) (w':=w') (by simp [execOp,resolve,invoke,builtin,Act.eval,e38,go_sem,Zkv]) (Ya hW (by decide) (by decide) (Zy (by decide)))) (fun a9 w9 h9=>⟨p9,k9,h9⟩)
        · have e39:a1.tmps.getD 39 undef = .pointer (some ⟨bw,0,none⟩):=(Zu hJ hi 1 (by kernel_rfl))
          exact Zj (Zo hW hJ rfl (by rfl) rfl (by decide) (by decide) (Zae _ (by decide)) (w':=w') (by simp [execOp,resolve,invoke,builtin,Act.eval,e39,go_sem,Zkv]) (Ya hW (by decide) (by decide) (Zy (by decide)))) (fun a9 w9 h9=>⟨p9,k9,h9⟩)
        · have e40:a1.tmps.getD 40 undef = .pointer (some ⟨bw,0,none⟩):=(Zu hJ hi 2 (by kernel_rfl))
          have h0:=gW.cell b0 (by simp)
          have h1:=gW.cell b1 (by simp)
          have h2:=gW.cell b2 (by simp)
          exact Zj (Zo hW hJ rfl (by rfl) rfl (by decide) (by decide) (Zae _ (by decide)) (w':=w') (by simp [execOp,resolve,invoke,builtin,Act.eval,e40,h0,h1,h2,go_sem,Zkv]) (Ya hW (by decide) (by decide) (Zy (by decide)))) (fun a9 w9 h9=>⟨p9,k9,h9⟩)
        · have e5:a1.tmps.getD 5 undef = .pointer (some ⟨Af,0,none⟩):=hJ.un 5 (fun i hi _=>Zkg 5 (by decide) i hi)
          have h0:=gW.cell fc (by simp)
          exact Zj (Zo hW hJ rfl (by rfl) rfl (by decide) (by decide) (Zae _ (by decide)) (w':=w') (by simp [execOp,resolve,invoke,builtin,Act.eval,e5,h0,go_sem,Zkv]) (Ya hW (by decide) (by decide) (Zy (by decide)))) (fun a9 w9 h9=>⟨p9,k9,h9⟩)
        · have e0:a1.tmps.getD 0 undef = .int .i64 at_:=hJ.un 0 (fun i hi _=>Zkg 0 (by decide) i hi)
          exact Zj (Zo hW hJ rfl (by rfl) rfl (by decide) (by decide) (Zae _ (by decide)) (w':=w') (by simp [execOp,resolve,invoke,builtin,Act.eval,e0,go_sem,Zkv]) (Ya hW (by decide) (by decide) (Zy (by decide)))) (fun a9 w9 h9=>⟨p9,k9,h9⟩)
        · have e42:a1.tmps.getD 42 undef = .int .i64 f:=(Zu hJ hi 4 (by kernel_rfl))
          have f42:=e42
          rw [Array.getD_eq_getD_getElem?] at f42
          have e43:a1.tmps.getD 43 undef = .int .i64 at_:=(Zu hJ hi 5 (by kernel_rfl))
          have f43:=e43
          rw [Array.getD_eq_getD_getElem?] at f43
          exact Zj (Zo hW hJ rfl (by rfl) rfl (by decide) (by decide) (Zae _ (by decide)) (w':=w') (by simp [execOp,resolve,invoke,builtin,Act.eval,e42,f42,e43,f43,go_sem,Zkv]) (Ya hW (by decide) (by decide) (Zy (by decide)))) (fun a9 w9 h9=>⟨p9,k9,h9⟩)
        · have e41:a1.tmps.getD 41 undef = .agg #[.int .i64 mem,.slice pd nd cd,.slice pF fs.length cF]:=(Zu hJ hi 3 (by kernel_rfl))
          have e44:a1.tmps.getD 44 undef = .agg #[.int .i64 f,.int .i64 at_]:=(Zu hJ hi 6 (by kernel_rfl))
          have no7:l.getD 8 false=false:=(by
           rcases Bool.eq_false_or_eq_true (l.getD 8 false) with e|e
           · have:=hW.x (8,7) (by decide) e;rw [hun] at this;cases this
           · exact e)
          have hw0:=hW.h0 hun
          subst hw0
          refine Jb rfl (by rfl) (by simp [execOp,resolve,invoke,Act.eval,e41,e44,go_sem]) (NX.out.mono fun e w2 he => ?_)
          obtain ⟨v8,rfl,g8,r8⟩:=he
          obtain ⟨p8,k8,rfl⟩:=Zp r8
          refine ⟨_,rfl,p8,k8,?_,Zqc hW (by decide) (Zy (by decide)) r8 (Za hW.g g8)⟩
          exact Zch (val:=Zkv Aw Af bw at_ f nd cd fs.length cF L.length k8 mem pd pF p8) (Zbe hJ (Ysd l hun no7)) (by decide) (by decide) (Zae _ (by decide))
        · have e45:a1.tmps.getD 45 undef = .slice p9 L.length k9:=(Zu hJ hi 7 (by kernel_rfl))
          have l7:l.getD 7 false=true:=Zl hi 7 (by kernel_rfl)
          exact Zj (Zo hW hJ rfl (by rfl) rfl (by decide) (by decide) (Zae _ (by decide)) (w':=w') (by simp [execOp,resolve,invoke,builtin,Act.eval,e45,go_sem,Zkv]) (Ya hW (by decide) (by decide) (Yse l7))) (fun a9 w9 h9=>⟨p9,k9,h9⟩)
        · exact Zj (Zo hW hJ rfl (by rfl) rfl (by decide) (by decide) (Zae _ (by decide)) (w':=w') (by simp [execOp,resolve,invoke,builtin,Act.eval,go_sem,Zkv]) (Ya hW (by decide) (by decide) (Zy (by decide)))) (fun a9 w9 h9=>⟨p9,k9,h9⟩)
       intro l a1 W2 hJJ hl
       obtain ⟨p9,k9,hJ,hW⟩:=hJJ
       have r9:=hW.h1 (hl 7 (by decide))
       have hput:=Zag hJ rfl hl (fun i j h1 h2 h3=>Zae j h2 i h1 h3)
       subst hput
       have g2:W.grownBy W2 none:=Za (Ze (Zc W _)) hW.g
       have R9:=Hq r9
       have s2:Sp (fun k=>k=bk\/k=Ag) W W2:=Yf g2 (fun k _ e=>by cases e)
       have S2:=Hq (Yo SN.out s2 (fun _ _ h=>h))
       have X2:=Hq (Yem XN.out hlx s2 (fun k h=>by rcases h with h|h <;> omega) (Zcb XN.out.kw g2 (by simp)))
       have C2:=Hq (Zns CN.out g2)
       refine hK _ _ ?_
       simp only [Zay,cr6,Zkv,Act.put,List.setIfInBounds_toArray,List.set_cons_zero,List.set_cons_succ]
       clear hK K hJ hW hl r9 g2 s2 NX wc fc b0 b1 b2
       have hbkn:bk<W.drew.heap.size:=by simp;omega
       have hagn:Ag<W.drew.heap.size:=by simp;omega
       clear hszn hlgn
       generalize W.drew.heap.size=nB at *
       go_wp2
       go_loopw [10,47] (fun m i wr=>∃ (k:Nat) (most:Int) (knk:Nat->Option Int) (Zk:List Int),m = .int .i64 most/\i = .int .i64 k/\k<=L.length/\(0<=most/\most<=1099511627777)/\Sp (fun k=>k=bk\/k=Ag) W wr/\wr.ownsRow nB 3 1 (.slice p9 L.length k9) L.length (L.map (Value.int .i64))/\XW w0 wr bx gH gT fs.length cH cT bk x2 x3 x4 x5 knk/\KnC fs.length knk/\KnM fin fs.length kn knk (rk fin f)/\CoB base wr ⟨Aw,Af,Ak,Ac,Az,Ao,Ag⟩ bw bk f c.length (.slice (some ⟨b',o',none⟩) c.length cc) Zk) (fun _ i _=>L.length - (intOf i).toNat)
       case atStart=>exact ⟨0,0,kn,Z,rfl,rfl,Nat.zero_le _,⟨by decide,by decide⟩,S2.out,R9.out,X2.out,KCN.out,KMN.out,C2.out⟩
       case round =>
        obtain ⟨k,most,knk,Zk,rfl,rfl,hk,hmost,hSk,hRk,hXk,hKCk,hKMk,hCk⟩:=hrel
        have HSk:=Hq hSk
        have HRk:=Hq hRk
        have HXk:=Hq hXk
        have HKCk:=Hq hKCk
        have HKMk:=Hq hKMk
        have HCk:=Hq hCk
        clear S2 X2 C2 R9
        by_cases hlt:(k:Int)<(L.length:Int)
        · obtain ⟨y,hy⟩:∃ y,L[k]? = some y:=⟨_,List.getElem?_eq_getElem (by omega)⟩
          obtain ⟨hy0,hyT,hyr⟩:=HLY.out y (List.mem_of_getElem? hy)
          obtain ⟨m,rfl⟩:=Int.eq_ofNat_of_zero_le hy0
          simp only [Int.toNat_natCast] at hyT hyr
          obtain ⟨gL,kL,eL,lL,cL⟩:=Zx hRk (by omega)
          injection eL with eL1 eL2 eL3
          subst eL1
          have cn:=cL k (.int .i64 m) (by rw [List.getElem?_map,hy];rfl) (by omega)
          have oc:=Zw hCk.bo
          have s6:=(Gs hCk.bo)
          simp only [] at oc s6
          have OF:=Hq (IH.out wr knk ⟨Aw,Af,Ak,Ac,Az,Ao,Ag⟩ Zk m hXk hKCk hCk hyT (by have:=HM.out;omega))
          simp only [] at OF
          clear hSk hRk hXk hKCk hKMk hCk hy hy0 hyT hyr cL eL2 eL3
          go_wp2_with (go_at_call 65;refine OF.out.mono ?_;rintro e w5 ⟨v5,kn5,Z5,rfl,hv5,hs5,k5,c5,m5,C5⟩;have HS5:=Hq hs5;have HK5:=Hq k5;have HC5:=Hq c5;have HM5:=Hq m5;have HB5:=Hq C5;clear hs5 k5 c5 m5 C5 oc s6 cn)
          all_goals
           refine ⟨⟨k+1,max most v5,kn5,Z5,?_,by go_num,by omega,by omega,Yo HSk.out HS5.out (fun _ _ h=>h),Zdo HRk.out HS5.out (fun q hq hb=>by have:=(HRk.out.lt q hq).1;rcases hb with hb|hb <;> (try have hb:q=Ag:=hb) <;> omega),Yem HXk.out hlx HS5.out (fun q hq=>by have:=HLZ.out;rcases hq with hq|hq <;> (try have hq:q=Ag:=hq) <;> omega) HK5.out,HC5.out,Znc HKMk.out HM5.out (Nat.le_refl _) (Nat.le_refl _),HB5.out⟩,by simp [intOf];omega⟩
           first|rfl|(congr 1;omega)
        · have zc:=Zw hCk.bz
          have zcell:=Zsq hCk at_ hat2
          have zf:=Ye hCk.r at_
          have lg:=(Zvw hCk).2
          have s1:=(Gs hCk.bz)
          simp only [] at zc zcell zf lg s1
          have q1:(at_:Int)<(c.length:Int):=by omega
          have hmin:0<=min (1+most) 1099511627777/\min (1+most) 1099511627777<=1099511627777:=by omega
          have CF:=Hq (Ykp hCk at_ hat2 _ hmin)
          have KF:=Hq (Zcb hXk.kw (Zh wr Ag at_ (.int .i64 (min (1+most) 1099511627777))) (by have:=HLZ.out;intro e;injection e with e;omega))
          have SF:=Hq (Yo HSk.out (Zfr wr Ag at_ (.int .i64 (min (1+most) 1099511627777))) (fun q _ h=>Or.inr h))
          have zc2:=Zw CF.out.bz
          simp only [] at zc2
          have hn1:1<=1:=by omega
          have hn2:1<=1099511627778:=by omega
          obtain ⟨hm1,hm2⟩:=hmost
          clear hSk hRk hXk hKCk hKMk hCk
          go_wp2
          all_goals
           go_ret
           exact ⟨min (1+most) 1099511627777,knk,_,Zfa (by omega),hmin,SF.out,KF.out,HKCk.out,HKMk.out,CF.out⟩
def cm8:Nat->Nat
 | 0=>33
 | 1=>34
 | 2=>35
 | 3=>36
 | 4=>1004
 | _=>5000
theorem Zvz:∀ i,i<5->∀ j,j<5->j≠i->cm8 j≠cm8 i:=by decide
theorem Ysi (i:Nat) (h:i<5):i=0\/i=1\/i=2\/i=3\/i=4:=by omega
theorem Zym (j:Nat) (hj:j∈[4,5,11]):∀ i,i<5->cm8 i≠j:=by revert j;decide
def Ysh (Ak Af Ao bk f:Nat) (F:Value) (v9:Int):Nat->Value
 | 0 => .map (some bk)
 | 1 => .int .i64 f
 | 2=>F
 | 3 => .int .i64 v9
 | 4=>undef
 | _=>undef
theorem Xbf {Ak Af Ao bk f:Nat} {F:Value} {v8 v9:Int} (l:Array Bool) (hun:l.getD 3 false=false):∀ i,i<5->l.getD i false=true->cm8 i<40->Ysh Ak Af Ao bk f F v8 i=Ysh Ak Af Ao bk f F v9 i:=by
 intro i hi hl _
 rcases Ysi i hi with rfl|rfl|rfl|rfl|rfl <;> first|rfl|(rw [hun] at hl;cases hl)
theorem Ypj {fin:List Nat} {nf f:Nat} {kn kn9:Nat->Option Int} (h:KnM fin nf kn kn9 (rk fin f)) (hf:f<nf) (hk:kn f=none):kn9 f=none:=by
 cases h9:kn9 f with
 | none=>rfl
 | some v =>
   rcases h.2 f hf (by rw [h9];simp) with h1|h1
   · exact absurd hk h1
   · omega
structure WM (W:World) (base Ak Af Ao Ag bk f nf:Nat) (F:Value) (fin:List Nat) (kn kn9:Nat->Option Int) (v9:Int) (l:Array Bool) (w:World):Prop where
 sz:l.size=5
 h0:l.getD 3 false=false->w=W/\l.getD 4 false=false
 h1:l.getD 3 false=true->KnC nf kn9/\KnM fin nf kn kn9 (rk fin f)/\0<=v9/\v9<=1099511627777
 ka:l.getD 3 false=true->l.getD 4 false=false->KnW w bk nf kn9
 kb:l.getD 4 false=true->KnW w bk nf (Zia kn9 f v9)
 sp:Sp (fun k=>k=bk\/k=Ag) W w
 ck:w.cell? ⟨Ak,0,none⟩=some (.map (some bk))
 cf:w.cell? ⟨Af,0,none⟩=some (.int .i64 (f:Int))
 co:w.cell? ⟨Ao,0,none⟩=some F
section
variable {W w w':World} {base Ak Af Ao Ag bk f nf:Nat} {F:Value} {fin:List Nat} {kn kn9:Nat->Option Int} {v9:Int} {l:Array Bool}
theorem Zws {i:Nat} (h:WM W base Ak Af Ao Ag bk f nf F fin kn kn9 v9 l w) (hi:i<5) (h3:i≠3) (h4:i≠4):WM W base Ak Af Ao Ag bk f nf F fin kn kn9 v9 (l.setIfInBounds i true) w:=by
 have g3:(l.setIfInBounds i true).getD 3 false=l.getD 3 false:=by rw [Yd l i 3 (by rw [h.sz];exact hi),if_neg (Ne.symm h3)]
 have g4:(l.setIfInBounds i true).getD 4 false=l.getD 4 false:=by rw [Yd l i 4 (by rw [h.sz];exact hi),if_neg (Ne.symm h4)]
 exact ⟨by simp [h.sz],fun e=>(by rw [g3] at e;rw [g4];exact h.h0 e),fun e=>h.h1 (by rw [<- g3];exact e),fun e e4=>h.ka (by rw [<- g3];exact e) (by rw [<- g4];exact e4),fun e=>h.kb (by rw [<- g4];exact e),h.sp,h.ck,h.cf,h.co⟩
theorem Yme (ck:W.cell? ⟨Ak,0,none⟩=some (.map (some bk))) (cf:W.cell? ⟨Af,0,none⟩=some (.int .i64 (f:Int))) (co:W.cell? ⟨Ao,0,none⟩=some F):WM W base Ak Af Ao Ag bk f nf F fin kn kn9 v9 (Array.replicate 5 false) W :=
 ⟨by simp,fun _=>⟨rfl,by rw [getD_replicate_false]⟩,fun h=>(by rw [getD_replicate_false] at h;cases h),fun h=>(by rw [getD_replicate_false] at h;cases h),fun h=>(by rw [getD_replicate_false] at h;cases h),Zez _ _,ck,cf,co⟩
theorem Ysm {kn8:Nat->Option Int} {v8:Int} (h:WM W base Ak Af Ao Ag bk f nf F fin kn kn9 v9 l W) (hun:l.getD 4 false=false) (g:Sp (fun k=>k=bk\/k=Ag) W w') (k:KnW w' bk nf kn8) (c:KnC nf kn8) (m:KnM fin nf kn kn8 (rk fin f)) (hv:0<=v8/\v8<=1099511627777)
 (n1:¬ (Ak=bk\/Ak=Ag)) (n2:¬ (Af=bk\/Af=Ag)) (n3:¬ (Ao=bk\/Ao=Ag)):WM W base Ak Af Ao Ag bk f nf F fin kn kn8 v8 (l.setIfInBounds 3 true) w':=by
 have g4:(l.setIfInBounds 3 true).getD 4 false=false:=by rw [Yd l 3 4 (by rw [h.sz];decide),if_neg (by decide)];exact hun
 exact ⟨by simp [h.sz],fun e=>(by rw [Yd l 3 3 (by rw [h.sz];decide),if_pos rfl] at e;cases e),fun _=>⟨c,m,hv⟩,fun _ _=>k,fun e=>(by rw [g4] at e;cases e),g,Zgg h.ck g n1,Zgg h.cf g n2,Zgg h.co g n3⟩
theorem Yxc (h:WM W base Ak Af Ao Ag bk f nf F fin kn kn9 v9 l w) (l3:l.getD 3 false=true) (g:w.grownBy w' (some bk)) (k:KnW w' bk nf (Zia kn9 f v9)) (n1:Ak≠bk) (n2:Af≠bk) (n3:Ao≠bk):WM W base Ak Af Ao Ag bk f nf F fin kn kn9 v9 (l.setIfInBounds 4 true) w':=by
 have g3:(l.setIfInBounds 4 true).getD 3 false=true:=by rw [Yd l 4 3 (by rw [h.sz];decide),if_neg (by decide)];exact l3
 have g4:(l.setIfInBounds 4 true).getD 4 false=true:=by rw [Yd l 4 4 (by rw [h.sz];decide),if_pos rfl]
 have nn:∀ {x:Nat},x≠bk->(some x:Option Nat)≠some bk:=fun h e=>h (by injection e)
 refine ⟨by simp [h.sz],fun e=>(by rw [g3] at e;cases e),fun _=>h.h1 l3,fun _ e=>(by rw [g4] at e;cases e),fun _=>k,Yo h.sp (Yf (P:=fun k=>k=bk\/k=Ag) g (fun q _ e=>by injection e with e;exact Or.inl e.symm)) (fun _ _ h=>h),g.cell h.ck (nn n1),g.cell h.cf (nn n2),g.cell h.co (nn n3)⟩
end
theorem Ydq {w W3 w9:World} {bk Ag:Nat} (h:w.grownBy W3 none) (g:Sp (fun k=>k=bk\/k=Ag) W3.drew w9) (hA:w.heap.size<=Ag):w.grownBy w9 (some bk):=by
 have h2:=Ze h
 have hs:=h2.size
 exact ⟨g.os.trans h2.os,g.tape.trans h2.tape,g.output.trans h2.output,Nat.le_trans h2.size g.size,fun b hb hr=>by rw [g.block b (by omega) (fun e=>by rcases e with e|e;exact hr (by rw [e]);omega)];exact h2.block b hb (by simp)⟩
theorem Yvl {nf f:Nat} {kn:Nat->Option Int} {v:Int} (h:KnC nf kn) (hv:0<=v/\v<=1099511627777):KnC nf (Zia kn f v):=fun x hx u hu=>by
 by_cases e:x=f
 · subst e
   have:u=v:=by simpa [Zia] using hu.symm
   rw [this];exact hv
 · exact h x hx u (by simpa [Zia,e] using hu)
theorem Yvk {fin:List Nat} {nf f:Nat} {kn kn9:Nat->Option Int} {v:Int} (h:KnM fin nf kn kn9 (rk fin f)) (hk:kn f=none):KnM fin nf kn (Zia kn9 f v) (rk fin f+1):=by
 refine ⟨fun x u hu => ?_,fun x hx hne => ?_⟩
 · by_cases e:x=f
   · subst e;rw [hk] at hu;cases hu
   · simpa [Zia,e] using h.1 x u hu
 · by_cases e:x=f
   · subst e;right;omega
   · rcases h.2 x hx (by simpa [Zia,e] using hne) with h1|h1
     · exact Or.inl h1
     · exact Or.inr (by omega)
theorem Ylz (n:Nat) (j:Nat):0<=(List.replicate n (0:Int)).getD j 0/\(List.replicate n (0:Int)).getD j 0<=1099511627777:=by
 have:(List.replicate n (0:Int)).getD j 0=0:=by
  rw [List.getD_eq_getElem?_getD,List.getElem?_replicate]
  split <;> rfl
 rw [this];decide
theorem Yqf (w0:World) (bw bx bm B:Nat) (mem:Int) (pd:Option Addr) (nd cd:Nat) (pF:Option Addr) (cF:Nat) (fs:List FnP) (cl:Nat->List Nat) (S:St w0 bw bx bm B mem pd nd cd pF cF fs cl) (hok:Zjp fs) (gH gT cH cT bk:Nat) (x2 x3 x4 x5:Value) (fin:List Nat) (hlt:∀ x∈fin,x<fs.length)
 (hpl:∀ f∈fin,∀ (ar lo r:Int) (c:List (Int × Int)),fs[f]? = some (ar,lo,r,c)->∃ (Zde:Nat->Nat) (T:Nat->Prop),T 0/\CoP fin f c Zde T) (N:Nat) :
 ∀ (w:World) (kn:Nat->Option Int) (f:Nat),XW w0 w bx gH gT fs.length cH cT bk x2 x3 x4 x5 kn->KnC fs.length kn->f∈fin->rk fin f<N->Calls Try.prog 46 #[.pointer (some ⟨bw,0,none⟩),.int .i64 f,.map (some bk)] w (Ysl w fs.length bk fin kn f):=by
 induction N with
 | zero=>intro w kn f H hKC hff hN;omega
 | succ N ih =>
   intro w kn f H hKC hff hN
   have hf:=hlt f hff
   have g3:=Xm w (.cells #[.pointer (some ⟨bw,0,none⟩)] 67) (.cells #[.int .i64 f] 3) (.cells #[.map (some bk)] 94)
   have hlook:=Yrv (Zcb H.kw g3 (by simp)) hf
   have hKb:=Xap H.kw
   obtain ⟨t1,t2,t3⟩:=Xl w (.cells #[.pointer (some ⟨bw,0,none⟩)] 67) (.cells #[.int .i64 f] 3) (.cells #[.map (some bk)] 94)
   cases hk:kn f with
   | some v =>
     rw [hk] at hlook
     simp only [Option.getD_some,Option.isSome_some] at hlook
     have HH:=Hq H
     have HK:=Hq hk
     have HB:=Hq hKC
     have HG:=Hq g3
     clear S H hKC ih hk hlt hpl hok g3 t1 t2 t3
     go_enter Try.func46,Try.ntmps46
     go_wp2
     go_ret
     exact ⟨v,kn,rfl,Zfu HG.out,Zcb HH.out.kw HG.out (by simp),HK.out,HB.out,fun x u h=>h,fun x _ h=>Or.inl h⟩
   | none =>
     rw [hk] at hlook
     simp only [Option.getD_none,Option.isSome_none] at hlook
     have hlx:=S.lx
     have hbx:=S.bx_
     have hszw:=H.g.size
     have kb:=Zb S.bwc H.g (by intro e;injection e with e;exact S.ne1 e.symm)
     have b2:=Cq _ _ 2 _ _ _ (Zb kb g3 (by simp))
     have sb:=(Gs kb)
     obtain ⟨⟨ar,lo,r,c⟩,hfn⟩:∃ fn,fs[f]? = some fn:=⟨_,List.getElem?_eq_getElem hf⟩
     obtain ⟨hn1,hn2⟩:=hok.len _ (List.mem_of_getElem? hfn)
     simp only [] at hn1 hn2
     obtain ⟨bF,oF,hpF,hbF,hcF⟩:=S.hF (by omega)
     obtain ⟨-,-,-,pc,cc,e3,hcode⟩:=hcF f ar lo r c hfn
     obtain ⟨b',o',hpc,hb',hcc⟩:=hcode (by omega)
     subst hpc
     subst hpF
     have CDC:Xbu w0 B c b' o':=⟨hb',fun i op a h=>hcc i op a h⟩
     have e3w:=g3.cell (H.g.cell e3 (by intro e;injection e with e;have e2:bF=bx:=e;omega)) (by simp)
     have hfi:(f:Int)<(fs.length:Int):=by omega
     have hbF2:bF<w.heap.size:=by omega
     obtain ⟨Zde,T,hT0,hCP⟩:=hpl f hff ar lo r c hfn
     have c1:=Cq _ _ 0 _ _ _ t1
     have c2:=Cq _ _ 0 _ _ _ t2
     have c3:=Cq _ _ 0 _ _ _ t3
     have sz3:(((w.alloc (.cells #[.pointer (some ⟨bw,0,none⟩)] 67)).alloc (.cells #[.int .i64 f] 3)).alloc (.cells #[.map (some bk)] 94)).heap.size=w.heap.size+3:=by simp
     have SS:=Hq S
     have HH:=Hq H
     have HKN:=Hq hk
     have HKC:=Hq hKC
     have IH:=Hq ih
     have HFN:=Hq hfn
     have HFF:=Hq hff
     have HNN:=Hq hN
     have HLT:=Hq hlt
     have HPL:=Hq hpl
     have OK:=Hq hok
     have CD:=Hq CDC
     have HCP:=Hq hCP
     have HT0:=Hq hT0
     have G3:=Hq g3
     have T1:=Hq t1
     have T2:=Hq t2
     have T3:=Hq t3
     have SZ3:=Hq sz3
     clear S H ih hk hKC hff hN hfn hlt hpl hok CDC hCP hT0 g3 t1 t2 t3 sz3 kb hcF hcode hcc e3
     go_enter Try.func46,Try.ntmps46
     go_wp2
     clear hlook
     have sz3:=SZ3.out
     generalize ((w.alloc (.cells #[.pointer (some ⟨bw,0,none⟩)] 67)).alloc (.cells #[.int .i64 f] 3)).alloc (.cells #[.map (some bk)] 94)=W at *
     have l1:w.heap.size<W.heap.size:=by omega
     have l2:w.heap.size+1<W.heap.size:=by omega
     have l3:bw<W.heap.size:=by omega
     have l4:bF<W.heap.size:=by omega
     clear sz3
     have m1:=World.new_ne W ⟨w.heap.size,0,none⟩ c1
     have m2:=World.new_ne W ⟨bw,2,none⟩ b2
     have m3:=World.new_ne W ⟨w.heap.size+1,0,none⟩ c2
     have m4:=World.new_ne W ⟨bF,oF+f*4+3,none⟩ e3w
     go_region_held3 (fun W'=>W'.cell? ⟨w.heap.size,0,none⟩=some (.pointer (some ⟨bw,0,none⟩))/\W'.cell? ⟨bw,2,none⟩=some (.slice (some ⟨bF,oF,none⟩) fs.length cF)/\W'.cell? ⟨w.heap.size+1,0,none⟩=some (.int .i64 f)/\W'.cell? ⟨bF,oF+f*4+3,none⟩=some (.slice (some ⟨b',o',none⟩) c.length cc)) (go_keep) (fail)
     rename_i hHeld
     clear m1 m2 m3 m4 hHeld l1 l2 l3 l4 b2 e3w c1 c2 c3
     have GW1:=Hq (Ze (Ga W (.cells #[.slice (some ⟨b',o',none⟩) c.length cc] 50) none))
     have XB:=Hq (show (W.alloc (.cells #[.slice (some ⟨b',o',none⟩) c.length cc] 50)).drew.heap[W.heap.size]? = some (.cells #[.slice (some ⟨b',o',none⟩) c.length cc] 50 (0,0)) from heap_alloc_new W (.cells #[.slice (some ⟨b',o',none⟩) c.length cc] 50))
     have s9:W.heap.size<(W.alloc (.cells #[.slice (some ⟨b',o',none⟩) c.length cc] 50)).drew.heap.size:=by simp
     have c9:=Cq (W.alloc (.cells #[.slice (some ⟨b',o',none⟩) c.length cc] 50)).drew _ 0 _ _ _ (heap_alloc_new W (.cells #[.slice (some ⟨b',o',none⟩) c.length cc] 50))
     generalize (W.alloc (.cells #[.slice (some ⟨b',o',none⟩) c.length cc] 50)).drew=W1 at *
     obtain ⟨ii,ii0,ii1,ii2,ii3⟩:=info_parts Zao
     have hk1:ii.bytes*c.length<=281474976710656:=by rw [ii3];omega
     have hk3:c.length<=maxLen:=by unfold maxLen;omega
     have hsW:w.heap.size<=W1.heap.size:=by have:=SZ3.out;omega
     have hnc:(c.length:Int)<=4096:=by omega
     go_upto_region 8 with (refine wpList_make_full _ rfl _ _ 32 rfl w.heap.size 3 ii (.int .i64 0) 1 Zbv ii0 ii1 ii2 .i64 .i64 _ _ c.length rfl rfl rfl rfl hk1 hk3 hsW ?_;intro w2 hr2 hg2;have R2:=Hq hr2;have G2:=Hq hg2;clear hr2 hg2)
     clear c9 s9 hk1 hk3 hnc
     obtain ⟨W3,hW3⟩:∃ W3,W3=((w2.alloc (.cells #[.slice (some ⟨W1.heap.size,0,none⟩) c.length c.length] 32)).alloc (.cells #[.func (.func 65) #[] #[.pointer (some ⟨w2.heap.size,0,none⟩),.pointer (some ⟨W.heap.size,0,none⟩),.pointer (some ⟨w.heap.size,0,none⟩),.pointer (some ⟨w.heap.size+1+1,0,none⟩),.pointer (some ⟨w.heap.size+1,0,none⟩),.pointer (some ⟨w2.heap.size+1,0,none⟩)]] 128)):=⟨_,rfl⟩
     rw [<- hW3]
     have X1:=Xc w2 (.cells #[.slice (some ⟨W1.heap.size,0,none⟩) c.length c.length] 32) (.cells #[.func (.func 65) #[] #[.pointer (some ⟨w2.heap.size,0,none⟩),.pointer (some ⟨W.heap.size,0,none⟩),.pointer (some ⟨w.heap.size,0,none⟩),.pointer (some ⟨w.heap.size+1+1,0,none⟩),.pointer (some ⟨w.heap.size+1,0,none⟩),.pointer (some ⟨w2.heap.size+1,0,none⟩)]] 128)
     have X2:=Yr w2 (.cells #[.slice (some ⟨W1.heap.size,0,none⟩) c.length c.length] 32) (.cells #[.func (.func 65) #[] #[.pointer (some ⟨w2.heap.size,0,none⟩),.pointer (some ⟨W.heap.size,0,none⟩),.pointer (some ⟨w.heap.size,0,none⟩),.pointer (some ⟨w.heap.size+1+1,0,none⟩),.pointer (some ⟨w.heap.size+1,0,none⟩),.pointer (some ⟨w2.heap.size+1,0,none⟩)]] 128)
     rw [<- hW3] at X1 X2
     have g23:w2.grownBy W3 none:=by rw [hW3];exact Za (Ga _ _ _) (Ga _ _ _)
     have z3:W3.heap.size=w2.heap.size+2:=by rw [hW3];simp
     have z0:=SZ3.out
     have z1:=GW1.out.size
     have z2:=R2.out.lt W1.heap.size rfl
     have zx:=(Gs XB.out)
     have gW3:=Za GW1.out (Za G2.out g23)
     have g13:=Za G2.out g23
     have gw3:=Za G3.out gW3
     have e1:(madeCells (Value.int .i64 0).cells (c.length*1)).toList=(List.replicate c.length (0:Int)).map (Value.int .i64):=by rw [Nat.mul_one];exact (toList_madeCells_one _ _).trans (by rw [List.map_replicate])
     have r2:=R2.out
     rw [e1] at r2
     generalize hF2:Value.func (.func 65) #[] #[.pointer (some ⟨w2.heap.size,0,none⟩),.pointer (some ⟨W.heap.size,0,none⟩),.pointer (some ⟨w.heap.size,0,none⟩),.pointer (some ⟨w.heap.size+1+1,0,none⟩),.pointer (some ⟨w.heap.size+1,0,none⟩),.pointer (some ⟨w2.heap.size+1,0,none⟩)]=F at X2 hW3 ⊢
     have C3:CoB w.heap.size W3 ⟨w.heap.size,w.heap.size+1,w.heap.size+1+1,W.heap.size,w2.heap.size,w2.heap.size+1,W1.heap.size⟩ bw bk f c.length (.slice (some ⟨b',o',none⟩) c.length cc) (List.replicate c.length 0) :=
      ⟨by simp only [];omega,by simp only [];omega,Zb T1.out gW3 (by simp),Zb T2.out gW3 (by simp),Zb T3.out gW3 (by simp),Zb XB.out g13 (by simp),X1,by rw [<- hF2] at X2;exact X2,r2.kept g23 (Classical.em _),Ylz _⟩
     have XD:=Hq (Yem (P:=fun _=>False) HH.out hlx (Yf (Ze gw3) (fun k _ e=>by cases e)) (fun k h=>h.elim) (Zcb HH.out.kw (Ze gw3) (by simp)))
     have CD3:=Hq (Zns C3 (Ze (Zc W3 none)))
     have OF:=Hq (Ydr w0 bw bx bm B mem pd nd cd _ cF fs cl SS.out OK.out gH gT cH cT bk x2 x3 x4 x5 fin HLT.out f HFF.out ar lo r c HFN.out b' o' cc CD.out w.heap.size ⟨HH.out.lk,hKb⟩ Zde T HCP.out (fun w' kn' a hx hk ha hr=>IH.out w' kn' a hx hk ha (by have:=HNN.out;omega)) (Zde 0+1) W3.drew kn _ _ 0 XD.out HKC.out CD3.out HT0.out (Nat.lt_succ_self _))
     have ck:=Zw C3.bk_
     have cf:=Zw C3.bf
     have co:=Zw C3.bo
     rw [hF2] at co
     simp only [] at ck cf co OF
     have GW3:=Hq gw3
     have hF:=hF2.symm
     have nk:¬ (w.heap.size+1+1=bk\/w.heap.size+1+1=W1.heap.size):=by omega
     have nf:¬ (w.heap.size+1=bk\/w.heap.size+1=W1.heap.size):=by omega
     have no:¬ (w2.heap.size+1=bk\/w2.heap.size+1=W1.heap.size):=by omega
     have lAk:w.heap.size<=W1.heap.size:=by omega
     clear X1 X2 g23 z3 z0 z1 z2 zx gW3 g13 gw3 e1 r2 C3 hW3 R2 G2 XB GW1 G3 T1 T2 T3 SZ3 hsW ii0 ii1 ii2 ii3 hKb hbx hbF2 hbF
     generalize w.heap.size+1+1=Ak at *
     generalize w.heap.size+1=Af at *
     generalize w2.heap.size+1=Ao at *
     generalize W1.heap.size=Ag at *
     rename_i K hK
     refine Je (n:=5) (J:=fun a0 l a1 w1=>∃ v9 kn9,RJ a0 40 5 cm8 (Ysh Ak Af Ao bk f F v9) l a1/\WM W3.drew N Ak Af Ao Ag bk f fs.length F fin kn kn9 v9 l w1) (by kernel_rfl) rfl (Zai (by kernel_rfl)) (fun l a1 w1 h=>by obtain ⟨_,_,_,h⟩:=h;exact h.sz) ⟨0,kn,Jd rfl,Yme ck cf co⟩ ?step ?fin
     case step =>
      intro l a1 w' i hJJ hi hin
      obtain ⟨v9,kn9,hJ,hW⟩:=hJJ
      have hun:l.getD i false=false:=getD_both (mem_ready.1 hi).1
      rcases Ysi i hin with rfl|rfl|rfl|rfl|rfl
      · have e5:a1.tmps.getD 5 undef = .pointer (some ⟨Ak,0,none⟩):=hJ.un 5 (fun i hi _=>Zym 5 (by decide) i hi)
        have h0:=hW.ck
        exact Zj (Zo hW hJ rfl (by rfl) rfl (by decide) (by decide) (Zvz _ (by decide)) (w':=w') (by simp [execOp,resolve,invoke,builtin,Act.eval,e5,h0,go_sem,Ysh]) (Zws hW (by decide) (by decide) (by decide))) (fun a9 w9 h9=>⟨v9,kn9,h9⟩)
      · have e4:a1.tmps.getD 4 undef = .pointer (some ⟨Af,0,none⟩):=hJ.un 4 (fun i hi _=>Zym 4 (by decide) i hi)
        have h0:=hW.cf
        exact Zj (Zo hW hJ rfl (by rfl) rfl (by decide) (by decide) (Zvz _ (by decide)) (w':=w') (by simp [execOp,resolve,invoke,builtin,Act.eval,e4,h0,go_sem,Ysh]) (Zws hW (by decide) (by decide) (by decide))) (fun a9 w9 h9=>⟨v9,kn9,h9⟩)
      · have e11:a1.tmps.getD 11 undef = .pointer (some ⟨Ao,0,none⟩):=hJ.un 11 (fun i hi _=>Zym 11 (by decide) i hi)
        have h0:=hW.co
        exact Zj (Zo hW hJ rfl (by rfl) rfl (by decide) (by decide) (Zvz _ (by decide)) (w':=w') (by simp [execOp,resolve,invoke,builtin,Act.eval,e11,h0,go_sem,Ysh]) (Zws hW (by decide) (by decide) (by decide))) (fun a9 w9 h9=>⟨v9,kn9,h9⟩)
      · have e35:a1.tmps.getD 35 undef=F:=(Zu hJ hi 2 (by kernel_rfl))
        obtain ⟨hw0,no4⟩:=hW.h0 hun
        subst hw0
        refine Jb rfl (by rfl) (by simp [execOp,resolve,invoke,Act.eval,e35,hF,go_sem]) (OF.out.mono fun e w2 he => ?_)
        obtain ⟨v8,kn8,Z8,rfl,hv8,s8,k8,c8,m8,C8⟩:=he
        refine ⟨_,rfl,v8,kn8,?_,Ysm hW no4 s8 k8 c8 m8 hv8 nk nf no⟩
        exact Zch (val:=Ysh Ak Af Ao bk f F v8) (Zbe hJ (Xbf l hun)) (by decide) (by decide) (Zvz _ (by decide))
      · have e33:a1.tmps.getD 33 undef = .map (some bk):=(Zu hJ hi 0 (by kernel_rfl))
        have e34:a1.tmps.getD 34 undef = .int .i64 f:=(Zu hJ hi 1 (by kernel_rfl))
        have e36:a1.tmps.getD 36 undef = .int .i64 v9:=(Zu hJ hi 3 (by kernel_rfl))
        have l3:l.getD 3 false=true:=Zl hi 3 (by kernel_rfl)
        obtain ⟨c9,m9,hv9a,hv9b⟩:=hW.h1 l3
        have hkf:kn9 f=none:=Ypj m9 hf HKN.out
        obtain ⟨w5,hput,hk5,hg5⟩:=Yiv (v:=v9) (hW.ka l3 hun) hf hkf (by omega)
        exact Zj (Zdn hW hJ rfl rfl rfl (by decide) (by decide) (by simp [execOp,Act.eval,e33,e34,e36,hput,go_sem]) (Yxc hW l3 hg5 hk5 (fun e=>nk (Or.inl e)) (fun e=>nf (Or.inl e)) (fun e=>no (Or.inl e)))) (fun a9 w9 h9=>⟨v9,kn9,h9⟩)
     intro l a1 w9 hJJ hl
     obtain ⟨v9,kn9,hJ,hW⟩:=hJJ
     have hput:=Zag hJ rfl hl (fun i j h1 h2 h3=>Zvz j h2 i h1 h3)
     subst hput
     obtain ⟨c9,m9,hv9⟩:=hW.h1 (hl 3 (by decide))
     have k9:=hW.kb (hl 4 (by decide))
     have hlook:=Yrw (v:=v9) k9 hf (by simp [Zia])
     have ck:=hW.ck
     have cf:=hW.cf
     have s9:=hW.sp.size
     have q1:=World.block_lt_of_cell? _ _ ck
     have q2:=World.block_lt_of_cell? _ _ cf
     have gF:w.grownBy w9 (some bk):=Ydq GW3.out hW.sp lAk
     have GF:=Hq gF
     have K9:=Hq k9
     have C9:=Hq c9
     have M9:=Hq m9
     refine hK _ _ ?_
     simp only [Zay,cm8,Ysh,Act.put,List.setIfInBounds_toArray,List.set_cons_zero,List.set_cons_succ]
     clear hK K hJ hW hl gF k9 c9 m9 hF co OF CD3 XD s9
     go_wp2
     go_ret
     exact ⟨v9,Zia kn9 f v9,rfl,GF.out,K9.out,by simp [Zia],Yvl C9.out hv9,Yvk M9.out HKN.out⟩
def Yrm (id:Nat):Code->Option Code
 | .region i o d=>if i=id then some (.region i o d) else none
 | .seq a b=>match Yrm id a with
   | some c=>some c
   | none=>Yrm id b
 | .block _ c=>Yrm id c
 | .scope c=>Yrm id c
 | .loop c=>Yrm id c
 | .cond _ a b=>match Yrm id a with
   | some c=>some c
   | none=>Yrm id b
 | _=>none
def Zqx (id:Nat):Code->Option Code
 | .seq (.region i o d) b=>if i=id then some b else Zqx id b
 | .seq a b=>match Zqx id a with
   | some c=>some c
   | none=>Zqx id b
 | .block _ c=>Zqx id c
 | .scope c=>Zqx id c
 | .loop c=>Zqx id c
 | .cond _ a b=>match Zqx id a with
   | some c=>some c
   | none=>Zqx id b
 | _=>none
noncomputable def Ycl (f:Func) (id:Nat):Code:=(f.body.bind (Yrm id)).getD .skip
noncomputable def Zzp (f:Func) (id:Nat):Code:=(f.body.bind (Zqx id)).getD .skip
def Zct (w0:World) (bx nf:Nat) (x0 x1 x2:Value) (P:List Bool->Prop) (e:Ending) (w':World):Prop :=
 (∃ v,e = .returned v)/\w0.grownBy w' (some bx)/\∃ (gV:Nat) (V:List Bool) (ce co:Int),w'.heap[bx]? = some (.cells #[x0,x1,x2,.slice (some ⟨gV,0,none⟩) nf nf,.int .i64 ce,.int .i64 co] 35 (0,0)) /\
   w'.ownsRow w0.heap.size 4 1 (.slice (some ⟨gV,0,none⟩) nf nf) nf (V.map Value.bool)/\P V
def Ywx (w:World) (nf bk:Nat) (e:Ending) (w':World):Prop:=∃ v kn',e = .returned (.int .i64 v)/\w.grownBy w' (some bk)/\KnW w' bk nf kn'
structure LkW (w0 w:World) (bw bx bm nf gV:Nat) (mem:Int) (pd:Option Addr) (nd cd:Nat) (pF:Option Addr) (cF:Nat) (x0 x1 x2:Value) (ce co:Int) (V:List Bool):Prop where
 g:w0.grownBy w (some bx)
 xc:w.heap[bx]? = some (.cells #[x0,x1,x2,.slice (some ⟨gV,0,none⟩) nf nf,.int .i64 ce,.int .i64 co] 35 (0,0))
 r:w.ownsRow w0.heap.size 4 1 (.slice (some ⟨gV,0,none⟩) nf nf) nf (V.map Value.bool)
 bwc:w0.heap[bw]? = some (.cells #[.int .i64 mem,.slice pd nd cd,.slice pF nf cF,.pointer (some ⟨bx,0,none⟩),.map (some bm)] 71 (0,0))
 ne:bw≠bx
 lx:bx<w0.heap.size
section
variable {w0 w w':World} {bw bx bm nf gV:Nat} {mem:Int} {pd pF:Option Addr} {nd cd cF:Nat} {x0 x1 x2:Value} {ce co:Int} {V:List Bool}
theorem Zak {r:Option Nat} (H:LkW w0 w bw bx bm nf gV mem pd nd cd pF cF x0 x1 x2 ce co V) (g:w.grownBy w' r) (hr:∀ k,r=some k->w0.heap.size<=k/\k≠gV):LkW w0 w' bw bx bm nf gV mem pd nd cd pF cF x0 x1 x2 ce co V:=by
 have hlx:=H.lx
 refine ⟨?_,Zb H.xc g (fun e=>by have:=(hr bx e).1;omega),H.r.kept g (Or.inr (fun e=>(hr gV e.symm).2 rfl)),H.bwc,H.ne,H.lx⟩
 cases r with
 | none=>exact Za H.g (Zfu g)
 | some k=>exact Zds H.g g (hr k rfl).1
theorem Yvd (H:LkW w0 w bw bx bm nf gV mem pd nd cd pF cF x0 x1 x2 ce co V) (hv:bx≠gV) (c:Int):LkW w0 (w.setCell ⟨bx,5,none⟩ (.int .i64 c)) bw bx bm nf gV mem pd nd cd pF cF x0 x1 x2 ce c V :=
 ⟨Za H.g (Zh w bx 5 _),Zg H.xc,H.r.kept (Zh w bx 5 (.int .i64 c)) (Or.inr (fun e=>hv (by simp only [Value.ownBlock] at e;injection e with e;exact e.symm))),H.bwc,H.ne,H.lx⟩
theorem Ype (H:LkW w0 w bw bx bm nf gV mem pd nd cd pF cF x0 x1 x2 ce co V) (hv:bx≠gV) (c:Int):LkW w0 (w.setCell ⟨bx,4,none⟩ (.int .i64 c)) bw bx bm nf gV mem pd nd cd pF cF x0 x1 x2 c co V :=
 ⟨Za H.g (Zh w bx 4 _),Zg H.xc,H.r.kept (Zh w bx 4 (.int .i64 c)) (Or.inr (fun e=>hv (by simp only [Value.ownBlock] at e;injection e with e;exact e.symm))),H.bwc,H.ne,H.lx⟩
theorem Zpn (H:LkW w0 w bw bx bm nf gV mem pd nd cd pF cF x0 x1 x2 ce co V):w.heap[bw]? = some (.cells #[.int .i64 mem,.slice pd nd cd,.slice pF nf cF,.pointer (some ⟨bx,0,none⟩),.map (some bm)] 71 (0,0)):=Zb H.bwc H.g (by intro e;injection e with e;exact H.ne e.symm)
theorem Zpm (H:LkW w0 w bw bx bm nf gV mem pd nd cd pF cF x0 x1 x2 ce co V):w0.heap.size<=gV/\gV<w.heap.size:=H.r.lt gV rfl
theorem Zlp {P:List Bool->Prop} (H:LkW w0 w bw bx bm nf gV mem pd nd cd pF cF x0 x1 x2 ce co V) (hP:P V) (v:Value):Zct w0 bx nf x0 x1 x2 P (.returned v) w:=⟨⟨v,rfl⟩,H.g,gV,V,ce,co,H.xc,H.r,hP⟩
end
def lkF (bw nf:Nat) (t:Nat->Value):Act:=⟨#[.pointer (some ⟨bw,0,none⟩),t 1,.int .i64 nf,t 3,t 4,t 5,t 6,t 7,t 8,t 9,t 10,t 11,t 12,t 13,t 14,t 15,t 16,t 17,t 18,t 19,t 20,t 21,t 22,t 23,t 24,t 25,t 26,t 27,t 28,t 29,t 30,t 31,t 32,t 33,t 34,t 35,t 36,t 37,t 38,t 39,t 40,t 41,t 42,t 43,t 44,t 45,t 46,t 47,t 48,t 49,t 50,t 51,t 52,t 53,t 54,t 55,t 56,t 57,t 58,t 59,t 60,t 61,t 62,t 63,t 64,t 65,t 66,t 67,t 68,t 69,t 70,t 71,t 72,t 73,t 74,t 75,t 76,t 77,t 78,t 79,t 80,t 81,t 82,t 83,t 84,t 85,t 86,t 87,t 88,t 89,t 90,t 91,t 92,t 93,t 94,t 95,t 96,t 97,t 98,t 99,t 100,t 101,t 102,t 103,t 104,t 105,t 106,t 107,t 108,t 109,t 110,t 111,t 112,t 113,t 114,t 115,t 116,t 117,t 118,t 119,t 120,t 121,t 122,t 123,t 124,t 125,t 126,t 127,t 128,t 129,t 130,t 131,t 132,t 133,t 134,t 135,t 136,t 137,t 138,t 139,t 140,t 141,t 142,t 143,t 144,t 145,t 146,t 147,t 148,t 149,t 150,t 151,t 152,t 153,t 154,t 155,t 156,t 157,t 158,t 159,t 160,t 161,t 162,t 163,t 164,t 165,t 166,t 167,t 168,t 169,t 170,t 171,t 172,t 173,t 174,t 175,t 176,t 177],[]⟩
structure Xby (bw nf:Nat) (a:Act):Prop where
 sz:a.tmps.size=178
 df:a.defers=[]
 s0:a.tmps.getD 0 undef = .pointer (some ⟨bw,0,none⟩)
 s2:a.tmps.getD 2 undef = .int .i64 nf
theorem Yir {bw nf:Nat} {a:Act} (H:Xby bw nf a):a=lkF bw nf (fun i=>a.tmps.getD i undef):=by
 refine Zki H.sz H.df fun j hj => ?_
 have hs:=H.sz
 rw [hs] at hj
 unfold tm
 rcases j with _|j
 · exact H.s0
 iterate 1 (rcases j with _|j;· rfl)
 rcases j with _|j
 · exact H.s2
 iterate 175 (rcases j with _|j;· rfl)
 omega
theorem Xag (w0 w:World) (bw bx bm nf gV:Nat) (mem:Int) (pd:Option Addr) (nd cd:Nat) (pF:Option Addr) (cF:Nat) (x0 x1 x2:Value) (ce co:Int) (V:List Bool) (P:List Bool->Prop) (hP:P V) (H:LkW w0 w bw bx bm nf gV mem pd nd cd pF cF x0 x1 x2 ce co V)
 (h64:nf<=64) (hco:∀ (w:World) (bk:Nat),LkW w0 w bw bx bm nf gV mem pd nd cd pF cF x0 x1 x2 ce co V->KnW w bk nf (fun _=>none)->w0.heap.size<=bk->bk≠gV->Calls Try.prog 46 #[.pointer (some ⟨bw,0,none⟩),.int .i64 0,.map (some bk)] w (Ywx w nf bk)) (a:Act) (ha:Xby bw nf a) (K:Act->World->Prop) (hK:∀ a w,Code.wp Try.prog (Zzp Try.f26 27) (bodyPost Try.prog Try.f26 (Zct w0 bx nf x0 x1 x2 P)) a w->K a w) :
 Code.wp Try.prog (Ycl Try.f26 27) (Exit.then K (bodyPost Try.prog Try.f26 (Zct w0 bx nf x0 x1 x2 P))) a w:=by
 rw [Yir ha]
 generalize (fun i=>a.tmps.getD i undef)=t
 clear ha
 have HH:=Hq H
 have HP:=Hq hP
 have hlv:=Zpm H
 have hlx:=H.lx
 have hsz:=H.g.size
 clear H hP
 unfold lkF
 generalize t 1=u,t 3=u,t 4=u,t 5=u,t 6=u,t 7=u,t 8=u,t 9=u,t 10=u,t 11=u,t 12=u,t 13=u,t 14=u,t 15=u,t 16=u,t 17=u,t 18=u,t 19=u,t 20=u,t 21=u,t 22=u,t 23=u,t 24=u,t 25=u,t 26=u,t 27=u,t 28=u,t 29=u,t 30=u,t 31=u,t 32=u,t 33=u,t 34=u,t 35=u,t 36=u,t 37=u,t 38=u,t 39=u,t 40=u,t 41=u,t 42=u,t 43=u,t 44=u,t 45=u,t 46=u,t 47=u,t 48=u,t 49=u,t 50=u,t 51=u,t 52=u,t 53=u,t 54=u,t 55=u,t 56=u,t 57=u,t 58=u,t 59=u,t 60=u,t 61=u,t 62=u,t 63=u,t 64=u,t 65=u,t 66=u,t 67=u,t 68=u,t 69=u,t 70=u,t 71=u,t 72=u,t 73=u,t 74=u,t 75=u,t 76=u,t 77=u,t 78=u,t 79=u,t 80=u,t 81=u,t 82=u,t 83=u,t 84=u,t 85=u,t 86=u,t 87=u,t 88=u,t 89=u,t 90=u,t 91=u,t 92=u,t 93=u,t 94=u,t 95=u,t 96=u,t 97=u,t 98=u,t 99=u,t 100=u,t 101=u,t 102=u,t 103=u,t 104=u,t 105=u,t 106=u,t 107=u,t 108=u,t 109=u,t 110=u,t 111=u,t 112=u,t 113=u,t 114=u,t 115=u,t 116=u,t 117=u,t 118=u,t 119=u,t 120=u,t 121=u,t 122=u,t 123=u,t 124=u,t 125=u,t 126=u,t 127=u,t 128=u,t 129=u,t 130=u,t 131=u,t 132=u,t 133=u,t 134=u,t 135=u,t 136=u,t 137=u,t 138=u,t 139=u,t 140=u,t 141=u,t 142=u,t 143=u,t 144=u,t 145=u,t 146=u,t 147=u,t 148=u,t 149=u,t 150=u,t 151=u,t 152=u,t 153=u,t 154=u,t 155=u,t 156=u,t 157=u,t 158=u,t 159=u,t 160=u,t 161=u,t 162=u,t 163=u,t 164=u,t 165=u,t 166=u,t 167=u,t 168=u,t 169=u,t 170=u,t 171=u,t 172=u,t 173=u,t 174=u,t 175=u,t 176=u,t 177=u
 clear t
 conv=>arg 2;whnf
 have hmm := @run_makeMap Try.prog
 go_wp2
 try clear K
 conv=>arg 2;whnf
 have H1:=Zak HH.out (Ga w (.map #[] 0) none) (fun k e=>by cases e)
 have HH1:=Hq H1
 have CO:=Hq (hco _ w.heap.size H1 (Yal w h64) hsz (by omega))
 clear H1 hco
 go_wp2_with (first
  | (go_at_call 46;refine CO.out.mono ?_;rintro e w2 ⟨v,kn,rfl,g2,k2⟩;have H2:=Zak HH1.out g2 (fun k e=>by injection e with e;omega);have HH2:=Hq H2;have KN2:=Hq k2;have hs2:=H2.g.size;have hl2:=(Zpm H2).2;clear g2 k2 H2)
  | (at_range;obtain ⟨-,n,D,h1,-⟩:=KN2.out;refine wpList_range_own _ rfl _ 94 rfl 3 3 Ypn Try.underlying94 _ w.heap.size n D rfl h1 ?_;intro w3 hrg hg hs;have HH3:=Hq (Zak HH2.out hg (fun k e=>by cases e));clear h1 hg hs))
 go_frame
 generalize hbk:w.heap.size=bk at *
 clear hbk
 go_loopw [14] (fun _ wr=>∃ (left:Lit->Bool) (cnt:Nat),wr.ranges Try.prog 3 (plainElem Try.prog 3) bk w2.heap.size n D left cnt/\LkW w0 wr bw bx bm nf gV mem pd nd cd pF cF x0 x1 x2 ce co V) (fun _ wr=>wr.rangeLeft bk w2.heap.size)
 case atStart=>exact ⟨_,_,hrg,HH3.out⟩
 case round =>
  obtain ⟨left,cnt,hrg1,hW⟩:=hrel
  have HW:=Hq hW
  have hwl:=(Zpm hW).2
  clear hW hrg
  go_wp2_with (at_next;refine wpList_next_ranges_ii _ rfl _ rfl 3 3 .i64 .i64 Ypn Try.underlying3 Try.underlying3 bk w2.heap.size n _ _ _ rfl hrg1 ?_ ?_)
  · intro _ hl0
    have kb:=Zpn HW.out
    have b3:=Cq _ _ 3 _ _ _ kb
    have j5:=Cq _ _ 5 _ _ _ HW.out.xc
    have z5:=frozen_of_row _ _ 5 _ _ HW.out.xc
    have s1:=(Gs kb)
    have s2:=(Gs HW.out.xc)
    have FIN:=Hq (Yvd HW.out (by omega) v)
    clear kb hrg1
    go_wp2
    refine bodyPost_end0 rfl rfl ?_
    exact Zlp FIN.out HP.out _
  · intro x c w2 cnt1 hwx hwc hlx2 hat hrg2 hlt hg2 hs2 hen
    have HW2:=Hq (Zak HW.out hg2 (fun k e=>by injection e with e;have:=hlv.2;omega))
    by_cases hc:1099511627776<c
    · clear hat hrg2 hrg1
      go_wp2
      refine bodyPost_end0 rfl rfl ?_
      exact Zlp HW2.out HP.out _
    · have HRG2:=Hq hrg2
      have HRG1:=Hq hrg1
      have HLT:=Hq hlt
      clear hat hrg2 hrg1 hlt
      go_wp2
      go_roundw
      case rel=>exact ⟨_,cnt1,HRG2.out,HW2.out⟩
      case measure=>rw [HRG2.out.left_eq,HRG1.out.left_eq];exact HLT.out
end Go.Proofs.Ythlkflagancdfaa.CK
