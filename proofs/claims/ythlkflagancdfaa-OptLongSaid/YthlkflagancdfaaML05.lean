/-
  Part of a proof: contracts of functions and lemmas, each stated by its own theorem. Conditions: as each theorem states.
-/
import Derived.Test.YthlkflagancdfaaML04
import Derived.Laws.EntriesVeiled
import Derived.Deep.RegionHeld3
import Derived.Outline
import Derived.Test.YthlkflagancdfaaML02
import Derived.Maps.RangeWalk
import Derived.Deep.OwnRows
set_option linter.unusedSimpArgs false
set_option linter.unusedVariables false
set_option maxRecDepth 100000
set_option maxHeartbeats 16000000
namespace Go.Proofs.Ythlkflagancdfaa.CK
open Go.RowKit Go.Great Go.Maps
def cm8:Nat->Nat
 | 0=>33
 | 1=>34
 | 2=>35
 | 3=>36
 | 4=>1004
 | _=>5000
theorem Zva:∀ i,i<5->∀ j,j<5->j≠i->cm8 j≠cm8 i:=by decide
theorem Ype (i:Nat) (h:i<5):i=0\/i=1\/i=2\/i=3\/i=4:=by omega
theorem Zxo (j:Nat) (hj:j∈[4,5,11]):∀ i,i<5->cm8 i≠j:=by revert j;decide
def Ypd (Ak Af Ao bk f:Nat) (F:Value) (v9:Int):Nat->Value
 | 0 => .map (some bk)
 | 1 => .int .i64 f
 | 2=>F
 | 3 => .int .i64 v9
 | 4=>undef
 | _=>undef
theorem Yxz {Ak Af Ao bk f:Nat} {F:Value} {v8 v9:Int} (l:Array Bool) (hun:l.getD 3 false=false):∀ i,i<5->l.getD i false=true->cm8 i<40->Ypd Ak Af Ao bk f F v8 i=Ypd Ak Af Ao bk f F v9 i:=by
 intro i hi hl _
 rcases Ype i hi with rfl|rfl|rfl|rfl|rfl <;> first|rfl|(rw [hun] at hl;cases hl)
theorem Ymq {fin:List Nat} {nf f:Nat} {kn kn9:Nat->Option Int} (h:KnM fin nf kn kn9 (rk fin f)) (hf:f<nf) (hk:kn f=none):kn9 f=none:=by
 cases h9:kn9 f with
 | none=>rfl
 | some v =>
   rcases h.2 f hf (by rw [h9];simp) with h1|h1
   · exact absurd hk h1
   · omega
structure WM (W:World) (base Ak Af Ao Ag bk f nf:Nat) (F:Value) (fin:List Nat) (kn kn9:Nat->Option Int) (v9:Int) (l:Array Bool) (w:World):Prop where
 sz:l.size=5
 h0:l.getD 3 false=false->w=W/\l.getD 4 false=false
 h1:l.getD 3 false=true->KnC nf kn9/\KnM fin nf kn kn9 (rk fin f)/\0<=v9/\v9<=1099511627777
 ka:l.getD 3 false=true->l.getD 4 false=false->KnW w bk nf kn9
 kb:l.getD 4 false=true->KnW w bk nf (Zhv kn9 f v9)
 sp:Sp (fun k=>k=bk\/k=Ag) W w
 ck:w.cell? ⟨Ak,0,none⟩=some (.map (some bk))
 cf:w.cell? ⟨Af,0,none⟩=some (.int .i64 (f:Int))
 co:w.cell? ⟨Ao,0,none⟩=some F
section
variable {W w w':World} {base Ak Af Ao Ag bk f nf:Nat} {F:Value} {fin:List Nat} {kn kn9:Nat->Option Int} {v9:Int} {l:Array Bool}
theorem Zvu {i:Nat} (h:WM W base Ak Af Ao Ag bk f nf F fin kn kn9 v9 l w) (hi:i<5) (h3:i≠3) (h4:i≠4):WM W base Ak Af Ao Ag bk f nf F fin kn kn9 v9 (l.setIfInBounds i true) w:=by
 have g3:(l.setIfInBounds i true).getD 3 false=l.getD 3 false:=by rw [Yc l i 3 (by rw [h.sz];exact hi),if_neg (Ne.symm h3)]
 have g4:(l.setIfInBounds i true).getD 4 false=l.getD 4 false:=by rw [Yc l i 4 (by rw [h.sz];exact hi),if_neg (Ne.symm h4)]
 exact ⟨by simp [h.sz],fun e=>(by rw [g3] at e;rw [g4];exact h.h0 e),fun e=>h.h1 (by rw [<- g3];exact e),fun e e4=>h.ka (by rw [<- g3];exact e) (by rw [<- g4];exact e4),fun e=>h.kb (by rw [<- g4];exact e),h.sp,h.ck,h.cf,h.co⟩
theorem Yjt (ck:W.cell? ⟨Ak,0,none⟩=some (.map (some bk))) (cf:W.cell? ⟨Af,0,none⟩=some (.int .i64 (f:Int))) (co:W.cell? ⟨Ao,0,none⟩=some F):WM W base Ak Af Ao Ag bk f nf F fin kn kn9 v9 (Array.replicate 5 false) W :=
 ⟨by simp,fun _=>⟨rfl,by rw [getD_replicate_false]⟩,fun h=>(by rw [getD_replicate_false] at h;cases h),fun h=>(by rw [getD_replicate_false] at h;cases h),fun h=>(by rw [getD_replicate_false] at h;cases h),Zpx _ _,ck,cf,co⟩
theorem Yph {kn8:Nat->Option Int} {v8:Int} (h:WM W base Ak Af Ao Ag bk f nf F fin kn kn9 v9 l W) (hun:l.getD 4 false=false) (g:Sp (fun k=>k=bk\/k=Ag) W w') (k:KnW w' bk nf kn8) (c:KnC nf kn8) (m:KnM fin nf kn kn8 (rk fin f)) (hv:0<=v8/\v8<=1099511627777)
 (n1:¬ (Ak=bk\/Ak=Ag)) (n2:¬ (Af=bk\/Af=Ag)) (n3:¬ (Ao=bk\/Ao=Ag)):WM W base Ak Af Ao Ag bk f nf F fin kn kn8 v8 (l.setIfInBounds 3 true) w':=by
 have g4:(l.setIfInBounds 3 true).getD 4 false=false:=by rw [Yc l 3 4 (by rw [h.sz];decide),if_neg (by decide)];exact hun
 exact ⟨by simp [h.sz],fun e=>(by rw [Yc l 3 3 (by rw [h.sz];decide),if_pos rfl] at e;cases e),fun _=>⟨c,m,hv⟩,fun _ _=>k,fun e=>(by rw [g4] at e;cases e),g,Zfs h.ck g n1,Zfs h.cf g n2,Zfs h.co g n3⟩
theorem Ytt (h:WM W base Ak Af Ao Ag bk f nf F fin kn kn9 v9 l w) (l3:l.getD 3 false=true) (g:w.grownBy w' (some bk)) (k:KnW w' bk nf (Zhv kn9 f v9)) (n1:Ak≠bk) (n2:Af≠bk) (n3:Ao≠bk):WM W base Ak Af Ao Ag bk f nf F fin kn kn9 v9 (l.setIfInBounds 4 true) w':=by
 have g3:(l.setIfInBounds 4 true).getD 3 false=true:=by rw [Yc l 4 3 (by rw [h.sz];decide),if_neg (by decide)];exact l3
 have g4:(l.setIfInBounds 4 true).getD 4 false=true:=by rw [Yc l 4 4 (by rw [h.sz];decide),if_pos rfl]
 have nn:∀ {x:Nat},x≠bk->(some x:Option Nat)≠some bk:=fun h e=>h (by injection e)
 refine ⟨by simp [h.sz],fun e=>(by rw [g3] at e;cases e),fun _=>h.h1 l3,fun _ e=>(by rw [g4] at e;cases e),fun _=>k,Xc h.sp (Yl (P:=fun k=>k=bk\/k=Ag) g (fun q _ e=>by injection e with e;exact Or.inl e.symm)) (fun _ _ h=>h),g.cell h.ck (nn n1),g.cell h.cf (nn n2),g.cell h.co (nn n3)⟩
end
theorem Ycc {w W3 w9:World} {bk Ag:Nat} (h:w.grownBy W3 none) (g:Sp (fun k=>k=bk\/k=Ag) W3.drew w9) (hA:w.heap.size<=Ag):w.grownBy w9 (some bk):=by
 have h2:=Zd h
 have hs:=h2.size
 exact ⟨g.os.trans h2.os,g.tape.trans h2.tape,g.output.trans h2.output,Nat.le_trans h2.size g.size,fun b hb hr=>by rw [g.block b (by omega) (fun e=>by rcases e with e|e;exact hr (by rw [e]);omega)];exact h2.block b hb (by simp)⟩
theorem Ysf {nf f:Nat} {kn:Nat->Option Int} {v:Int} (h:KnC nf kn) (hv:0<=v/\v<=1099511627777):KnC nf (Zhv kn f v):=fun x hx u hu=>by
 by_cases e:x=f
 · subst e
   have:u=v:=by simpa [Zhv] using hu.symm
   rw [this];exact hv
 · exact h x hx u (by simpa [Zhv,e] using hu)
theorem Yse {fin:List Nat} {nf f:Nat} {kn kn9:Nat->Option Int} {v:Int} (h:KnM fin nf kn kn9 (rk fin f)) (hk:kn f=none):KnM fin nf kn (Zhv kn9 f v) (rk fin f+1):=by
 refine ⟨fun x u hu => ?_,fun x hx hne => ?_⟩
 · by_cases e:x=f
   · subst e;rw [hk] at hu;cases hu
   · simpa [Zhv,e] using h.1 x u hu
 · by_cases e:x=f
   · subst e;right;omega
   · rcases h.2 x hx (by simpa [Zhv,e] using hne) with h1|h1
     · exact Or.inl h1
     · exact Or.inr (by omega)
theorem Yjo (n:Nat) (j:Nat):0<=(List.replicate n (0:Int)).getD j 0/\(List.replicate n (0:Int)).getD j 0<=1099511627777:=by
 have:(List.replicate n (0:Int)).getD j 0=0:=by
  rw [List.getD_eq_getElem?_getD,List.getElem?_replicate]
  split <;> rfl
 rw [this];decide
theorem Ynj (w0:World) (bw bx bm B:Nat) (mem:Int) (pd:Option Addr) (nd cd:Nat) (pF:Option Addr) (cF:Nat) (fs:List FnP) (cl:Nat->List Nat) (S:St w0 bw bx bm B mem pd nd cd pF cF fs cl) (hok:Zkj fs) (gH gT cH cT bk:Nat) (x2 x3 x4 x5:Value) (fin:List Nat) (hlt:∀ x∈fin,x<fs.length)
 (hpl:∀ f∈fin,∀ (ar lo r:Int) (c:List (Int × Int)),fs[f]? = some (ar,lo,r,c)->∃ (Zdd:Nat->Nat) (T:Nat->Prop),T 0/\CoP fin f c Zdd T) (N:Nat) :
 ∀ (w:World) (kn:Nat->Option Int) (f:Nat),XW w0 w bx gH gT fs.length cH cT bk x2 x3 x4 x5 kn->KnC fs.length kn->f∈fin->rk fin f<N->Calls Try.prog 46 #[.pointer (some ⟨bw,0,none⟩),.int .i64 f,.map (some bk)] w (Ypg w fs.length bk fin kn f):=by
 induction N with
 | zero=>intro w kn f H hKC hff hN;omega
 | succ N ih =>
   intro w kn f H hKC hff hN
   have hf:=hlt f hff
   have g3:=Xg w (.cells #[.pointer (some ⟨bw,0,none⟩)] 67) (.cells #[.int .i64 f] 3) (.cells #[.map (some bk)] 94)
   have hlook:=Yop (Zcc H.kw g3 (by simp)) hf
   have hKb:=Yxi H.kw
   obtain ⟨t1,t2,t3⟩:=Xf w (.cells #[.pointer (some ⟨bw,0,none⟩)] 67) (.cells #[.int .i64 f] 3) (.cells #[.map (some bk)] 94)
   cases hk:kn f with
   | some v =>
     rw [hk] at hlook
     simp only [Option.getD_some,Option.isSome_some] at hlook
     have HH:=Hq H
     have HK:=Hq hk
     have HB:=Hq hKC
     have HG:=Hq g3
     clear S H hKC ih hk hlt hpl hok g3 t1 t2 t3
     go_enter Try.func46,Try.ntmps46
     go_wp2
     go_ret
     exact ⟨v,kn,rfl,Zfi HG.out,Zcc HH.out.kw HG.out (by simp),HK.out,HB.out,fun x u h=>h,fun x _ h=>Or.inl h⟩
   | none =>
     rw [hk] at hlook
     simp only [Option.getD_none,Option.isSome_none] at hlook
     have hlx:=S.lx
     have hbx:=S.bx_
     have hszw:=H.g.size
     have kb:=Zb S.bwc H.g (by intro e;injection e with e;exact S.ne1 e.symm)
     have b2:=Cq _ _ 2 _ _ _ (Zb kb g3 (by simp))
     have sb:=(Gs kb)
     obtain ⟨⟨ar,lo,r,c⟩,hfn⟩:∃ fn,fs[f]? = some fn:=⟨_,List.getElem?_eq_getElem hf⟩
     obtain ⟨hn1,hn2⟩:=hok.len _ (List.mem_of_getElem? hfn)
     simp only [] at hn1 hn2
     obtain ⟨bF,oF,hpF,hbF,hcF⟩:=S.hF (by omega)
     obtain ⟨-,-,-,pc,cc,e3,hcode⟩:=hcF f ar lo r c hfn
     obtain ⟨b',o',hpc,hb',hcc⟩:=hcode (by omega)
     subst hpc
     subst hpF
     have CDC:Yyl w0 B c b' o':=⟨hb',fun i op a h=>hcc i op a h⟩
     have e3w:=g3.cell (H.g.cell e3 (by intro e;injection e with e;have e2:bF=bx:=e;omega)) (by simp)
     have hfi:(f:Int)<(fs.length:Int):=by omega
     have hbF2:bF<w.heap.size:=by omega
     obtain ⟨Zdd,T,hT0,hCP⟩:=hpl f hff ar lo r c hfn
     have c1:=Cq _ _ 0 _ _ _ t1
     have c2:=Cq _ _ 0 _ _ _ t2
     have c3:=Cq _ _ 0 _ _ _ t3
     have sz3:(((w.alloc (.cells #[.pointer (some ⟨bw,0,none⟩)] 67)).alloc (.cells #[.int .i64 f] 3)).alloc (.cells #[.map (some bk)] 94)).heap.size=w.heap.size+3:=by simp
     have SS:=Hq S
     have HH:=Hq H
     have HKN:=Hq hk
     have HKC:=Hq hKC
     have IH:=Hq ih
     have HFN:=Hq hfn
     have HFF:=Hq hff
     have HNN:=Hq hN
     have HLT:=Hq hlt
     have HPL:=Hq hpl
     have OK:=Hq hok
     have CD:=Hq CDC
     have HCP:=Hq hCP
     have HT0:=Hq hT0
     have G3:=Hq g3
     have T1:=Hq t1
     have T2:=Hq t2
     have T3:=Hq t3
     have SZ3:=Hq sz3
     clear S H ih hk hKC hff hN hfn hlt hpl hok CDC hCP hT0 g3 t1 t2 t3 sz3 kb hcF hcode hcc e3
     go_enter Try.func46,Try.ntmps46
     go_wp2
     clear hlook
     have sz3:=SZ3.out
     generalize ((w.alloc (.cells #[.pointer (some ⟨bw,0,none⟩)] 67)).alloc (.cells #[.int .i64 f] 3)).alloc (.cells #[.map (some bk)] 94)=W at *
     have l1:w.heap.size<W.heap.size:=by omega
     have l2:w.heap.size+1<W.heap.size:=by omega
     have l3:bw<W.heap.size:=by omega
     have l4:bF<W.heap.size:=by omega
     clear sz3
     have m1:=World.new_ne W ⟨w.heap.size,0,none⟩ c1
     have m2:=World.new_ne W ⟨bw,2,none⟩ b2
     have m3:=World.new_ne W ⟨w.heap.size+1,0,none⟩ c2
     have m4:=World.new_ne W ⟨bF,oF+f*4+3,none⟩ e3w
     go_region_held3 (fun W'=>W'.cell? ⟨w.heap.size,0,none⟩=some (.pointer (some ⟨bw,0,none⟩))/\W'.cell? ⟨bw,2,none⟩=some (.slice (some ⟨bF,oF,none⟩) fs.length cF)/\W'.cell? ⟨w.heap.size+1,0,none⟩=some (.int .i64 f)/\W'.cell? ⟨bF,oF+f*4+3,none⟩=some (.slice (some ⟨b',o',none⟩) c.length cc)) (go_keep) (fail)
     rename_i hHeld
     clear m1 m2 m3 m4 hHeld l1 l2 l3 l4 b2 e3w c1 c2 c3
     have GW1:=Hq (Zd (Ga W (.cells #[.slice (some ⟨b',o',none⟩) c.length cc] 50) none))
     have XB:=Hq (show (W.alloc (.cells #[.slice (some ⟨b',o',none⟩) c.length cc] 50)).drew.heap[W.heap.size]? = some (.cells #[.slice (some ⟨b',o',none⟩) c.length cc] 50 (0,0)) from heap_alloc_new W (.cells #[.slice (some ⟨b',o',none⟩) c.length cc] 50))
     have s9:W.heap.size<(W.alloc (.cells #[.slice (some ⟨b',o',none⟩) c.length cc] 50)).drew.heap.size:=by simp
     have c9:=Cq (W.alloc (.cells #[.slice (some ⟨b',o',none⟩) c.length cc] 50)).drew _ 0 _ _ _ (heap_alloc_new W (.cells #[.slice (some ⟨b',o',none⟩) c.length cc] 50))
     generalize (W.alloc (.cells #[.slice (some ⟨b',o',none⟩) c.length cc] 50)).drew=W1 at *
     obtain ⟨ii,ii0,ii1,ii2,ii3⟩:=info_parts Zat
     have hk1:ii.bytes*c.length<=281474976710656:=by rw [ii3];omega
     have hk3:c.length<=maxLen:=by unfold maxLen;omega
     have hsW:w.heap.size<=W1.heap.size:=by have:=SZ3.out;omega
     have hnc:(c.length:Int)<=4096:=by omega
     go_upto_region 8 with (refine wpList_make_full _ rfl _ _ 32 rfl w.heap.size 3 ii (.int .i64 0) 1 Zbw ii0 ii1 ii2 .i64 .i64 _ _ c.length rfl rfl rfl rfl hk1 hk3 hsW ?_;intro w2 hr2 hg2;have R2:=Hq hr2;have G2:=Hq hg2;clear hr2 hg2)
     clear c9 s9 hk1 hk3 hnc
     obtain ⟨W3,hW3⟩:∃ W3,W3=((w2.alloc (.cells #[.slice (some ⟨W1.heap.size,0,none⟩) c.length c.length] 32)).alloc (.cells #[.func (.func 65) #[] #[.pointer (some ⟨w2.heap.size,0,none⟩),.pointer (some ⟨W.heap.size,0,none⟩),.pointer (some ⟨w.heap.size,0,none⟩),.pointer (some ⟨w.heap.size+1+1,0,none⟩),.pointer (some ⟨w.heap.size+1,0,none⟩),.pointer (some ⟨w2.heap.size+1,0,none⟩)]] 128)):=⟨_,rfl⟩
     rw [<- hW3]
     have X1:=Yt w2 (.cells #[.slice (some ⟨W1.heap.size,0,none⟩) c.length c.length] 32) (.cells #[.func (.func 65) #[] #[.pointer (some ⟨w2.heap.size,0,none⟩),.pointer (some ⟨W.heap.size,0,none⟩),.pointer (some ⟨w.heap.size,0,none⟩),.pointer (some ⟨w.heap.size+1+1,0,none⟩),.pointer (some ⟨w.heap.size+1,0,none⟩),.pointer (some ⟨w2.heap.size+1,0,none⟩)]] 128)
     have X2:=Yi w2 (.cells #[.slice (some ⟨W1.heap.size,0,none⟩) c.length c.length] 32) (.cells #[.func (.func 65) #[] #[.pointer (some ⟨w2.heap.size,0,none⟩),.pointer (some ⟨W.heap.size,0,none⟩),.pointer (some ⟨w.heap.size,0,none⟩),.pointer (some ⟨w.heap.size+1+1,0,none⟩),.pointer (some ⟨w.heap.size+1,0,none⟩),.pointer (some ⟨w2.heap.size+1,0,none⟩)]] 128)
     rw [<- hW3] at X1 X2
     have g23:w2.grownBy W3 none:=by rw [hW3];exact Za (Ga _ _ _) (Ga _ _ _)
     have z3:W3.heap.size=w2.heap.size+2:=by rw [hW3];simp
     have z0:=SZ3.out
     have z1:=GW1.out.size
     have z2:=R2.out.lt W1.heap.size rfl
     have zx:=(Gs XB.out)
     have gW3:=Za GW1.out (Za G2.out g23)
     have g13:=Za G2.out g23
     have gw3:=Za G3.out gW3
     have e1:(madeCells (Value.int .i64 0).cells (c.length*1)).toList=(List.replicate c.length (0:Int)).map (Value.int .i64):=by rw [Nat.mul_one];exact (toList_madeCells_one _ _).trans (by rw [List.map_replicate])
     have r2:=R2.out
     rw [e1] at r2
     generalize hF2:Value.func (.func 65) #[] #[.pointer (some ⟨w2.heap.size,0,none⟩),.pointer (some ⟨W.heap.size,0,none⟩),.pointer (some ⟨w.heap.size,0,none⟩),.pointer (some ⟨w.heap.size+1+1,0,none⟩),.pointer (some ⟨w.heap.size+1,0,none⟩),.pointer (some ⟨w2.heap.size+1,0,none⟩)]=F at X2 hW3 ⊢
     have C3:CoB w.heap.size W3 ⟨w.heap.size,w.heap.size+1,w.heap.size+1+1,W.heap.size,w2.heap.size,w2.heap.size+1,W1.heap.size⟩ bw bk f c.length (.slice (some ⟨b',o',none⟩) c.length cc) (List.replicate c.length 0) :=
      ⟨by simp only [];omega,by simp only [];omega,Zb T1.out gW3 (by simp),Zb T2.out gW3 (by simp),Zb T3.out gW3 (by simp),Zb XB.out g13 (by simp),X1,by rw [<- hF2] at X2;exact X2,r2.kept g23 (Classical.em _),Yjo _⟩
     have XD:=Hq (Ycx (P:=fun _=>False) HH.out hlx (Yl (Zd gw3) (fun k _ e=>by cases e)) (fun k h=>h.elim) (Zcc HH.out.kw (Zd gw3) (by simp)))
     have CD3:=Hq (Znf C3 (Zd (Zc W3 none)))
     have OF:=Hq (Ycd w0 bw bx bm B mem pd nd cd _ cF fs cl SS.out OK.out gH gT cH cT bk x2 x3 x4 x5 fin HLT.out f HFF.out ar lo r c HFN.out b' o' cc CD.out w.heap.size ⟨HH.out.lk,hKb⟩ Zdd T HCP.out (fun w' kn' a hx hk ha hr=>IH.out w' kn' a hx hk ha (by have:=HNN.out;omega)) (Zdd 0+1) W3.drew kn _ _ 0 XD.out HKC.out CD3.out HT0.out (Nat.lt_succ_self _))
     have ck:=Zt C3.bk_
     have cf:=Zt C3.bf
     have co:=Zt C3.bo
     rw [hF2] at co
     simp only [] at ck cf co OF
     have GW3:=Hq gw3
     have hF:=hF2.symm
     have nk:¬ (w.heap.size+1+1=bk\/w.heap.size+1+1=W1.heap.size):=by omega
     have nf:¬ (w.heap.size+1=bk\/w.heap.size+1=W1.heap.size):=by omega
     have no:¬ (w2.heap.size+1=bk\/w2.heap.size+1=W1.heap.size):=by omega
     have lAk:w.heap.size<=W1.heap.size:=by omega
     clear X1 X2 g23 z3 z0 z1 z2 zx gW3 g13 gw3 e1 r2 C3 hW3 R2 G2 XB GW1 G3 T1 T2 T3 SZ3 hsW ii0 ii1 ii2 ii3 hKb hbx hbF2 hbF
     generalize w.heap.size+1+1=Ak at *
     generalize w.heap.size+1=Af at *
     generalize w2.heap.size+1=Ao at *
     generalize W1.heap.size=Ag at *
     rename_i K hK
     refine Xe (n:=5) (J:=fun a0 l a1 w1=>∃ v9 kn9,RJ a0 40 5 cm8 (Ypd Ak Af Ao bk f F v9) l a1/\WM W3.drew N Ak Af Ao Ag bk f fs.length F fin kn kn9 v9 l w1) (by kernel_rfl) rfl (Jh (by kernel_rfl)) (fun l a1 w1 h=>by obtain ⟨_,_,_,h⟩:=h;exact h.sz) ⟨0,kn,Xd rfl,Yjt ck cf co⟩ ?step ?fin
     case step =>
      intro l a1 w' i hJJ hi hin
      obtain ⟨v9,kn9,hJ,hW⟩:=hJJ
      have hun:l.getD i false=false:=getD_both (mem_ready.1 hi).1
      rcases Ype i hin with rfl|rfl|rfl|rfl|rfl
      · have e5:a1.tmps.getD 5 undef = .pointer (some ⟨Ak,0,none⟩):=hJ.un 5 (fun i hi _=>Zxo 5 (by decide) i hi)
        have h0:=hW.ck
        exact Zj (Zp hW hJ rfl (by rfl) rfl (by decide) (by decide) (Zva _ (by decide)) (w':=w') (by simp [execOp,resolve,invoke,builtin,Act.eval,e5,h0,go_sem,Ypd]) (Zvu hW (by decide) (by decide) (by decide))) (fun a9 w9 h9=>⟨v9,kn9,h9⟩)
      · have e4:a1.tmps.getD 4 undef = .pointer (some ⟨Af,0,none⟩):=hJ.un 4 (fun i hi _=>Zxo 4 (by decide) i hi)
        have h0:=hW.cf
        exact Zj (Zp hW hJ rfl (by rfl) rfl (by decide) (by decide) (Zva _ (by decide)) (w':=w') (by simp [execOp,resolve,invoke,builtin,Act.eval,e4,h0,go_sem,Ypd]) (Zvu hW (by decide) (by decide) (by decide))) (fun a9 w9 h9=>⟨v9,kn9,h9⟩)
      · have e11:a1.tmps.getD 11 undef = .pointer (some ⟨Ao,0,none⟩):=hJ.un 11 (fun i hi _=>Zxo 11 (by decide) i hi)
        have h0:=hW.co
        exact Zj (Zp hW hJ rfl (by rfl) rfl (by decide) (by decide) (Zva _ (by decide)) (w':=w') (by simp [execOp,resolve,invoke,builtin,Act.eval,e11,h0,go_sem,Ypd]) (Zvu hW (by decide) (by decide) (by decide))) (fun a9 w9 h9=>⟨v9,kn9,h9⟩)
      · have e35:a1.tmps.getD 35 undef=F:=(Zm hJ hi 2 (by kernel_rfl))
        obtain ⟨hw0,no4⟩:=hW.h0 hun
        subst hw0
        refine Xq rfl (by rfl) (by simp [execOp,resolve,invoke,Act.eval,e35,hF,go_sem]) (OF.out.mono fun e w2 he => ?_)
        obtain ⟨v8,kn8,Z8,rfl,hv8,s8,k8,c8,m8,C8⟩:=he
        refine ⟨_,rfl,v8,kn8,?_,Yph hW no4 s8 k8 c8 m8 hv8 nk nf no⟩
        exact Jq (val:=Ypd Ak Af Ao bk f F v8) (Jj hJ (Yxz l hun)) (by decide) (by decide) (Zva _ (by decide))
      · have e33:a1.tmps.getD 33 undef = .map (some bk):=(Zm hJ hi 0 (by kernel_rfl))
        have e34:a1.tmps.getD 34 undef = .int .i64 f:=(Zm hJ hi 1 (by kernel_rfl))
        have e36:a1.tmps.getD 36 undef = .int .i64 v9:=(Zm hJ hi 3 (by kernel_rfl))
        have l3:l.getD 3 false=true:=Zf hi 3 (by kernel_rfl)
        obtain ⟨c9,m9,hv9a,hv9b⟩:=hW.h1 l3
        have hkf:kn9 f=none:=Ymq m9 hf HKN.out
        obtain ⟨w5,hput,hk5,hg5⟩:=Ygn (v:=v9) (hW.ka l3 hun) hf hkf (by omega)
        exact Zj (Zbh hW hJ rfl rfl rfl (by decide) (by decide) (by simp [execOp,Act.eval,e33,e34,e36,hput,go_sem]) (Ytt hW l3 hg5 hk5 (fun e=>nk (Or.inl e)) (fun e=>nf (Or.inl e)) (fun e=>no (Or.inl e)))) (fun a9 w9 h9=>⟨v9,kn9,h9⟩)
     intro l a1 w9 hJJ hl
     obtain ⟨v9,kn9,hJ,hW⟩:=hJJ
     have hput:=Jf hJ rfl hl (fun i j h1 h2 h3=>Zva j h2 i h1 h3)
     subst hput
     obtain ⟨c9,m9,hv9⟩:=hW.h1 (hl 3 (by decide))
     have k9:=hW.kb (hl 4 (by decide))
     have hlook:=Yoq (v:=v9) k9 hf (by simp [Zhv])
     have ck:=hW.ck
     have cf:=hW.cf
     have s9:=hW.sp.size
     have q1:=World.block_lt_of_cell? _ _ ck
     have q2:=World.block_lt_of_cell? _ _ cf
     have gF:w.grownBy w9 (some bk):=Ycc GW3.out hW.sp lAk
     have GF:=Hq gF
     have K9:=Hq k9
     have C9:=Hq c9
     have M9:=Hq m9
     refine hK _ _ ?_
     simp only [Zai,cm8,Ypd,Act.put,List.setIfInBounds_toArray,List.set_cons_zero,List.set_cons_succ]
     clear hK K hJ hW hl gF k9 c9 m9 hF co OF CD3 XD s9
     go_wp2
     go_ret
     exact ⟨v9,Zhv kn9 f v9,rfl,GF.out,K9.out,by simp [Zhv],Ysf C9.out hv9,Yse M9.out HKN.out⟩
def Yok (id:Nat):Code->Option Code
 | .region i o d=>if i=id then some (.region i o d) else none
 | .seq a b=>match Yok id a with
   | some c=>some c
   | none=>Yok id b
 | .block _ c=>Yok id c
 | .scope c=>Yok id c
 | .loop c=>Yok id c
 | .cond _ a b=>match Yok id a with
   | some c=>some c
   | none=>Yok id b
 | _=>none
def Zqf (id:Nat):Code->Option Code
 | .seq (.region i o d) b=>if i=id then some b else Zqf id b
 | .seq a b=>match Zqf id a with
   | some c=>some c
   | none=>Zqf id b
 | .block _ c=>Zqf id c
 | .scope c=>Zqf id c
 | .loop c=>Zqf id c
 | .cond _ a b=>match Zqf id a with
   | some c=>some c
   | none=>Zqf id b
 | _=>none
noncomputable def Ybb (f:Func) (id:Nat):Code:=(f.body.bind (Yok id)).getD .skip
noncomputable def Zyk (f:Func) (id:Nat):Code:=(f.body.bind (Zqf id)).getD .skip
def Zcv (w0:World) (bx nf:Nat) (x0 x1 x2:Value) (P:List Bool->Prop) (e:Ending) (w':World):Prop :=
 (∃ v,e = .returned v)/\w0.grownBy w' (some bx)/\∃ (gV:Nat) (V:List Bool) (ce co:Int),w'.heap[bx]? = some (.cells #[x0,x1,x2,.slice (some ⟨gV,0,none⟩) nf nf,.int .i64 ce,.int .i64 co] 35 (0,0)) /\
   w'.ownsRow w0.heap.size 4 1 (.slice (some ⟨gV,0,none⟩) nf nf) nf (V.map Value.bool)/\P V
def Ytp (w:World) (nf bk:Nat) (e:Ending) (w':World):Prop:=∃ v kn',e = .returned (.int .i64 v)/\w.grownBy w' (some bk)/\KnW w' bk nf kn'
structure LkW (w0 w:World) (bw bx bm nf gV:Nat) (mem:Int) (pd:Option Addr) (nd cd:Nat) (pF:Option Addr) (cF:Nat) (x0 x1 x2:Value) (ce co:Int) (V:List Bool):Prop where
 g:w0.grownBy w (some bx)
 xc:w.heap[bx]? = some (.cells #[x0,x1,x2,.slice (some ⟨gV,0,none⟩) nf nf,.int .i64 ce,.int .i64 co] 35 (0,0))
 r:w.ownsRow w0.heap.size 4 1 (.slice (some ⟨gV,0,none⟩) nf nf) nf (V.map Value.bool)
 bwc:w0.heap[bw]? = some (.cells #[.int .i64 mem,.slice pd nd cd,.slice pF nf cF,.pointer (some ⟨bx,0,none⟩),.map (some bm)] 71 (0,0))
 ne:bw≠bx
 lx:bx<w0.heap.size
section
variable {w0 w w':World} {bw bx bm nf gV:Nat} {mem:Int} {pd pF:Option Addr} {nd cd cF:Nat} {x0 x1 x2:Value} {ce co:Int} {V:List Bool}
theorem Zas {r:Option Nat} (H:LkW w0 w bw bx bm nf gV mem pd nd cd pF cF x0 x1 x2 ce co V) (g:w.grownBy w' r) (hr:∀ k,r=some k->w0.heap.size<=k/\k≠gV):LkW w0 w' bw bx bm nf gV mem pd nd cd pF cF x0 x1 x2 ce co V:=by
 have hlx:=H.lx
 refine ⟨?_,Zb H.xc g (fun e=>by have:=(hr bx e).1;omega),H.r.kept g (Or.inr (fun e=>(hr gV e.symm).2 rfl)),H.bwc,H.ne,H.lx⟩
 cases r with
 | none=>exact Za H.g (Zfi g)
 | some k=>exact Zcs H.g g (hr k rfl).1
theorem Yrp (H:LkW w0 w bw bx bm nf gV mem pd nd cd pF cF x0 x1 x2 ce co V) (hv:bx≠gV) (c:Int):LkW w0 (w.setCell ⟨bx,5,none⟩ (.int .i64 c)) bw bx bm nf gV mem pd nd cd pF cF x0 x1 x2 ce c V :=
 ⟨Za H.g (Zg w bx 5 _),Zi H.xc,H.r.kept (Zg w bx 5 (.int .i64 c)) (Or.inr (fun e=>hv (by simp only [Value.ownBlock] at e;injection e with e;exact e.symm))),H.bwc,H.ne,H.lx⟩
theorem Yme (H:LkW w0 w bw bx bm nf gV mem pd nd cd pF cF x0 x1 x2 ce co V) (hv:bx≠gV) (c:Int):LkW w0 (w.setCell ⟨bx,4,none⟩ (.int .i64 c)) bw bx bm nf gV mem pd nd cd pF cF x0 x1 x2 c co V :=
 ⟨Za H.g (Zg w bx 4 _),Zi H.xc,H.r.kept (Zg w bx 4 (.int .i64 c)) (Or.inr (fun e=>hv (by simp only [Value.ownBlock] at e;injection e with e;exact e.symm))),H.bwc,H.ne,H.lx⟩
theorem Zoy (H:LkW w0 w bw bx bm nf gV mem pd nd cd pF cF x0 x1 x2 ce co V):w.heap[bw]? = some (.cells #[.int .i64 mem,.slice pd nd cd,.slice pF nf cF,.pointer (some ⟨bx,0,none⟩),.map (some bm)] 71 (0,0)):=Zb H.bwc H.g (by intro e;injection e with e;exact H.ne e.symm)
theorem Zox (H:LkW w0 w bw bx bm nf gV mem pd nd cd pF cF x0 x1 x2 ce co V):w0.heap.size<=gV/\gV<w.heap.size:=H.r.lt gV rfl
theorem Zla {P:List Bool->Prop} (H:LkW w0 w bw bx bm nf gV mem pd nd cd pF cF x0 x1 x2 ce co V) (hP:P V) (v:Value):Zcv w0 bx nf x0 x1 x2 P (.returned v) w:=⟨⟨v,rfl⟩,H.g,gV,V,ce,co,H.xc,H.r,hP⟩
end
def lkF (bw nf:Nat) (t:Nat->Value):Act:=⟨#[.pointer (some ⟨bw,0,none⟩),t 1,.int .i64 nf,t 3,t 4,t 5,t 6,t 7,t 8,t 9,t 10,t 11,t 12,t 13,t 14,t 15,t 16,t 17,t 18,t 19,t 20,t 21,t 22,t 23,t 24,t 25,t 26,t 27,t 28,t 29,t 30,t 31,t 32,t 33,t 34,t 35,t 36,t 37,t 38,t 39,t 40,t 41,t 42,t 43,t 44,t 45,t 46,t 47,t 48,t 49,t 50,t 51,t 52,t 53,t 54,t 55,t 56,t 57,t 58,t 59,t 60,t 61,t 62,t 63,t 64,t 65,t 66,t 67,t 68,t 69,t 70,t 71,t 72,t 73,t 74,t 75,t 76,t 77,t 78,t 79,t 80,t 81,t 82,t 83,t 84,t 85,t 86,t 87,t 88,t 89,t 90,t 91,t 92,t 93,t 94,t 95,t 96,t 97,t 98,t 99,t 100,t 101,t 102,t 103,t 104,t 105,t 106,t 107,t 108,t 109,t 110,t 111,t 112,t 113,t 114,t 115,t 116,t 117,t 118,t 119,t 120,t 121,t 122,t 123,t 124,t 125,t 126,t 127,t 128,t 129,t 130,t 131,t 132,t 133,t 134,t 135,t 136,t 137,t 138,t 139,t 140,t 141,t 142,t 143,t 144,t 145,t 146,t 147,t 148,t 149,t 150,t 151,t 152,t 153,t 154,t 155,t 156,t 157,t 158,t 159,t 160,t 161,t 162,t 163,t 164,t 165,t 166,t 167,t 168,t 169,t 170,t 171,t 172,t 173,t 174,t 175,t 176,t 177],[]⟩
structure Yyp (bw nf:Nat) (a:Act):Prop where
 sz:a.tmps.size=178
 df:a.defers=[]
 s0:a.tmps.getD 0 undef = .pointer (some ⟨bw,0,none⟩)
 s2:a.tmps.getD 2 undef = .int .i64 nf
theorem Yge {bw nf:Nat} {a:Act} (H:Yyp bw nf a):a=lkF bw nf (fun i=>a.tmps.getD i undef):=by
 refine Zjw H.sz H.df fun j hj => ?_
 have hs:=H.sz
 rw [hs] at hj
 unfold tm
 rcases j with _|j
 · exact H.s0
 iterate 1 (rcases j with _|j;· rfl)
 rcases j with _|j
 · exact H.s2
 iterate 175 (rcases j with _|j;· rfl)
 omega
theorem Ywq (w0 w:World) (bw bx bm nf gV:Nat) (mem:Int) (pd:Option Addr) (nd cd:Nat) (pF:Option Addr) (cF:Nat) (x0 x1 x2:Value) (ce co:Int) (V:List Bool) (P:List Bool->Prop) (hP:P V) (H:LkW w0 w bw bx bm nf gV mem pd nd cd pF cF x0 x1 x2 ce co V)
 (h64:nf<=64) (hco:∀ (w:World) (bk:Nat),LkW w0 w bw bx bm nf gV mem pd nd cd pF cF x0 x1 x2 ce co V->KnW w bk nf (fun _=>none)->w0.heap.size<=bk->bk≠gV->Calls Try.prog 46 #[.pointer (some ⟨bw,0,none⟩),.int .i64 0,.map (some bk)] w (Ytp w nf bk)) (a:Act) (ha:Yyp bw nf a) (K:Act->World->Prop) (hK:∀ a w,Code.wp Try.prog (Zyk Try.f26 27) (bodyPost Try.prog Try.f26 (Zcv w0 bx nf x0 x1 x2 P)) a w->K a w) :
 Code.wp Try.prog (Ybb Try.f26 27) (Exit.then K (bodyPost Try.prog Try.f26 (Zcv w0 bx nf x0 x1 x2 P))) a w:=by
 rw [Yge ha]
 generalize (fun i=>a.tmps.getD i undef)=t
 clear ha
 have HH:=Hq H
 have HP:=Hq hP
 have hlv:=Zox H
 have hlx:=H.lx
 have hsz:=H.g.size
 clear H hP
 unfold lkF
 generalize t 1=u,t 3=u,t 4=u,t 5=u,t 6=u,t 7=u,t 8=u,t 9=u,t 10=u,t 11=u,t 12=u,t 13=u,t 14=u,t 15=u,t 16=u,t 17=u,t 18=u,t 19=u,t 20=u,t 21=u,t 22=u,t 23=u,t 24=u,t 25=u,t 26=u,t 27=u,t 28=u,t 29=u,t 30=u,t 31=u,t 32=u,t 33=u,t 34=u,t 35=u,t 36=u,t 37=u,t 38=u,t 39=u,t 40=u,t 41=u,t 42=u,t 43=u,t 44=u,t 45=u,t 46=u,t 47=u,t 48=u,t 49=u,t 50=u,t 51=u,t 52=u,t 53=u,t 54=u,t 55=u,t 56=u,t 57=u,t 58=u,t 59=u,t 60=u,t 61=u,t 62=u,t 63=u,t 64=u,t 65=u,t 66=u,t 67=u,t 68=u,t 69=u,t 70=u,t 71=u,t 72=u,t 73=u,t 74=u,t 75=u,t 76=u,t 77=u,t 78=u,t 79=u,t 80=u,t 81=u,t 82=u,t 83=u,t 84=u,t 85=u,t 86=u,t 87=u,t 88=u,t 89=u,t 90=u,t 91=u,t 92=u,t 93=u,t 94=u,t 95=u,t 96=u,t 97=u,t 98=u,t 99=u,t 100=u,t 101=u,t 102=u,t 103=u,t 104=u,t 105=u,t 106=u,t 107=u,t 108=u,t 109=u,t 110=u,t 111=u,t 112=u,t 113=u,t 114=u,t 115=u,t 116=u,t 117=u,t 118=u,t 119=u,t 120=u,t 121=u,t 122=u,t 123=u,t 124=u,t 125=u,t 126=u,t 127=u,t 128=u,t 129=u,t 130=u,t 131=u,t 132=u,t 133=u,t 134=u,t 135=u,t 136=u,t 137=u,t 138=u,t 139=u,t 140=u,t 141=u,t 142=u,t 143=u,t 144=u,t 145=u,t 146=u,t 147=u,t 148=u,t 149=u,t 150=u,t 151=u,t 152=u,t 153=u,t 154=u,t 155=u,t 156=u,t 157=u,t 158=u,t 159=u,t 160=u,t 161=u,t 162=u,t 163=u,t 164=u,t 165=u,t 166=u,t 167=u,t 168=u,t 169=u,t 170=u,t 171=u,t 172=u,t 173=u,t 174=u,t 175=u,t 176=u,t 177=u
 clear t
 conv=>arg 2;whnf
 have hmm := @run_makeMap Try.prog
 go_wp2
 try clear K
 conv=>arg 2;whnf
 have H1:=Zas HH.out (Ga w (.map #[] 0) none) (fun k e=>by cases e)
 have HH1:=Hq H1
 have CO:=Hq (hco _ w.heap.size H1 (Zzg w h64) hsz (by omega))
 clear H1 hco
 go_wp2_with (first
  | (go_at_call 46;refine CO.out.mono ?_;rintro e w2 ⟨v,kn,rfl,g2,k2⟩;have H2:=Zas HH1.out g2 (fun k e=>by injection e with e;omega);have HH2:=Hq H2;have KN2:=Hq k2;have hs2:=H2.g.size;have hl2:=(Zox H2).2;clear g2 k2 H2)
  | (at_range;obtain ⟨-,n,D,h1,-⟩:=KN2.out;refine wpList_range_own _ rfl _ 94 rfl 3 3 Ymv Try.underlying94 _ w.heap.size n D rfl h1 ?_;intro w3 hrg hg hs;have HH3:=Hq (Zas HH2.out hg (fun k e=>by cases e));clear h1 hg hs))
 go_frame
 generalize hbk:w.heap.size=bk at *
 clear hbk
 go_loopw [14] (fun _ wr=>∃ (left:Lit->Bool) (cnt:Nat),wr.ranges Try.prog 3 (plainElem Try.prog 3) bk w2.heap.size n D left cnt/\LkW w0 wr bw bx bm nf gV mem pd nd cd pF cF x0 x1 x2 ce co V) (fun _ wr=>wr.rangeLeft bk w2.heap.size)
 case atStart=>exact ⟨_,_,hrg,HH3.out⟩
 case round =>
  obtain ⟨left,cnt,hrg1,hW⟩:=hrel
  have HW:=Hq hW
  have hwl:=(Zox hW).2
  clear hW hrg
  go_wp2_with (at_next;refine wpList_next_ranges_ii _ rfl _ rfl 3 3 .i64 .i64 Ymv Try.underlying3 Try.underlying3 bk w2.heap.size n _ _ _ rfl hrg1 ?_ ?_)
  · intro _ hl0
    have kb:=Zoy HW.out
    have b3:=Cq _ _ 3 _ _ _ kb
    have j5:=Cq _ _ 5 _ _ _ HW.out.xc
    have z5:=frozen_of_row _ _ 5 _ _ HW.out.xc
    have s1:=(Gs kb)
    have s2:=(Gs HW.out.xc)
    have FIN:=Hq (Yrp HW.out (by omega) v)
    clear kb hrg1
    go_wp2
    refine bodyPost_end0 rfl rfl ?_
    exact Zla FIN.out HP.out _
  · intro x c w2 cnt1 hwx hwc hlx2 hat hrg2 hlt hg2 hs2 hen
    have HW2:=Hq (Zas HW.out hg2 (fun k e=>by injection e with e;have:=hlv.2;omega))
    by_cases hc:1099511627776<c
    · clear hat hrg2 hrg1
      go_wp2
      refine bodyPost_end0 rfl rfl ?_
      exact Zla HW2.out HP.out _
    · have HRG2:=Hq hrg2
      have HRG1:=Hq hrg1
      have HLT:=Hq hlt
      clear hat hrg2 hrg1 hlt
      go_wp2
      go_roundw
      case rel=>exact ⟨_,cnt1,HRG2.out,HW2.out⟩
      case measure=>rw [HRG2.out.left_eq,HRG1.out.left_eq];exact HLT.out
structure Zsa (w0:World) (bx gL nf:Nat) (ln:Nat->Nat):Prop where
 ne:gL≠bx
 at_:∀ f:Nat,f<nf->∃ (p:Option Addr) (c:Nat),w0.cell? ⟨gL,f,none⟩=some (.slice p (ln f) c)
theorem Ywr (w0 w:World) (bw bx bm nf gV:Nat) (mem:Int) (pd:Option Addr) (nd cd:Nat) (pF:Option Addr) (cF:Nat) (x0 x1:Value) (gL cL:Nat) (ln:Nat->Nat) (ce co:Int) (V:List Bool) (P:List Bool->Prop) (hP:P V) (H:LkW w0 w bw bx bm nf gV mem pd nd cd pF cF x0 x1 (.slice (some ⟨gL,0,none⟩) nf cL) ce co V) (HL:Zsa w0 bx gL nf ln)
 (h64:nf<=64) (hce:∀ (w:World) (bk:Nat),LkW w0 w bw bx bm nf gV mem pd nd cd pF cF x0 x1 (.slice (some ⟨gL,0,none⟩) nf cL) ce co V->KnW w bk nf (fun _=>none)->w0.heap.size<=bk->bk≠gV->Calls Try.prog 45 #[.pointer (some ⟨bw,0,none⟩),.int .i64 0,.map (some bk)] w (Ytp w nf bk))
 (hco:(∀ f:Nat,f<nf->V.getD f false=true->ln f=0)->∀ (w:World) (bk:Nat) (ce:Int),LkW w0 w bw bx bm nf gV mem pd nd cd pF cF x0 x1 (.slice (some ⟨gL,0,none⟩) nf cL) ce co V->KnW w bk nf (fun _=>none)->w0.heap.size<=bk->bk≠gV->Calls Try.prog 46 #[.pointer (some ⟨bw,0,none⟩),.int .i64 0,.map (some bk)] w (Ytp w nf bk))
 (a:Act) (ha:Yyp bw nf a) (K:Act->World->Prop) (hK:∀ a w,Code.wp Try.prog (Zyk Try.f26 20) (bodyPost Try.prog Try.f26 (Zcv w0 bx nf x0 x1 (.slice (some ⟨gL,0,none⟩) nf cL) P)) a w->K a w) :
 Code.wp Try.prog (Ybb Try.f26 20) (Exit.then K (bodyPost Try.prog Try.f26 (Zcv w0 bx nf x0 x1 (.slice (some ⟨gL,0,none⟩) nf cL) P))) a w:=by
 rw [Yge ha]
 generalize (fun i=>a.tmps.getD i undef)=t
 clear ha
 have HH:=Hq H
 have HP:=Hq hP
 have HLL:=Hq HL
 have HCO:=Hq hco
 have hlv:=Zox H
 have hlx:=H.lx
 have hsz:=H.g.size
 have kb:=Zb (Zoy H) (Ga w (.map #[] 0) none) (by simp)
 have b3:=Cq _ _ 3 _ _ _ kb
 have s1:=(Gs kb)
 have H1:=Zas H (Ga w (.map #[] 0) none) (fun k e=>by cases e)
 have H1d:=Zas H1 (Zd (Zc _ none)) (fun k e=>by cases e)
 have CE:=Hq (hce _ w.heap.size H1d (Zcc (Zzg w h64) (Zd (Zc _ none)) (by simp)) hsz (by omega))
 have HH1:=Hq H1d
 clear H hP HL hco hce H1 H1d kb
 unfold lkF
 generalize t 1=u,t 3=u,t 4=u,t 5=u,t 6=u,t 7=u,t 8=u,t 9=u,t 10=u,t 11=u,t 12=u,t 13=u,t 14=u,t 15=u,t 16=u,t 17=u,t 18=u,t 19=u,t 20=u,t 21=u,t 22=u,t 23=u,t 24=u,t 25=u,t 26=u,t 27=u,t 28=u,t 29=u,t 30=u,t 31=u,t 32=u,t 33=u,t 34=u,t 35=u,t 36=u,t 37=u,t 38=u,t 39=u,t 40=u,t 41=u,t 42=u,t 43=u,t 44=u,t 45=u,t 46=u,t 47=u,t 48=u,t 49=u,t 50=u,t 51=u,t 52=u,t 53=u,t 54=u,t 55=u,t 56=u,t 57=u,t 58=u,t 59=u,t 60=u,t 61=u,t 62=u,t 63=u,t 64=u,t 65=u,t 66=u,t 67=u,t 68=u,t 69=u,t 70=u,t 71=u,t 72=u,t 73=u,t 74=u,t 75=u,t 76=u,t 77=u,t 78=u,t 79=u,t 80=u,t 81=u,t 82=u,t 83=u,t 84=u,t 85=u,t 86=u,t 87=u,t 88=u,t 89=u,t 90=u,t 91=u,t 92=u,t 93=u,t 94=u,t 95=u,t 96=u,t 97=u,t 98=u,t 99=u,t 100=u,t 101=u,t 102=u,t 103=u,t 104=u,t 105=u,t 106=u,t 107=u,t 108=u,t 109=u,t 110=u,t 111=u,t 112=u,t 113=u,t 114=u,t 115=u,t 116=u,t 117=u,t 118=u,t 119=u,t 120=u,t 121=u,t 122=u,t 123=u,t 124=u,t 125=u,t 126=u,t 127=u,t 128=u,t 129=u,t 130=u,t 131=u,t 132=u,t 133=u,t 134=u,t 135=u,t 136=u,t 137=u,t 138=u,t 139=u,t 140=u,t 141=u,t 142=u,t 143=u,t 144=u,t 145=u,t 146=u,t 147=u,t 148=u,t 149=u,t 150=u,t 151=u,t 152=u,t 153=u,t 154=u,t 155=u,t 156=u,t 157=u,t 158=u,t 159=u,t 160=u,t 161=u,t 162=u,t 163=u,t 164=u,t 165=u,t 166=u,t 167=u,t 168=u,t 169=u,t 170=u,t 171=u,t 172=u,t 173=u,t 174=u,t 175=u,t 176=u,t 177=u
 clear t
 conv=>arg 2;whnf
 have hmm := @run_makeMap Try.prog
 go_wp2
 clear hmm
 try clear K
 conv=>arg 2;whnf
 go_wp2
 generalize w.alloc (.map #[] 0)=W at *
 generalize hbk:w.heap.size=bk at *
 clear hbk
 go_region_held3 (fun W'=>W'.cell? ⟨bw,3,none⟩=some (.pointer (some ⟨bx,0,none⟩))/\bw<W'.heap.size) (first|exact ⟨by assumption,by assumption⟩|assumption) (first|(go_at_call 45;refine CE.out.mono ?_;rintro e w2 ⟨v,kn,rfl,g2,k2⟩;have H2:=Zas HH1.out g2 (fun k e=>by injection e with e;omega);have k3:=Zoy H2;have c3:=Cq _ _ 3 _ _ _ k3;have q3:=(Gs k3);have j4:=Cq _ _ 4 _ _ _ H2.xc;have z4:=frozen_of_row _ _ 4 _ _ H2.xc;have q4:=(Gs H2.xc);have h4:=Yme H2 (by omega) v;have c3b:=Cq _ _ 3 _ _ _ (Zoy h4);have q3b:=(Array.getElem?_eq_some_iff.1 (Zoy h4)).1;have H4:=Hq h4;clear h4;clear g2 k2 k3 H2))
 clear c3 q3 j4 z4 q4 b3 s1 CE HH HH1
 generalize w2.setCell ⟨bx,4,none⟩ (.int .i64 v)=W4 at *
 go_wp2
 go_loop [131] (fun i=>∃ k:Nat,i = .int .i64 k/\k<=nf/\∀ f:Nat,f<k->V.getD f false=true->ln f=0) (fun i=>nf - (intOf i).toNat)
 case atStart=>exact ⟨0,rfl,Nat.zero_le _,fun f hf=>absurd hf (Nat.not_lt_zero _)⟩
 case round =>
  obtain ⟨k,rfl,hk,hdone⟩:=hrel
  have hj:=H4.out.xc
  have s2:=(Gs hj)
  have j2:=Cq _ _ 2 _ _ _ hj
  have j3:=Cq _ _ 3 _ _ _ hj
  have hV:=V
  have hlV:V.length=nf:=by have:=H4.out.r.1;simpa using this
  have HDN:=Hq hdone
  by_cases hlt:(k:Int)<(nf:Int)
  · have hkn:k<nf:=by omega
    have vk:W4.cell? ⟨gV,k,none⟩=some (.bool (V.getD k false)):=by
     rw [H4.out.r.cellAt k (by omega),List.getElem?_map,List.getD_eq_getElem?_getD,List.getElem?_eq_getElem (by omega:k<V.length)]
     rfl
    obtain ⟨p,c,hc⟩:=HLL.out.at_ k hkn
    have lk:=H4.out.g.cell hc (by intro e;injection e with e;exact HLL.out.ne e)
    clear hj hdone hc hV hlV
    cases hb:V.getD k false with
    | false =>
      rw [hb] at vk
      have HB:=Hq hb
      clear hb lk
      go_wp2
      go_round
      case rel=>exact ⟨k+1,by go_num,by omega,fun f hf hv=>by
       by_cases e:f=k
       · subst e;rw [HB.out] at hv;cases hv
       · exact HDN.out f (by omega) hv⟩
      case measure=>simp [intOf];omega
    | true =>
      rw [hb] at vk
      have HB:=Hq hb
      clear hb
      by_cases hn:(0:Int)<(ln k:Int)
      · generalize ln k=m at *
        go_wp2
        refine bodyPost_end0 rfl rfl ?_
        exact Zla H4.out HP.out _
      · obtain ⟨m,hm⟩:∃ m,m=ln k:=⟨_,rfl⟩
        have HM:=Hq hm
        rw [<- hm] at lk hn
        clear hm
        go_wp2
        go_round
        case rel=>exact ⟨k+1,by go_num,by omega,fun f hf hv=>by
         by_cases e:f=k
         · subst e;have:=HM.out;omega
         · exact HDN.out f (by omega) hv⟩
        case measure=>simp [intOf];omega
  · have hkn:k=nf:=by omega
    subst hkn
    clear hj j2 j3 hV hlV hdone
    go_upto_region 27 with fail
    rename_i K hK
    exact Ywq w0 W4 bw bx bm k gV mem pd nd cd pF cF x0 x1 _ v co V P HP.out H4.out h64 (fun w bk h1 h2 h3 h4=>HCO.out HDN.out w bk v h1 h2 h3 h4) _ ⟨rfl,rfl,rfl,rfl⟩ K hK
theorem Zkh {next:Nat->List Nat} {V:Nat->Bool}:∀ {fin:List Nat},Zse next fin->(∀ x∈fin,V x=true->∀ y∈next x,V y=true)->Zse next (fin.filter V)
 | [],_,_=>trivial
 | x::r,h,hv=>by
   have ih:=Zkh h.2 (fun z hz=>hv z (List.mem_cons_of_mem _ hz))
   by_cases e:V x=true
   · rw [List.filter_cons_of_pos e]
     exact ⟨fun y hy=>List.mem_filter.2 ⟨h.1 y hy,hv x (List.mem_cons_self ..) e y hy⟩,ih⟩
   · rw [List.filter_cons_of_neg e];exact ih
theorem Zqr:∀ (n:Nat) (l:List Nat),l.Nodup->(∀ x∈l,x<n)->l.length<=n
 | 0,[],_,_=>Nat.le_refl _
 | 0,x::r,_,h=>absurd (h x (List.mem_cons_self ..)) (Nat.not_lt_zero _)
 | n+1,l,hd,h=>by
   by_cases e:n∈l
   · have h1:=Zqr n (l.erase n) (hd.erase n) (fun x hx=>by
      have h2:=(hd.mem_erase_iff).1 hx
      have:=h x h2.2
      omega)
     rw [List.length_erase_of_mem e] at h1
     omega
   · have:=Zqr n l hd (fun x hx=>by
      have h1:=h x hx
      have h2:x≠n:=fun h=>e (h ▸ hx)
      omega)
     omega
structure Ytn (fs:List FnP) (hs:Nat->List Int) (cl:Nat->List Nat) (ln:Nat->Nat):Prop where
 z:∀ (f:Nat) (ar lo r:Int) (c:List (Int × Int)),fs[f]? = some (ar,lo,r,c)->(hs f).getD 0 0=0/\∀ x,x<c.length->0<=(hs f).getD x 0->∀ y∈Jp c x,y<c.length/\0<=(hs f).getD y 0
 a:∀ (f:Nat) (ar lo r:Int) (c:List (Int × Int)),fs[f]? = some (ar,lo,r,c)->ln f=0->Yts (nxL c (hs f))
 k:∀ (f:Nat) (ar lo r:Int) (c:List (Int × Int)),fs[f]? = some (ar,lo,r,c)->∀ (at_:Nat) (a:Int),c[at_]? = some (17,a)->0<=(hs f).getD at_ 0->at_∈cl f
 s:∀ (f:Nat) (ar lo r:Int) (c:List (Int × Int)),fs[f]? = some (ar,lo,r,c)->∀ at_∈cl f,∃ a:Nat,c[at_]? = some (17,(a:Int))/\a<fs.length
theorem Yxy {fs:List FnP} {hs:Nat->List Int} {cl:Nat->List Nat} {ln:Nat->Nat} {fin:List Nat} {f:Nat} {ar lo r:Int} {c:List (Int × Int)} (hok:Zkj fs) (HO:Ytn fs hs cl ln) (hfin:Zse (Je fs cl) fin) (hff:f∈fin) (hfn:fs[f]? = some (ar,lo,r,c)) (hl:ln f=0) :
 ∃ (Zdd:Nat->Nat) (T:Nat->Prop),T 0/\CoP fin f c Zdd T:=by
 obtain ⟨hz,hc⟩:=HO.z f ar lo r c hfn
 obtain ⟨Zdd,T,h0,hT⟩:=Ykt (hok.len _ (List.mem_of_getElem? hfn)).1 hz hc (HO.a f ar lo r c hfn hl)
 refine ⟨Zdd,T,h0,⟨fun x hx=>⟨(hT x hx).1,(hT x hx).2.2⟩,fun x hx a hins => ?_⟩⟩
 have hm:=HO.k f ar lo r c hfn x a hins (hT x hx).2.1
 obtain ⟨a',h1,h2⟩:=HO.s f ar lo r c hfn x hm
 rw [hins] at h1
 injection h1 with h1
 injection h1 with _ h1
 subst h1
 have hmem:a'∈Je fs cl f:=by
  unfold Je
  simp only [hfn]
  refine List.mem_map.2 ⟨x,hm,?_⟩
  simp only [hins]
  exact Int.toNat_natCast a'
 rw [Int.toNat_natCast]
 exact ⟨by omega,Zqd hfin f hff a' hmem⟩
structure MB (n:Nat) (K:List Nat) (D:List (Nat × Nat)) (w0:World) (blk:Nat->Nat) (obj:(Nat->Nat)->Array Bool->Nat->Obj) (l:Array Bool) (w:World):Prop where
 sz:l.size=n
 g:w0.grownBy w none
 b:∀ i∈K,l.getD i false=true->w0.heap.size<=blk i/\w.heap[blk i]? = some (obj blk l i)
 d:∀ i∈K,∀ j∈K,i≠j->l.getD i false=true->l.getD j false=true->blk i≠blk j
 x:∀ p∈D,l.getD p.1 false=true->l.getD p.2 false=true
def Ycr (blk:Nat->Nat) (i v:Nat):Nat->Nat:=fun k=>if k=i then v else blk k
theorem Zcx (blk:Nat->Nat) (i v:Nat):Ycr blk i v i=v:=if_pos rfl
theorem Zay {blk:Nat->Nat} {i v k:Nat} (h:k≠i):Ycr blk i v k=blk k:=if_neg h
section
variable {n i:Nat} {K:List Nat} {D:List (Nat × Nat)} {w0 w w':World} {blk:Nat->Nat} {obj:(Nat->Nat)->Array Bool->Nat->Obj} {l:Array Bool}
theorem Yln (w0:World):MB n K D w0 blk obj (Array.replicate n false) w0:=by
 have F:∀ i,(Array.replicate n false).getD i false=true->False:=fun i h=>by rw [getD_replicate_false] at h;cases h
 exact ⟨by simp,Zc _ _,fun i _ h=>(F i h).elim,fun i _ j _ _ h _=>(F i h).elim,fun p _ h=>(F _ h).elim⟩
theorem Zev (h:MB n K D w0 blk obj l w) (hi:i<n) (j:Nat):(l.setIfInBounds i true).getD j false=if j=i then true else l.getD j false:=Yc l i j (by rw [h.sz];exact hi)
theorem Xba (h:MB n K D w0 blk obj l w) (hi:i<n) (hx:∀ p∈D,p.1=i->l.getD p.2 false=true):∀ p∈D,(l.setIfInBounds i true).getD p.1 false=true->(l.setIfInBounds i true).getD p.2 false=true:=fun p hp e=>by
 rw [Zev h hi] at e ⊢
 by_cases h2:p.2=i
 · rw [if_pos h2]
 · rw [if_neg h2]
   by_cases h1:p.1=i
   · exact hx p hp h1
   · rw [if_neg h1] at e;exact h.x p hp e
theorem Yrc (h:MB n K D w0 blk obj l w) (hi:i<n) (hk:i ∉ K) (hx:∀ p∈D,p.1=i->l.getD p.2 false=true) (ho:∀ k∈K,l.getD k false=true->obj blk (l.setIfInBounds i true) k=obj blk l k) :
 MB n K D w0 blk obj (l.setIfInBounds i true) w:=by
 have nk:∀ k,k∈K->k≠i:=fun k h1 h2=>hk (by rw [<- h2];exact h1)
 refine ⟨by simp [h.sz],h.g,fun k hk' e => ?_,fun a ha b hb hab e1 e2 => ?_,Xba h hi hx⟩
 · rw [Zev h hi,if_neg (nk _ hk')] at e
   rw [ho k hk' e]
   exact h.b k hk' e
 · rw [Zev h hi,if_neg (nk _ ha)] at e1
   rw [Zev h hi,if_neg (nk _ hb)] at e2
   exact h.d a ha b hb hab e1 e2
theorem Ywf {o:Obj} (h:MB n K D w0 blk obj l w) (hi:i<n) (hk:i∈K) (hx:∀ p∈D,p.1=i->l.getD p.2 false=true) (hn:obj (Ycr blk i w.heap.size) (l.setIfInBounds i true) i=o)
 (ho:∀ k∈K,k≠i->l.getD k false=true->obj (Ycr blk i w.heap.size) (l.setIfInBounds i true) k=obj blk l k) :
 MB n K D w0 (Ycr blk i w.heap.size) obj (l.setIfInBounds i true) (w.alloc o):=by
 have gA:w.grownBy (w.alloc o) none:=Ga _ _ _
 have lt:∀ k∈K,l.getD k false=true->blk k<w.heap.size:=fun k hk' e=>(Array.getElem?_eq_some_iff.1 (h.b k hk' e).2).1
 refine ⟨by simp [h.sz],Za h.g gA,fun k hk' e => ?_,fun a ha b hb hab e1 e2 => ?_,Xba h hi hx⟩
 · rw [Zev h hi] at e
   by_cases hki:k=i
   · subst hki
     rw [Zcx,hn]
     exact ⟨h.g.size,heap_alloc_new _ _⟩
   · rw [if_neg hki] at e
     rw [Zay hki,ho k hk' hki e]
     exact ⟨(h.b k hk' e).1,Zb (h.b k hk' e).2 gA (by simp)⟩
 · rw [Zev h hi] at e1 e2
   by_cases ha':a=i
   · subst ha'
     rw [Zcx,Zay (Ne.symm hab)]
     rw [if_neg (Ne.symm hab)] at e2
     have:=lt b hb e2
     omega
   · rw [if_neg ha'] at e1
     by_cases hb':b=i
     · subst hb'
       rw [Zcx,Zay hab]
       have:=lt a ha e1
       omega
     · rw [if_neg hb'] at e2
       rw [Zay ha',Zay hb']
       exact h.d a ha b hb hab e1 e2
theorem Zyy {k:Nat} (h:MB n K D w0 blk obj l w) (hi:i<n) (hiK:i ∉ K) (hk:k∈K) (hl:l.getD k false=true) (hx:∀ p∈D,p.1=i->l.getD p.2 false=true) (hg:w.grownBy w' (some (blk k)))
 (hn:w'.heap[blk k]? = some (obj blk (l.setIfInBounds i true) k)) (ho:∀ j∈K,j≠k->l.getD j false=true->obj blk (l.setIfInBounds i true) j=obj blk l j) :
 MB n K D w0 blk obj (l.setIfInBounds i true) w':=by
 have nk:∀ k,k∈K->k≠i:=fun k h1 h2=>hiK (by rw [<- h2];exact h1)
 refine ⟨by simp [h.sz],Yu h.g hg (fun r e=>by injection e with e;subst e;exact (h.b k hk hl).1),fun j hj e => ?_,fun a ha b hb hab e1 e2 => ?_,Xba h hi hx⟩
 · rw [Zev h hi,if_neg (nk _ hj)] at e
   by_cases hjk:j=k
   · subst hjk;exact ⟨(h.b j hj hl).1,hn⟩
   · rw [ho j hj hjk e]
     exact ⟨(h.b j hj e).1,Zb (h.b j hj e).2 hg (fun e2=>by injection e2 with e2;exact h.d k hk j hj (Ne.symm hjk) hl e e2)⟩
 · rw [Zev h hi,if_neg (nk _ ha)] at e1
   rw [Zev h hi,if_neg (nk _ hb)] at e2
   exact h.d a ha b hb hab e1 e2
end
end Go.Proofs.Ythlkflagancdfaa.CK
