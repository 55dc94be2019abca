/-
  Part of a proof: contracts of functions and lemmas, each stated by its own theorem. Conditions: as each theorem states.
-/
import Derived.Test.YthlkflagancdfaaMK14
import Derived.Test.YthlkflagancdfaaMK13
import Derived.Deep.Cut
import Derived.Maps.Own
import Derived.Maps.OwnOps
import Derived.Maps.OwnSet
set_option linter.unusedSimpArgs false
set_option linter.unusedVariables false
set_option maxRecDepth 100000
set_option maxHeartbeats 16000000
namespace Go.Proofs.Ythlkflagancdfaa.CK
open Go.RowKit Go.Great
def Zdc (fs:List FnP) (fn:FnP) (pl:Nat) (op a h:Int):Int × Int :=
 if op=18 then (if h=fn.2.2.1 then (0,0) else (138,0))
 else if h<(if op=5 then a+1 else (Zt fs fn.2.2.1 op a).1) then (134,0)
 else if 256<h - (Zt fs fn.2.2.1 op a).1+(Zt fs fn.2.2.1 op a).2 then (135,0)
 else if (Yy op a pl).any (fun n=>decide ((fn.2.2.2.length:Int)<=n))=true then (137,0)
 else (0,h - (Zt fs fn.2.2.1 op a).1+(Zt fs fn.2.2.1 op a).2)
def sd:Nat->Nat
 | 0=>16
 | 1=>17
 | 2=>18
 | 3=>19
 | 4=>20
 | 5=>21
 | 6=>22
 | 7=>23
 | 8=>24
 | 9=>25
 | 10=>26
 | 11=>27
 | 12=>28
 | 13=>29
 | 14=>30
 | 15=>31
 | 16=>32
 | 17=>8
 | 18=>9
 | 19=>1019
 | 20=>1020
 | _=>5000
theorem Zeh:∀ i,i<21->∀ j,j<21->j≠i->sd j≠sd i:=by decide
theorem Ytn (i:Nat) (h:i<21):i=0\/i=1\/i=2\/i=3\/i=4\/i=5\/i=6\/i=7\/i=8\/i=9\/i=10\/i=11\/i=12\/i=13\/i=14\/i=15\/i=16\/i=17\/i=18\/i=19\/i=20:=by omega
theorem Ztu (j:Nat) (hj:j∈[3,4]):∀ i,i<21->sd i≠j:=by revert j;decide
def sdv (n0 f at_ b o n cF:Nat) (b' o' nc cc b8 b9:Nat) (op a ar lo r:Int):Nat->Value
 | 0 => .pointer (some ⟨n0,2,none⟩)
 | 1 => .slice (some ⟨b,o,none⟩) n cF
 | 2 => .pointer (some ⟨(n0+1),0,none⟩)
 | 3 => .int .i64 f
 | 4 => .pointer (some ⟨b,o+f*4,none⟩)
 | 5 => .pointer (some ⟨b,o+f*4+3,none⟩)
 | 6 => .slice (some ⟨b',o',none⟩) nc cc
 | 7 => .pointer (some ⟨(n0+1),1,none⟩)
 | 8 => .int .i64 at_
 | 9 => .pointer (some ⟨b',o'+at_*2,none⟩)
 | 10 => .agg #[.int .i64 op,.int .i64 a]
 | 11 => .pointer (some ⟨n0,2,none⟩)
 | 12 => .slice (some ⟨b,o,none⟩) n cF
 | 13 => .pointer (some ⟨(n0+1),0,none⟩)
 | 14 => .int .i64 f
 | 15 => .pointer (some ⟨b,o+f*4,none⟩)
 | 16 => .agg #[.int .i64 ar,.int .i64 lo,.int .i64 r,.slice (some ⟨b',o',none⟩) nc cc]
 | 17 => .pointer (some ⟨b8,0,none⟩)
 | 18 => .pointer (some ⟨b9,0,none⟩)
 | 19=>undef
 | 20=>undef
 | _=>undef
theorem Xde {n0 f at_ b o n cF b' o' nc cc b8 b8' b9:Nat} {op a ar lo r:Int} (l:Array Bool) (hun:l.getD 17 false=false):∀ i,i<21->l.getD i false=true->sd i<81->sdv n0 f at_ b o n cF b' o' nc cc b8' b9 op a ar lo r i=sdv n0 f at_ b o n cF b' o' nc cc b8 b9 op a ar lo r i:=by
 intro i hi hl _
 rcases Ytn i hi with rfl|rfl|rfl|rfl|rfl|rfl|rfl|rfl|rfl|rfl|rfl|rfl|rfl|rfl|rfl|rfl|rfl|rfl|rfl|rfl|rfl <;> first|rfl|(rw [hun] at hl;cases hl)
theorem Xdd {n0 f at_ b o n cF b' o' nc cc b8 b9 b9':Nat} {op a ar lo r:Int} (l:Array Bool) (hun:l.getD 18 false=false):∀ i,i<21->l.getD i false=true->sd i<81->sdv n0 f at_ b o n cF b' o' nc cc b8 b9' op a ar lo r i=sdv n0 f at_ b o n cF b' o' nc cc b8 b9 op a ar lo r i:=by
 intro i hi hl _
 rcases Ytn i hi with rfl|rfl|rfl|rfl|rfl|rfl|rfl|rfl|rfl|rfl|rfl|rfl|rfl|rfl|rfl|rfl|rfl|rfl|rfl|rfl|rfl <;> first|rfl|(rw [hun] at hl;cases hl)
def zI:Array Value := #[.int .i64 0,.int .i64 0]
def sI (op a:Int):Array Value := #[.int .i64 op,.int .i64 a]
def zF:Array Value := #[.int .i64 0,.int .i64 0,.int .i64 0,.slice none 0 0]
def sF (ar lo r:Int) (p:Option Addr) (n c:Nat):Array Value := #[.int .i64 ar,.int .i64 lo,.int .i64 r,.slice p n c]
structure SW (W:World) (x8 x9:Array Value) (b8 b9:Nat) (l:Array Bool) (w:World):Prop where
 sz:l.size=21
 g:W.grownBy w none
 n8:l.getD 17 false=true->W.heap.size<=b8/\w.heap[b8]? = some (.cells (if l.getD 19 false=true then x8 else zI) 49 (0,0))
 n9:l.getD 18 false=true->W.heap.size<=b9/\w.heap[b9]? = some (.cells (if l.getD 20 false=true then x9 else zF) 52 (0,0))
 ne:l.getD 17 false=true->l.getD 18 false=true->b8≠b9
 no19:l.getD 17 false=false->l.getD 19 false=false
 no20:l.getD 18 false=false->l.getD 20 false=false
theorem Zmf {l:Array Bool} {i j:Nat} (h:l.size=21) (hi:i<21):(l.setIfInBounds i true).getD j false=if j=i then true else l.getD j false:=Yd l i j (by omega)
theorem Jr {W w:World} {x8 x9:Array Value} {b8 b9 i:Nat} {l:Array Bool} (h:SW W x8 x9 b8 b9 l w) (hi:i<17):SW W x8 x9 b8 b9 (l.setIfInBounds i true) w:=by
 have G:∀ j,17<=j->(l.setIfInBounds i true).getD j false=l.getD j false:=fun j hj=>by rw [Zmf h.sz (by omega),if_neg (by omega)]
 refine ⟨by simp [h.sz],h.g,fun e => ?_,fun e => ?_,fun e e' => ?_,fun e=>by rw [G 19 (by omega)];exact h.no19 (by rw [<- G 17 (by omega)];exact e),fun e=>by rw [G 20 (by omega)];exact h.no20 (by rw [<- G 18 (by omega)];exact e)⟩
 · rw [G 19 (by omega)];exact h.n8 (by rw [<- G 17 (by omega)];exact e)
 · rw [G 20 (by omega)];exact h.n9 (by rw [<- G 18 (by omega)];exact e)
 · exact h.ne (by rw [<- G 17 (by omega)];exact e) (by rw [<- G 18 (by omega)];exact e')
theorem Xfv {W w:World} {x8 x9:Array Value} {b8 b9:Nat} {l:Array Bool} (h:SW W x8 x9 b8 b9 l w) (h19:l.getD 19 false=false):SW W x8 x9 w.heap.size b9 (l.setIfInBounds 17 true) (w.alloc (.cells zI 49)):=by
 have gA:w.grownBy (w.alloc (.cells zI 49)) none:=Ga _ _ _
 have G:∀ j,j≠17->(l.setIfInBounds 17 true).getD j false=l.getD j false:=fun j hj=>by rw [Zmf h.sz (by omega),if_neg hj]
 refine ⟨by simp [h.sz],Za h.g gA,fun _=>⟨h.g.size,?_⟩,fun e => ?_,fun _ e' => ?_,fun e=>by rw [G 19 (by omega)];exact h19,fun e=>by rw [G 20 (by omega)];exact h.no20 (by rw [<- G 18 (by omega)];exact e)⟩
 · rw [G 19 (by omega),h19,if_neg (by decide)];exact heap_alloc_new _ _
 · rw [G 20 (by omega)]
   obtain ⟨h1,h2⟩:=h.n9 (by rw [<- G 18 (by omega)];exact e)
   exact ⟨h1,Zb h2 gA (by simp)⟩
 · obtain ⟨h1,h2⟩:=h.n9 (by rw [<- G 18 (by omega)];exact e')
   have:=(Gs h2)
   omega
theorem Xfu {W w:World} {x8 x9:Array Value} {b8 b9:Nat} {l:Array Bool} (h:SW W x8 x9 b8 b9 l w) (h20:l.getD 20 false=false):SW W x8 x9 b8 w.heap.size (l.setIfInBounds 18 true) (w.alloc (.cells zF 52)):=by
 have gA:w.grownBy (w.alloc (.cells zF 52)) none:=Ga _ _ _
 have G:∀ j,j≠18->(l.setIfInBounds 18 true).getD j false=l.getD j false:=fun j hj=>by rw [Zmf h.sz (by omega),if_neg hj]
 refine ⟨by simp [h.sz],Za h.g gA,fun e => ?_,fun _=>⟨h.g.size,?_⟩,fun e _ => ?_,fun e=>by rw [G 19 (by omega)];exact h.no19 (by rw [<- G 17 (by omega)];exact e),fun e=>by rw [G 20 (by omega)];exact h20⟩
 · rw [G 19 (by omega)]
   obtain ⟨h1,h2⟩:=h.n8 (by rw [<- G 17 (by omega)];exact e)
   exact ⟨h1,Zb h2 gA (by simp)⟩
 · rw [G 20 (by omega),h20,if_neg (by decide)];exact heap_alloc_new _ _
 · obtain ⟨h1,h2⟩:=h.n8 (by rw [<- G 17 (by omega)];exact e)
   have:=(Gs h2)
   omega
theorem Xdb {W w w':World} {x8 x9:Array Value} {b8 b9:Nat} {l:Array Bool} (h:SW W x8 x9 b8 b9 l w) (h17:l.getD 17 false=true) (g:w.grownBy w' (some b8)) (hb:w'.heap[b8]? = some (.cells x8 49 (0,0))):SW W x8 x9 b8 b9 (l.setIfInBounds 19 true) w':=by
 have G:∀ j,j≠19->(l.setIfInBounds 19 true).getD j false=l.getD j false:=fun j hj=>by rw [Zmf h.sz (by omega),if_neg hj]
 refine ⟨by simp [h.sz],Yw h.g g (fun k hk=>by injection hk with hk;rw [<- hk];exact (h.n8 h17).1),fun _=>⟨(h.n8 h17).1,?_⟩,fun e => ?_,fun e e' => ?_,fun e=>(by rw [G 17 (by omega),h17] at e;cases e),fun e=>by rw [G 20 (by omega)];exact h.no20 (by rw [<- G 18 (by omega)];exact e)⟩
 · rw [Zmf h.sz (by omega),if_pos rfl,if_pos rfl];exact hb
 · rw [G 20 (by omega)]
   have e2:l.getD 18 false=true:=by rw [<- G 18 (by omega)];exact e
   obtain ⟨h1,h2⟩:=h.n9 e2
   exact ⟨h1,Zb h2 g (by intro e3;injection e3 with e3;exact h.ne h17 e2 e3)⟩
 · exact h.ne h17 (by rw [<- G 18 (by omega)];exact e')
theorem Xda {W w w':World} {x8 x9:Array Value} {b8 b9:Nat} {l:Array Bool} (h:SW W x8 x9 b8 b9 l w) (h18:l.getD 18 false=true) (g:w.grownBy w' (some b9)) (hb:w'.heap[b9]? = some (.cells x9 52 (0,0))):SW W x8 x9 b8 b9 (l.setIfInBounds 20 true) w':=by
 have G:∀ j,j≠20->(l.setIfInBounds 20 true).getD j false=l.getD j false:=fun j hj=>by rw [Zmf h.sz (by omega),if_neg hj]
 refine ⟨by simp [h.sz],Yw h.g g (fun k hk=>by injection hk with hk;rw [<- hk];exact (h.n9 h18).1),fun e => ?_,fun _=>⟨(h.n9 h18).1,?_⟩,fun e e' => ?_,fun e=>by rw [G 19 (by omega)];exact h.no19 (by rw [<- G 17 (by omega)];exact e),fun e=>(by rw [G 18 (by omega),h18] at e;cases e)⟩
 · rw [G 19 (by omega)]
   have e2:l.getD 17 false=true:=by rw [<- G 17 (by omega)];exact e
   obtain ⟨h1,h2⟩:=h.n8 e2
   exact ⟨h1,Zb h2 g (by intro e3;injection e3 with e3;exact h.ne e2 h18 e3.symm)⟩
 · rw [Zmf h.sz (by omega),if_pos rfl,if_pos rfl];exact hb
 · exact h.ne (by rw [<- G 17 (by omega)];exact e) h18
theorem Zyt {L:List Int} {m:Int} (h:∀ j:Nat,j<L.length->∀ n,L[j]? = some n->n<m):L.any (fun n=>decide (m<=n))=false:=by
 rw [List.any_eq_false]
 intro x hx
 obtain ⟨j,hj,rfl⟩:=List.getElem_of_mem hx
 have:=h j hj _ (List.getElem?_eq_getElem hj)
 simp;omega
theorem Zys {L:List Int} {m n:Int} {j:Nat} (h:L[j]? = some n) (hn:m<=n):L.any (fun n=>decide (m<=n))=true:=by
 rw [List.any_eq_true]
 exact ⟨n,List.mem_of_getElem? h,by simpa using hn⟩
theorem Yfx (mem:Int) (vd:Value) (fs:List FnP) (pF:Option Addr) (cF B f at_:Nat) (fn:FnP) (op a h:Int) (w:World) (hvd:∃ p n c,vd = .slice p n c) (hB:B<=w.heap.size) (hF:Yl w B pF fs) (hS:Znz fs f at_ fn op a) (hO:Xfb fs op a)
 (hh:0<=h/\h<=256) (ht:0<=(Zt fs fn.2.2.1 op a).1/\(Zt fs fn.2.2.1 op a).1<=64/\0<=(Zt fs fn.2.2.1 op a).2/\(Zt fs fn.2.2.1 op a).2<=64) (ha5:op=5->0<=a/\a<256) :
 Calls Try.prog 38 #[.agg #[.int .i64 mem,vd,.slice pF fs.length cF],.agg #[.int .i64 f,.int .i64 at_],.int .i64 h] w (Zwn w (Zdc fs fn at_ op a h)):=by
 obtain ⟨pd,nd,cd,rfl⟩:=hvd
 have T:=Hq (fun (W:World) (g:w.grownBy W none)=>Yfl mem (.slice pd nd cd) fs pF cF B f at_ fn op a W ⟨_,_,_,rfl⟩ (Nat.le_trans hB g.size) (Zq hF g (by simp)) hS hO)
 obtain ⟨ar,lo,r,c⟩:=fn
 have hf1:=(List.getElem?_eq_some_iff.1 hS.isf).1
 have ha1:=(List.getElem?_eq_some_iff.1 hS.ins).1
 have hnf:=hS.nf
 have hnc:=hS.nc
 simp only [] at ha1 hnc ht T
 obtain ⟨b,o,rfl,hb,hc⟩:=hF (by omega)
 obtain ⟨c0,c1,c2,pc,cc,c3,hcode⟩:=hc f ar lo r c hS.isf
 obtain ⟨b',o',rfl,hb',hc'⟩:=hcode (by omega)
 obtain ⟨d0,d1⟩:=hc' at_ op a hS.ins
 have hb2:b<w.heap.size:=by omega
 have hb2':b'<w.heap.size:=by omega
 have q1:(f:Int)<(fs.length:Int):=by omega
 have q2:(at_:Int)<(c.length:Int):=by omega
 have hgo:=Hq (fun (W:World)=>Zsi op a at_ W (by omega) (by omega))
 obtain ⟨tk,gk,htk⟩:∃ tk gk,Zt fs r op a=(tk,gk):=⟨_,_,rfl⟩
 rw [htk] at ht T
 simp only [] at ht
 clear hF hc hcode hc' hS hO
 go_enter Try.func38,Try.ntmps38
 go_wp2
 rename_i K hK
 have hb0:=Xc w (.cells #[.int .i64 mem,.slice pd nd cd,.slice (some ⟨b,o,none⟩) fs.length cF] 25) (.cells #[.int .i64 f,.int .i64 at_] 37)
 have hb1:=Yr w (.cells #[.int .i64 mem,.slice pd nd cd,.slice (some ⟨b,o,none⟩) fs.length cF] 25) (.cells #[.int .i64 f,.int .i64 at_] 37)
 have g2:=Za (Ga w (.cells #[.int .i64 mem,.slice pd nd cd,.slice (some ⟨b,o,none⟩) fs.length cF] 25) none) (Ga _ (.cells #[.int .i64 f,.int .i64 at_] 37) none)
 generalize (w.alloc (.cells #[.int .i64 mem,.slice pd nd cd,.slice (some ⟨b,o,none⟩) fs.length cF] 25)).alloc (.cells #[.int .i64 f,.int .i64 at_] 37)=W at *
 have x2:=Cq _ _ 2 _ _ _ hb0
 have y0:=Cq _ _ 0 _ _ _ hb1
 have y1:=Cq _ _ 1 _ _ _ hb1
 replace c0:=g2.cell c0 (by simp)
 replace c1:=g2.cell c1 (by simp)
 replace c2:=g2.cell c2 (by simp)
 replace c3:=g2.cell c3 (by simp)
 replace d0:=g2.cell d0 (by simp)
 replace d1:=g2.cell d1 (by simp)
 have G2:=Hq g2
 have HB0:=Hq hb0
 have HB1:=Hq hb1
 have hft:f<fs.length:=hf1
 have hat:at_<c.length:=ha1
 clear hb0 hb1 g2
 generalize hn0:w.heap.size=n0 at *
 refine Je (n:=21) (J:=fun a0 l a1 w1=>∃ b8 b9,RJ a0 81 21 sd (sdv n0 f at_ b o fs.length cF b' o' c.length cc b8 b9 op a ar lo r) l a1/\SW W (sI op a) (sF ar lo r (some ⟨b',o',none⟩) c.length cc) b8 b9 l w1) (by kernel_rfl) rfl (Zai (by kernel_rfl)) (fun l a1 w1 h=>by obtain ⟨b8,b9,h1,h2⟩:=h;exact h2.sz) ?start ?step ?fin
 case start=>exact ⟨0,0,Jd rfl,⟨by simp,⟨rfl,rfl,rfl,Nat.le_refl _,fun _ _ _=>rfl⟩,(fun h=>by rw [getD_replicate_false] at h;cases h),(fun h=>by rw [getD_replicate_false] at h;cases h),(fun h=>by rw [getD_replicate_false] at h;cases h),(fun _=>getD_replicate_false _ _),(fun _=>getD_replicate_false _ _)⟩⟩
 case step =>
  intro l a1 w' i hJJ hi hin
  obtain ⟨b8,b9,hJ,hW⟩:=hJJ
  have hun:l.getD i false=false:=getD_both (mem_ready.1 hi).1
  rcases Ytn i hin with rfl|rfl|rfl|rfl|rfl|rfl|rfl|rfl|rfl|rfl|rfl|rfl|rfl|rfl|rfl|rfl|rfl|rfl|rfl|rfl|rfl
  · have e3:a1.tmps.getD 3 undef = .pointer (some ⟨n0,0,none⟩):=hJ.un 3 (fun i hi _=>Ztu 3 (by decide) i hi)
    exact Zj (Zdd hJ rfl (by rfl) rfl (by decide) (by decide) (Zeh _ (by decide)) (w':=w') (by simp [execOp,resolve,invoke,builtin,Act.eval,e3,hft,hat,go_sem,sdv]) (Jr hW (by decide))) (fun a9 w9 h9=>⟨b8,b9,h9⟩)
  · have e16:a1.tmps.getD 16 undef = .pointer (some ⟨n0,2,none⟩):=(Zu hJ hi 0 (by kernel_rfl))
    have h0:=hW.g.cell x2 (by simp)
    exact Zj (Zdd hJ rfl (by rfl) rfl (by decide) (by decide) (Zeh _ (by decide)) (w':=w') (by simp [execOp,resolve,invoke,builtin,Act.eval,e16,h0,hft,hat,go_sem,sdv]) (Jr hW (by decide))) (fun a9 w9 h9=>⟨b8,b9,h9⟩)
  · have e4:a1.tmps.getD 4 undef = .pointer (some ⟨(n0+1),0,none⟩):=hJ.un 4 (fun i hi _=>Ztu 4 (by decide) i hi)
    exact Zj (Zdd hJ rfl (by rfl) rfl (by decide) (by decide) (Zeh _ (by decide)) (w':=w') (by simp [execOp,resolve,invoke,builtin,Act.eval,e4,hft,hat,go_sem,sdv]) (Jr hW (by decide))) (fun a9 w9 h9=>⟨b8,b9,h9⟩)
  · have e18:a1.tmps.getD 18 undef = .pointer (some ⟨(n0+1),0,none⟩):=(Zu hJ hi 2 (by kernel_rfl))
    have h0:=hW.g.cell y0 (by simp)
    exact Zj (Zdd hJ rfl (by rfl) rfl (by decide) (by decide) (Zeh _ (by decide)) (w':=w') (by simp [execOp,resolve,invoke,builtin,Act.eval,e18,h0,hft,hat,go_sem,sdv]) (Jr hW (by decide))) (fun a9 w9 h9=>⟨b8,b9,h9⟩)
  · have e17:a1.tmps.getD 17 undef = .slice (some ⟨b,o,none⟩) fs.length cF:=(Zu hJ hi 1 (by kernel_rfl))
    have e19:a1.tmps.getD 19 undef = .int .i64 f:=(Zu hJ hi 3 (by kernel_rfl))
    exact Zj (Zdd hJ rfl (by rfl) rfl (by decide) (by decide) (Zeh _ (by decide)) (w':=w') (by first|(simp [execOp,resolve,invoke,builtin,Act.eval,e17,e19,hft,hat,go_sem,sdv];done)|(simp [execOp,resolve,invoke,builtin,Act.eval,e17,e19,hft,hat,go_sem,sdv];omega)|(simp [execOp,resolve,invoke,builtin,Act.eval,e17,e19,hft,hat,go_sem,sdv];intro h;omega)|(simp [execOp,resolve,invoke,builtin,Act.eval,e17,e19,hft,hat,go_sem,sdv];intros;omega)) (Jr hW (by decide))) (fun a9 w9 h9=>⟨b8,b9,h9⟩)
  · have e20:a1.tmps.getD 20 undef = .pointer (some ⟨b,o+f*4,none⟩):=(Zu hJ hi 4 (by kernel_rfl))
    exact Zj (Zdd hJ rfl (by rfl) rfl (by decide) (by decide) (Zeh _ (by decide)) (w':=w') (by simp [execOp,resolve,invoke,builtin,Act.eval,e20,hft,hat,go_sem,sdv]) (Jr hW (by decide))) (fun a9 w9 h9=>⟨b8,b9,h9⟩)
  · have e21:a1.tmps.getD 21 undef = .pointer (some ⟨b,o+f*4+3,none⟩):=(Zu hJ hi 5 (by kernel_rfl))
    have h0:=hW.g.cell c3 (by simp)
    exact Zj (Zdd hJ rfl (by rfl) rfl (by decide) (by decide) (Zeh _ (by decide)) (w':=w') (by simp [execOp,resolve,invoke,builtin,Act.eval,e21,h0,hft,hat,go_sem,sdv]) (Jr hW (by decide))) (fun a9 w9 h9=>⟨b8,b9,h9⟩)
  · have e4:a1.tmps.getD 4 undef = .pointer (some ⟨(n0+1),0,none⟩):=hJ.un 4 (fun i hi _=>Ztu 4 (by decide) i hi)
    exact Zj (Zdd hJ rfl (by rfl) rfl (by decide) (by decide) (Zeh _ (by decide)) (w':=w') (by simp [execOp,resolve,invoke,builtin,Act.eval,e4,hft,hat,go_sem,sdv]) (Jr hW (by decide))) (fun a9 w9 h9=>⟨b8,b9,h9⟩)
  · have e23:a1.tmps.getD 23 undef = .pointer (some ⟨(n0+1),1,none⟩):=(Zu hJ hi 7 (by kernel_rfl))
    have h0:=hW.g.cell y1 (by simp)
    exact Zj (Zdd hJ rfl (by rfl) rfl (by decide) (by decide) (Zeh _ (by decide)) (w':=w') (by simp [execOp,resolve,invoke,builtin,Act.eval,e23,h0,hft,hat,go_sem,sdv]) (Jr hW (by decide))) (fun a9 w9 h9=>⟨b8,b9,h9⟩)
  · have e22:a1.tmps.getD 22 undef = .slice (some ⟨b',o',none⟩) c.length cc:=(Zu hJ hi 6 (by kernel_rfl))
    have e24:a1.tmps.getD 24 undef = .int .i64 at_:=(Zu hJ hi 8 (by kernel_rfl))
    exact Zj (Zdd hJ rfl (by rfl) rfl (by decide) (by decide) (Zeh _ (by decide)) (w':=w') (by first|(simp [execOp,resolve,invoke,builtin,Act.eval,e22,e24,hft,hat,go_sem,sdv];done)|(simp [execOp,resolve,invoke,builtin,Act.eval,e22,e24,hft,hat,go_sem,sdv];omega)|(simp [execOp,resolve,invoke,builtin,Act.eval,e22,e24,hft,hat,go_sem,sdv];intro h;omega)|(simp [execOp,resolve,invoke,builtin,Act.eval,e22,e24,hft,hat,go_sem,sdv];intros;omega)) (Jr hW (by decide))) (fun a9 w9 h9=>⟨b8,b9,h9⟩)
  · have e25:a1.tmps.getD 25 undef = .pointer (some ⟨b',o'+at_*2,none⟩):=(Zu hJ hi 9 (by kernel_rfl))
    have h0:=hW.g.cell d0 (by simp)
    have h1:=hW.g.cell d1 (by simp)
    exact Zj (Zdd hJ rfl (by rfl) rfl (by decide) (by decide) (Zeh _ (by decide)) (w':=w') (by simp [execOp,resolve,invoke,builtin,Act.eval,e25,h0,h1,hft,hat,go_sem,sdv]) (Jr hW (by decide))) (fun a9 w9 h9=>⟨b8,b9,h9⟩)
  · have e3:a1.tmps.getD 3 undef = .pointer (some ⟨n0,0,none⟩):=hJ.un 3 (fun i hi _=>Ztu 3 (by decide) i hi)
    exact Zj (Zdd hJ rfl (by rfl) rfl (by decide) (by decide) (Zeh _ (by decide)) (w':=w') (by simp [execOp,resolve,invoke,builtin,Act.eval,e3,hft,hat,go_sem,sdv]) (Jr hW (by decide))) (fun a9 w9 h9=>⟨b8,b9,h9⟩)
  · have e27:a1.tmps.getD 27 undef = .pointer (some ⟨n0,2,none⟩):=(Zu hJ hi 11 (by kernel_rfl))
    have h0:=hW.g.cell x2 (by simp)
    exact Zj (Zdd hJ rfl (by rfl) rfl (by decide) (by decide) (Zeh _ (by decide)) (w':=w') (by simp [execOp,resolve,invoke,builtin,Act.eval,e27,h0,hft,hat,go_sem,sdv]) (Jr hW (by decide))) (fun a9 w9 h9=>⟨b8,b9,h9⟩)
  · have e4:a1.tmps.getD 4 undef = .pointer (some ⟨(n0+1),0,none⟩):=hJ.un 4 (fun i hi _=>Ztu 4 (by decide) i hi)
    exact Zj (Zdd hJ rfl (by rfl) rfl (by decide) (by decide) (Zeh _ (by decide)) (w':=w') (by simp [execOp,resolve,invoke,builtin,Act.eval,e4,hft,hat,go_sem,sdv]) (Jr hW (by decide))) (fun a9 w9 h9=>⟨b8,b9,h9⟩)
  · have e29:a1.tmps.getD 29 undef = .pointer (some ⟨(n0+1),0,none⟩):=(Zu hJ hi 13 (by kernel_rfl))
    have h0:=hW.g.cell y0 (by simp)
    exact Zj (Zdd hJ rfl (by rfl) rfl (by decide) (by decide) (Zeh _ (by decide)) (w':=w') (by simp [execOp,resolve,invoke,builtin,Act.eval,e29,h0,hft,hat,go_sem,sdv]) (Jr hW (by decide))) (fun a9 w9 h9=>⟨b8,b9,h9⟩)
  · have e28:a1.tmps.getD 28 undef = .slice (some ⟨b,o,none⟩) fs.length cF:=(Zu hJ hi 12 (by kernel_rfl))
    have e30:a1.tmps.getD 30 undef = .int .i64 f:=(Zu hJ hi 14 (by kernel_rfl))
    exact Zj (Zdd hJ rfl (by rfl) rfl (by decide) (by decide) (Zeh _ (by decide)) (w':=w') (by first|(simp [execOp,resolve,invoke,builtin,Act.eval,e28,e30,hft,hat,go_sem,sdv];done)|(simp [execOp,resolve,invoke,builtin,Act.eval,e28,e30,hft,hat,go_sem,sdv];omega)|(simp [execOp,resolve,invoke,builtin,Act.eval,e28,e30,hft,hat,go_sem,sdv];intro h;omega)|(simp [execOp,resolve,invoke,builtin,Act.eval,e28,e30,hft,hat,go_sem,sdv];intros;omega)) (Jr hW (by decide))) (fun a9 w9 h9=>⟨b8,b9,h9⟩)
  · have e31:a1.tmps.getD 31 undef = .pointer (some ⟨b,o+f*4,none⟩):=(Zu hJ hi 15 (by kernel_rfl))
    have h0:=hW.g.cell c0 (by simp)
    have h1:=hW.g.cell c1 (by simp)
    have h2:=hW.g.cell c2 (by simp)
    have h3:=hW.g.cell c3 (by simp)
    exact Zj (Zdd hJ rfl (by rfl) rfl (by decide) (by decide) (Zeh _ (by decide)) (w':=w') (by simp [execOp,resolve,invoke,builtin,Act.eval,e31,h0,h1,h2,h3,hft,hat,go_sem,sdv]) (Jr hW (by decide))) (fun a9 w9 h9=>⟨b8,b9,h9⟩)
  · have hnl:l.getD 19 false=false:=hW.no19 hun
    refine Zec rfl rfl (v := .pointer (some ⟨w'.heap.size,0,none⟩)) (w':=w'.alloc (.cells zI 49)) (by simp [execOp,go_sem,zI]) ?_
    exact ⟨w'.heap.size,b9,Zch (val:=sdv n0 f at_ b o fs.length cF b' o' c.length cc w'.heap.size b9 op a ar lo r) (Zbe hJ (Xde l hun)) (by decide) (by decide) (Zeh _ (by decide)),Xfv hW hnl⟩
  · have hnl:l.getD 20 false=false:=hW.no20 hun
    refine Zec rfl rfl (v := .pointer (some ⟨w'.heap.size,0,none⟩)) (w':=w'.alloc (.cells zF 52)) (by simp [execOp,go_sem,zF]) ?_
    exact ⟨b8,w'.heap.size,Zch (val:=sdv n0 f at_ b o fs.length cF b' o' c.length cc b8 w'.heap.size op a ar lo r) (Zbe hJ (Xdd l hun)) (by decide) (by decide) (Zeh _ (by decide)),Xfu hW hnl⟩
  · have h17:l.getD 17 false=true:=Zl hi 17 (by kernel_rfl)
    have e8:a1.tmps.getD 8 undef = .pointer (some ⟨b8,0,none⟩):=(hJ.sl 17 (by decide) h17 (by decide))
    have e26:a1.tmps.getD 26 undef = .agg #[.int .i64 op,.int .i64 a]:=(Zu hJ hi 10 (by kernel_rfl))
    have hbx:=(hW.n8 h17).2
    rw [hun,if_neg (by decide)] at hbx
    have k0:=Cq _ _ 0 _ _ _ hbx
    have k1:=Cq _ _ 1 _ _ _ hbx
    have z0:=frozen_of_row _ _ 0 _ _ hbx
    have z1:=frozen_of_row _ _ 1 _ _ hbx
    refine Zgd rfl rfl rfl (w':=(w'.setCell ⟨b8,0,none⟩ (.int .i64 op)).setCell ⟨b8,1,none⟩ (.int .i64 a)) (by simp [execOp,Act.eval,e8,e26,k0,k1,z0,z1,go_sem,zI]) ?_
    exact ⟨b8,b9,Zmm hJ (by decide) (by decide),Xdb hW h17 (Za (Zh _ _ _ _) (Zh _ _ _ _)) (by rw [Zg (Zg hbx)];rfl)⟩
  · have h18:l.getD 18 false=true:=Zl hi 18 (by kernel_rfl)
    have e9:a1.tmps.getD 9 undef = .pointer (some ⟨b9,0,none⟩):=(hJ.sl 18 (by decide) h18 (by decide))
    have e32:a1.tmps.getD 32 undef = .agg #[.int .i64 ar,.int .i64 lo,.int .i64 r,.slice (some ⟨b',o',none⟩) c.length cc]:=(Zu hJ hi 16 (by kernel_rfl))
    have hbx:=(hW.n9 h18).2
    rw [hun,if_neg (by decide)] at hbx
    have k0:=Cq _ _ 0 _ _ _ hbx
    have k1:=Cq _ _ 1 _ _ _ hbx
    have k2:=Cq _ _ 2 _ _ _ hbx
    have k3:=Cq _ _ 3 _ _ _ hbx
    have z0:=frozen_of_row _ _ 0 _ _ hbx
    have z1:=frozen_of_row _ _ 1 _ _ hbx
    have z2:=frozen_of_row _ _ 2 _ _ hbx
    have z3:=frozen_of_row _ _ 3 _ _ hbx
    refine Zgd rfl rfl rfl (w':=(((w'.setCell ⟨b9,0,none⟩ (.int .i64 ar)).setCell ⟨b9,1,none⟩ (.int .i64 lo)).setCell ⟨b9,2,none⟩ (.int .i64 r)).setCell ⟨b9,3,none⟩ (.slice (some ⟨b',o',none⟩) c.length cc)) (by simp [execOp,Act.eval,e9,e32,k0,k1,k2,k3,z0,z1,z2,z3,go_sem,zF]) ?_
    exact ⟨b8,b9,Zmm hJ (by decide) (by decide),Xda hW h18 (Za (Za (Za (Zh _ _ _ _) (Zh _ _ _ _)) (Zh _ _ _ _)) (Zh _ _ _ _)) (by rw [Zg (Zg (Zg (Zg hbx)))];rfl)⟩
 case fin =>
  intro l a1 w' hJJ hl
  obtain ⟨b8,b9,hJ,hW⟩:=hJJ
  have hput:=Zag hJ rfl hl (fun i j h1 h2 h3=>Zeh j h2 i h1 h3)
  subst hput
  refine hK _ _ ?_
  simp only [Zay,sd,sdv,Act.put,List.setIfInBounds_toArray,List.set_cons_zero,List.set_cons_succ]
  clear hJ
  have g5:=hW.g
  have h8:=(hW.n8 (hl 17 (by decide))).2
  have h9:=(hW.n9 (hl 18 (by decide))).2
  rw [hl 19 (by decide),if_pos rfl] at h8
  rw [hl 20 (by decide),if_pos rfl] at h9
  unfold sI at h8
  unfold sF at h9
  clear hW hl
  have hb0:=Zb HB0.out g5 (by simp)
  have hb1:=Zb HB1.out g5 (by simp)
  have G5:=Hq (Za G2.out g5)
  have TT:=Hq (T.out w' G5.out)
  clear c0 c1 c2 c3 d0 d1 x2 y0 y1 g5 hb2 hb2'
  have x0:=Cq _ _ 0 _ _ _ hb0
  have x1:=Cq _ _ 1 _ _ _ hb0
  have x2:=Cq _ _ 2 _ _ _ hb0
  have y0:=Cq _ _ 0 _ _ _ hb1
  have y1:=Cq _ _ 1 _ _ _ hb1
  have s0:=(Gs hb0)
  have s1:=(Gs hb1)
  have H8:=Hq h8
  have H9:=Hq h9
  have HB1':=Hq hb1
  clear hb0 hb1 h8 h9 HB0 HB1
  have hE0:Zdc fs (ar,lo,r,c) at_ op a h=if op=18 then (if h=r then (0,0) else (138,0)) else if h<(if op=5 then a+1 else tk) then (134,0) else if 256<h - tk+gk then (135,0) else if (Yy op a at_).any (fun n=>decide ((c.length:Int)<=n))=true then (137,0) else (0,h - tk+gk):=by unfold Zdc;rw [htk]
  have hret:op=18->tk=r/\gk=0:=fun e=>by
   have h1:=htk
   unfold Zt at h1
   rw [if_neg (by omega),if_pos e] at h1
   injection h1 with h1 h2
   exact ⟨h1.symm,h2.symm⟩
  have hgr:op=18->Yy op a at_=[]:=fun e=>by unfold Yy;rw [if_pos (Or.inr (Or.inr e))]
  have HE:=Hq hE0
  have HR:=Hq hret
  have HG:=Hq hgr
  have HA:=Hq ha5
  clear hE0 hret hgr htk T ha5
  have hL2:((Yy op a at_).length:Int)<=2:=by have:=Zgp op a at_;omega
  generalize Yy op a at_=L at *
  by_cases h18:op=18
  · obtain ⟨rfl,rfl⟩:=HR.out h18
    have hE:=HE.out
    rw [if_pos h18] at hE
    have hg0:=HG.out h18
    subst h18
    by_cases hr:h=tk
    · subst hr
      have hE2:Zdc fs (ar,lo,h,c) at_ 18 a h=if L.any (fun n=>decide ((c.length:Int)<=n))=true then (137,0) else (0,0):=by rw [hE,if_pos rfl,hg0];rfl
      clear hE hg0
      have hE:=hE2
      clear hE2
      (
        have HEE:=Hq hE
        clear hE
        (
          go_wp2_with (first
           | (go_at_call 63;refine TT.out.mono ?_;rintro e w3 ⟨rfl,hg3⟩;have G3:=Hq (Za G5.out hg3);have k8:=Zb H8.out hg3 (by simp);have k9:=Zb H9.out hg3 (by simp);have k1:=Zb HB1'.out hg3 (by simp);have p0:=Cq _ _ 0 _ _ _ k8;have p1:=Cq _ _ 1 _ _ _ k8;have r2:=Cq _ _ 2 _ _ _ k9;have r3:=Cq _ _ 3 _ _ _ k9;have t1:=Cq _ _ 1 _ _ _ k1;have sp8:=(Gs k8);have sp9:=(Gs k9);have sp1:=(Gs k1);clear x0 x1 x2 y0 y1 s0 s1 hg3 k8 k9 k1)
           | (go_at_call 39;refine (hgo.out _).mono ?_;rintro e w4 ⟨v4,rfl,hg4,ho4⟩;obtain ⟨p4,c4,hv4⟩:=Zp ho4;subst hv4;have G4:=Hq (Za G3.out hg4);have O4:=Hq ho4;replace r3:=hg4.cell r3 (by simp);replace sp9:b9<w4.heap.size:=Nat.lt_of_lt_of_le sp9 hg4.size;clear p0 p1 r2 t1 sp8 sp1 hg4 ho4)))
        clear TT H8 H9 HB1' HR HG HE
        go_loopw [70] (fun i wr=>wr=w4/\∃ k:Nat,i = .int .i64 k/\k<=L.length/\∀ j:Nat,j<k->∀ n,L[j]? = some n->n<(c.length:Int)) (fun i _=>L.length - (intOf i).toNat)
        case atStart=>exact ⟨rfl,0,rfl,Nat.zero_le _,fun j hj=>by omega⟩
        case round =>
         obtain ⟨rfl,k,rfl,hk,hno⟩:=hrel
         by_cases hlt:(k:Int)<(L.length:Int)
         · obtain ⟨n,hn⟩:∃ n,L[k]? = some n:=⟨_,List.getElem?_eq_getElem (by omega)⟩
           obtain ⟨g4,k4,e4,l4,cc4⟩:=Zx O4.out (by omega)
           injection e4 with e41 e42 e43
           subst e41
           have cn:=cc4 k (.int .i64 n) (by rw [List.getElem?_map,hn];rfl) (by omega)
           have HN:=Hq hn
           have HO:=Hq hno
           clear cc4 hn hno
           by_cases hge:(c.length:Int)<=n
           · have hy:=Zys HN.out hge
             have hE:=HEE.out
             rw [if_pos hy] at hE
             have H2:=Hq hE
             clear hy hE
             go_wp2
             go_ret2
             rw [H2.out]
             exact ⟨rfl,G4.out⟩
           · go_wp2
             go_roundw
             case rel=>exact ⟨(by first|rfl|trivial),k+1,by go_num,by omega,fun j hj m hm=>by
              by_cases e:j=k
              · subst e;rw [HN.out] at hm;injection hm with hm;omega
              · exact HO.out j (by omega) m hm⟩
             case measure=>simp [intOf];omega
         · have hn:=Zyt (L:=L) (m:=(c.length:Int)) fun j hj=>hno j (by omega)
           have hE:=HEE.out
           rw [if_neg (by rw [hn];exact Bool.false_ne_true)] at hE
           have H2:=Hq hE
           clear hn hno hE
           go_wp2
           go_ret2
           rw [H2.out]
           exact ⟨rfl,G4.out⟩)
    · have b1:(h != tk)=true:=by simpa using hr
      rw [if_neg hr] at hE
      clear hr
      (
        (
          go_wp2_with (first
           | (go_at_call 63;refine TT.out.mono ?_;rintro e w3 ⟨rfl,hg3⟩;have G3:=Hq (Za G5.out hg3);have k8:=Zb H8.out hg3 (by simp);have k9:=Zb H9.out hg3 (by simp);have k1:=Zb HB1'.out hg3 (by simp);have p0:=Cq _ _ 0 _ _ _ k8;have p1:=Cq _ _ 1 _ _ _ k8;have r2:=Cq _ _ 2 _ _ _ k9;have r3:=Cq _ _ 3 _ _ _ k9;have t1:=Cq _ _ 1 _ _ _ k1;have sp8:=(Gs k8);have sp9:=(Gs k9);have sp1:=(Gs k1);clear x0 x1 x2 y0 y1 s0 s1 hg3 k8 k9 k1)
           | (go_at_call 39;refine (hgo.out _).mono ?_;rintro e w4 ⟨v4,rfl,hg4,ho4⟩;obtain ⟨p4,c4,hv4⟩:=Zp ho4;subst hv4;have G4:=Hq (Za G3.out hg4);have O4:=Hq ho4;replace r3:=hg4.cell r3 (by simp);replace sp9:b9<w4.heap.size:=Nat.lt_of_lt_of_le sp9 hg4.size;clear p0 p1 r2 t1 sp8 sp1 hg4 ho4)))
        go_ret2
        rw [hE]
        exact ⟨rfl,G3.out⟩)
  · have hE:=HE.out
    rw [if_neg h18] at hE
    have b18:(op == 18)=false:=beq_eq_false_iff_ne.2 h18
    by_cases h5:op=5
    · obtain ⟨a50,a51⟩:=HA.out h5
      rw [if_pos h5] at hE
      subst h5
      clear h18
      by_cases hw:h<a+1
      · rw [if_pos hw] at hE
        (
          (
            go_wp2_with (first
             | (go_at_call 63;refine TT.out.mono ?_;rintro e w3 ⟨rfl,hg3⟩;have G3:=Hq (Za G5.out hg3);have k8:=Zb H8.out hg3 (by simp);have k9:=Zb H9.out hg3 (by simp);have k1:=Zb HB1'.out hg3 (by simp);have p0:=Cq _ _ 0 _ _ _ k8;have p1:=Cq _ _ 1 _ _ _ k8;have r2:=Cq _ _ 2 _ _ _ k9;have r3:=Cq _ _ 3 _ _ _ k9;have t1:=Cq _ _ 1 _ _ _ k1;have sp8:=(Gs k8);have sp9:=(Gs k9);have sp1:=(Gs k1);clear x0 x1 x2 y0 y1 s0 s1 hg3 k8 k9 k1)
             | (go_at_call 39;refine (hgo.out _).mono ?_;rintro e w4 ⟨v4,rfl,hg4,ho4⟩;obtain ⟨p4,c4,hv4⟩:=Zp ho4;subst hv4;have G4:=Hq (Za G3.out hg4);have O4:=Hq ho4;replace r3:=hg4.cell r3 (by simp);replace sp9:b9<w4.heap.size:=Nat.lt_of_lt_of_le sp9 hg4.size;clear p0 p1 r2 t1 sp8 sp1 hg4 ho4)))
          go_ret2
          rw [hE]
          exact ⟨rfl,G3.out⟩)
      · rw [if_neg hw] at hE
        by_cases hb:256<h - tk+gk
        · rw [if_pos hb] at hE
          (
            (
              go_wp2_with (first
               | (go_at_call 63;refine TT.out.mono ?_;rintro e w3 ⟨rfl,hg3⟩;have G3:=Hq (Za G5.out hg3);have k8:=Zb H8.out hg3 (by simp);have k9:=Zb H9.out hg3 (by simp);have k1:=Zb HB1'.out hg3 (by simp);have p0:=Cq _ _ 0 _ _ _ k8;have p1:=Cq _ _ 1 _ _ _ k8;have r2:=Cq _ _ 2 _ _ _ k9;have r3:=Cq _ _ 3 _ _ _ k9;have t1:=Cq _ _ 1 _ _ _ k1;have sp8:=(Gs k8);have sp9:=(Gs k9);have sp1:=(Gs k1);clear x0 x1 x2 y0 y1 s0 s1 hg3 k8 k9 k1)
               | (go_at_call 39;refine (hgo.out _).mono ?_;rintro e w4 ⟨v4,rfl,hg4,ho4⟩;obtain ⟨p4,c4,hv4⟩:=Zp ho4;subst hv4;have G4:=Hq (Za G3.out hg4);have O4:=Hq ho4;replace r3:=hg4.cell r3 (by simp);replace sp9:b9<w4.heap.size:=Nat.lt_of_lt_of_le sp9 hg4.size;clear p0 p1 r2 t1 sp8 sp1 hg4 ho4)))
            go_ret2
            rw [hE]
            exact ⟨rfl,G3.out⟩)
        · rw [if_neg hb] at hE
          (
            have HEE:=Hq hE
            clear hE
            (
              go_wp2_with (first
               | (go_at_call 63;refine TT.out.mono ?_;rintro e w3 ⟨rfl,hg3⟩;have G3:=Hq (Za G5.out hg3);have k8:=Zb H8.out hg3 (by simp);have k9:=Zb H9.out hg3 (by simp);have k1:=Zb HB1'.out hg3 (by simp);have p0:=Cq _ _ 0 _ _ _ k8;have p1:=Cq _ _ 1 _ _ _ k8;have r2:=Cq _ _ 2 _ _ _ k9;have r3:=Cq _ _ 3 _ _ _ k9;have t1:=Cq _ _ 1 _ _ _ k1;have sp8:=(Gs k8);have sp9:=(Gs k9);have sp1:=(Gs k1);clear x0 x1 x2 y0 y1 s0 s1 hg3 k8 k9 k1)
               | (go_at_call 39;refine (hgo.out _).mono ?_;rintro e w4 ⟨v4,rfl,hg4,ho4⟩;obtain ⟨p4,c4,hv4⟩:=Zp ho4;subst hv4;have G4:=Hq (Za G3.out hg4);have O4:=Hq ho4;replace r3:=hg4.cell r3 (by simp);replace sp9:b9<w4.heap.size:=Nat.lt_of_lt_of_le sp9 hg4.size;clear p0 p1 r2 t1 sp8 sp1 hg4 ho4)))
            clear TT H8 H9 HB1' HR HG HE
            go_loopw [70] (fun i wr=>wr=w4/\∃ k:Nat,i = .int .i64 k/\k<=L.length/\∀ j:Nat,j<k->∀ n,L[j]? = some n->n<(c.length:Int)) (fun i _=>L.length - (intOf i).toNat)
            case atStart=>exact ⟨rfl,0,rfl,Nat.zero_le _,fun j hj=>by omega⟩
            case round =>
             obtain ⟨rfl,k,rfl,hk,hno⟩:=hrel
             by_cases hlt:(k:Int)<(L.length:Int)
             · obtain ⟨n,hn⟩:∃ n,L[k]? = some n:=⟨_,List.getElem?_eq_getElem (by omega)⟩
               obtain ⟨g4,k4,e4,l4,cc4⟩:=Zx O4.out (by omega)
               injection e4 with e41 e42 e43
               subst e41
               have cn:=cc4 k (.int .i64 n) (by rw [List.getElem?_map,hn];rfl) (by omega)
               have HN:=Hq hn
               have HO:=Hq hno
               clear cc4 hn hno
               by_cases hge:(c.length:Int)<=n
               · have hy:=Zys HN.out hge
                 have hE:=HEE.out
                 rw [if_pos hy] at hE
                 have H2:=Hq hE
                 clear hy hE
                 go_wp2
                 go_ret2
                 rw [H2.out]
                 exact ⟨rfl,G4.out⟩
               · go_wp2
                 go_roundw
                 case rel=>exact ⟨(by first|rfl|trivial),k+1,by go_num,by omega,fun j hj m hm=>by
                  by_cases e:j=k
                  · subst e;rw [HN.out] at hm;injection hm with hm;omega
                  · exact HO.out j (by omega) m hm⟩
                 case measure=>simp [intOf];omega
             · have hn:=Zyt (L:=L) (m:=(c.length:Int)) fun j hj=>hno j (by omega)
               have hE:=HEE.out
               rw [if_neg (by rw [hn];exact Bool.false_ne_true)] at hE
               have H2:=Hq hE
               clear hn hno hE
               go_wp2
               go_ret2
               rw [H2.out]
               exact ⟨rfl,G4.out⟩)
    · have b5:(op == 5)=false:=beq_eq_false_iff_ne.2 h5
      rw [if_neg h5] at hE
      clear h18 h5
      by_cases hw:h<tk
      · rw [if_pos hw] at hE
        (
          (
            go_wp2_with (first
             | (go_at_call 63;refine TT.out.mono ?_;rintro e w3 ⟨rfl,hg3⟩;have G3:=Hq (Za G5.out hg3);have k8:=Zb H8.out hg3 (by simp);have k9:=Zb H9.out hg3 (by simp);have k1:=Zb HB1'.out hg3 (by simp);have p0:=Cq _ _ 0 _ _ _ k8;have p1:=Cq _ _ 1 _ _ _ k8;have r2:=Cq _ _ 2 _ _ _ k9;have r3:=Cq _ _ 3 _ _ _ k9;have t1:=Cq _ _ 1 _ _ _ k1;have sp8:=(Gs k8);have sp9:=(Gs k9);have sp1:=(Gs k1);clear x0 x1 x2 y0 y1 s0 s1 hg3 k8 k9 k1)
             | (go_at_call 39;refine (hgo.out _).mono ?_;rintro e w4 ⟨v4,rfl,hg4,ho4⟩;obtain ⟨p4,c4,hv4⟩:=Zp ho4;subst hv4;have G4:=Hq (Za G3.out hg4);have O4:=Hq ho4;replace r3:=hg4.cell r3 (by simp);replace sp9:b9<w4.heap.size:=Nat.lt_of_lt_of_le sp9 hg4.size;clear p0 p1 r2 t1 sp8 sp1 hg4 ho4)))
          go_ret2
          rw [hE]
          exact ⟨rfl,G3.out⟩)
      · rw [if_neg hw] at hE
        by_cases hb:256<h - tk+gk
        · rw [if_pos hb] at hE
          (
            (
              go_wp2_with (first
               | (go_at_call 63;refine TT.out.mono ?_;rintro e w3 ⟨rfl,hg3⟩;have G3:=Hq (Za G5.out hg3);have k8:=Zb H8.out hg3 (by simp);have k9:=Zb H9.out hg3 (by simp);have k1:=Zb HB1'.out hg3 (by simp);have p0:=Cq _ _ 0 _ _ _ k8;have p1:=Cq _ _ 1 _ _ _ k8;have r2:=Cq _ _ 2 _ _ _ k9;have r3:=Cq _ _ 3 _ _ _ k9;have t1:=Cq _ _ 1 _ _ _ k1;have sp8:=(Gs k8);have sp9:=(Gs k9);have sp1:=(Gs k1);clear x0 x1 x2 y0 y1 s0 s1 hg3 k8 k9 k1)
               | (go_at_call 39;refine (hgo.out _).mono ?_;rintro e w4 ⟨v4,rfl,hg4,ho4⟩;obtain ⟨p4,c4,hv4⟩:=Zp ho4;subst hv4;have G4:=Hq (Za G3.out hg4);have O4:=Hq ho4;replace r3:=hg4.cell r3 (by simp);replace sp9:b9<w4.heap.size:=Nat.lt_of_lt_of_le sp9 hg4.size;clear p0 p1 r2 t1 sp8 sp1 hg4 ho4)))
            go_ret2
            rw [hE]
            exact ⟨rfl,G3.out⟩)
        · rw [if_neg hb] at hE
          (
            have HEE:=Hq hE
            clear hE
            (
              go_wp2_with (first
               | (go_at_call 63;refine TT.out.mono ?_;rintro e w3 ⟨rfl,hg3⟩;have G3:=Hq (Za G5.out hg3);have k8:=Zb H8.out hg3 (by simp);have k9:=Zb H9.out hg3 (by simp);have k1:=Zb HB1'.out hg3 (by simp);have p0:=Cq _ _ 0 _ _ _ k8;have p1:=Cq _ _ 1 _ _ _ k8;have r2:=Cq _ _ 2 _ _ _ k9;have r3:=Cq _ _ 3 _ _ _ k9;have t1:=Cq _ _ 1 _ _ _ k1;have sp8:=(Gs k8);have sp9:=(Gs k9);have sp1:=(Gs k1);clear x0 x1 x2 y0 y1 s0 s1 hg3 k8 k9 k1)
               | (go_at_call 39;refine (hgo.out _).mono ?_;rintro e w4 ⟨v4,rfl,hg4,ho4⟩;obtain ⟨p4,c4,hv4⟩:=Zp ho4;subst hv4;have G4:=Hq (Za G3.out hg4);have O4:=Hq ho4;replace r3:=hg4.cell r3 (by simp);replace sp9:b9<w4.heap.size:=Nat.lt_of_lt_of_le sp9 hg4.size;clear p0 p1 r2 t1 sp8 sp1 hg4 ho4)))
            clear TT H8 H9 HB1' HR HG HE
            go_loopw [70] (fun i wr=>wr=w4/\∃ k:Nat,i = .int .i64 k/\k<=L.length/\∀ j:Nat,j<k->∀ n,L[j]? = some n->n<(c.length:Int)) (fun i _=>L.length - (intOf i).toNat)
            case atStart=>exact ⟨rfl,0,rfl,Nat.zero_le _,fun j hj=>by omega⟩
            case round =>
             obtain ⟨rfl,k,rfl,hk,hno⟩:=hrel
             by_cases hlt:(k:Int)<(L.length:Int)
             · obtain ⟨n,hn⟩:∃ n,L[k]? = some n:=⟨_,List.getElem?_eq_getElem (by omega)⟩
               obtain ⟨g4,k4,e4,l4,cc4⟩:=Zx O4.out (by omega)
               injection e4 with e41 e42 e43
               subst e41
               have cn:=cc4 k (.int .i64 n) (by rw [List.getElem?_map,hn];rfl) (by omega)
               have HN:=Hq hn
               have HO:=Hq hno
               clear cc4 hn hno
               by_cases hge:(c.length:Int)<=n
               · have hy:=Zys HN.out hge
                 have hE:=HEE.out
                 rw [if_pos hy] at hE
                 have H2:=Hq hE
                 clear hy hE
                 go_wp2
                 go_ret2
                 rw [H2.out]
                 exact ⟨rfl,G4.out⟩
               · go_wp2
                 go_roundw
                 case rel=>exact ⟨(by first|rfl|trivial),k+1,by go_num,by omega,fun j hj m hm=>by
                  by_cases e:j=k
                  · subst e;rw [HN.out] at hm;injection hm with hm;omega
                  · exact HO.out j (by omega) m hm⟩
                 case measure=>simp [intOf];omega
             · have hn:=Zyt (L:=L) (m:=(c.length:Int)) fun j hj=>hno j (by omega)
               have hE:=HEE.out
               rw [if_neg (by rw [hn];exact Bool.false_ne_true)] at hE
               have H2:=Hq hE
               clear hn hno hE
               go_wp2
               go_ret2
               rw [H2.out]
               exact ⟨rfl,G4.out⟩)
def opE (nf len:Nat) (lo:Int) (x:Int × Int):Int :=
 if x.1=14\/x.1=15\/x.1=16 then (if (len:Int)<=x.2 then 131 else 0)
 else if x.1=7\/x.1=8 then (if lo<=x.2 then 132 else 0)
 else if x.1=17 then (if (nf:Int)<=x.2 then 133 else 0) else 0
structure Xbs (fs:List FnP) (fn:FnP) (op a:Int):Prop where
 ok:Xfb fs op a
 t0:0<=(Zt fs fn.2.2.1 op a).1
 t1:(Zt fs fn.2.2.1 op a).1<=64
 g0:0<=(Zt fs fn.2.2.1 op a).2
 g1:(Zt fs fn.2.2.1 op a).2<=64
 copy:op=5->0<=a/\a<256
 jump:op=14\/op=15\/op=16->0<=a/\a<fn.2.2.2.length
structure Zjp (fs:List FnP):Prop where
 nf:fs.length<=64
 n1:1<=fs.length
 args:∀ fn∈fs,0<=fn.1/\fn.1<=16/\fn.1<=fn.2.1/\fn.2.1<=64/\0<=fn.2.2.1/\fn.2.2.1<=1
 len:∀ fn∈fs,1<=fn.2.2.2.length/\fn.2.2.2.length<=4096
 ins:∀ fn∈fs,∀ x∈fn.2.2.2,Xbs fs fn x.1 x.2
theorem Zje:∀ {fs:List FnP},Ydi fs=0->∀ fn∈fs,fnE fn=0
 | [],_,fn,h=>by cases h
 | f::r,h,fn,hm=>by
   unfold Ydi at h
   by_cases h0:fnE f=0
   · rw [if_pos h0] at h
     rcases List.mem_cons.1 hm with rfl|hm
     · exact h0
     · exact Zje h fn hm
   · rw [if_neg h0] at h;exact absurd h h0
theorem Znp:∀ {l:List (Int × Int)},Zoj l=0->∀ x∈l,∃ s,Ja x.1=some s/\Zrp s.2.1.toNat x.2=true
 | [],_,x,h=>by cases h
 | y::r,h,x,hm=>by
   unfold Zoj at h
   cases hs:Ja y.1 with
   | none=>rw [hs] at h;cases h
   | some s =>
     rw [hs] at h
     simp only [] at h
     by_cases hk:Zrp s.2.1.toNat y.2=true
     · rw [if_pos hk] at h
       rcases List.mem_cons.1 hm with rfl|hm
       · exact ⟨s,hs,hk⟩
       · exact Znp h x hm
     · rw [if_neg hk] at h;cases h
theorem Ymt:∀ n:Nat,n<46->∀ nm o t g,shapeT[n]? = some (nm,o,t,g)->(n=17->o=4)/\(n=19->o=5)/\(n=5->o=6)/\(n=14\/n=15\/n=16->o=3)/\(n≠17->n≠18->n≠19->0<=t/\t<=64/\0<=g/\g<=64):=by
 intro n hn nm o t g h
 rcases n with _|n
 · cases h;exact ⟨by decide,by decide,by decide,by decide,by decide⟩
 iterate 45 (rcases n with _|n;· cases h;exact ⟨by decide,by decide,by decide,by decide,by decide⟩)
 omega
theorem Zxg:∀ n:Nat,n<5->0<=Zco n/\Zco n<=64:=by decide
theorem Zro {k:Nat} {a:Int} (hk:2<=k) (h:Zrp k a=true):0<=a/\a<bK k:=by
 unfold Zrp at h
 rw [if_neg (by omega),if_neg (by omega)] at h
 simpa using h
theorem Zkc {mem:Int} {nd:Nat} {fs:List FnP} (h:Zaz mem nd fs=0) (ho:∀ fn∈fs,∀ x∈fn.2.2.2,opE fs.length fn.2.2.2.length fn.2.1 x=0):Zjp fs:=by
 unfold Zaz at h
 by_cases hb:mem<0\/65536<mem\/mem<nd\/fs.length<1\/64<fs.length
 · rw [if_pos hb] at h;cases h
 rw [if_neg hb] at h
 have hz:=Zje h
 have hfn:∀ fn∈fs,(0<=fn.1/\fn.1<=16/\fn.1<=fn.2.1/\fn.2.1<=64/\0<=fn.2.2.1/\fn.2.2.1<=1)/\(1<=fn.2.2.2.length/\fn.2.2.2.length<=4096)/\Zoj fn.2.2.2=0:=by
  intro fn hm
  have h1:=hz fn hm
  unfold fnE at h1
  by_cases hc:fn.1<0\/16<fn.1\/fn.2.1<fn.1\/64<fn.2.1\/fn.2.2.1<0\/1<fn.2.2.1\/fn.2.2.2.length<1\/4096<fn.2.2.2.length
  · rw [if_pos hc] at h1;cases h1
  · rw [if_neg hc] at h1
    exact ⟨by omega,by omega,h1⟩
 refine ⟨by omega,by omega,fun fn hm=>(hfn fn hm).1,fun fn hm=>(hfn fn hm).2.1,fun fn hm x hx => ?_⟩
 obtain ⟨⟨nm,o,t,g⟩,hs,hk⟩:=Znp (hfn fn hm).2.2 x hx
 have hr:=hfn fn hm
 have hoe:=ho fn hm x hx
 obtain ⟨op,a⟩:=x
 simp only [] at hs hk hoe ⊢
 have hop:0<=op/\op<46:=by
  by_cases hop:0<=op/\op<46
  · exact hop
  · rw [Zgi hop] at hs;cases hs
 obtain ⟨n,y,rfl,hn,hy,hs2⟩:=Zgh hop
 rw [hs] at hs2
 injection hs2 with hs2
 subst hs2
 obtain ⟨p17,p19,p5,pj,pt⟩:=Ymt n hn _ _ _ _ hy
 have call:(n:Int)=17->0<=a/\a<fs.length:=fun e=>by
  have e':n=17:=by omega
  have h1:=p17 e'
  subst h1
  obtain ⟨h2,h3⟩:=Zro (by decide) hk
  unfold opE at hoe
  simp only [] at hoe
  rw [if_neg (by omega),if_neg (by omega),if_pos e] at hoe
  by_cases hc:(fs.length:Int)<=a
  · rw [if_pos hc] at hoe;cases hoe
  · exact ⟨h2,by omega⟩
 have sys:(n:Int)=19->0<=a/\a<5:=fun e=>by
  have h1:=p19 (by omega)
  subst h1
  exact Zro (k:=5) (by decide) hk
 have hT:0<=(Zt fs fn.2.2.1 n a).1/\(Zt fs fn.2.2.1 n a).1<=64/\0<=(Zt fs fn.2.2.1 n a).2/\(Zt fs fn.2.2.1 n a).2<=64:=by
  unfold Zt
  by_cases h17:(n:Int)=17
  · rw [if_pos h17]
    obtain ⟨c0,c1⟩:=call h17
    obtain ⟨k,rfl⟩:=Int.eq_ofNat_of_zero_le c0
    obtain ⟨gg,hg⟩:∃ gg,fs[k]? = some gg:=⟨_,List.getElem?_eq_getElem (by omega)⟩
    rw [Int.toNat_natCast,hg]
    have:=hfn gg (List.mem_of_getElem? hg)
    simp only []
    omega
  · rw [if_neg h17]
    by_cases h18:(n:Int)=18
    · rw [if_pos h18];simp only [];omega
    · rw [if_neg h18]
      by_cases h19:(n:Int)=19
      · rw [if_pos h19]
        obtain ⟨c0,c1⟩:=sys h19
        have:=Zxg a.toNat (by omega)
        simp only [];omega
      · rw [if_neg h19,hs]
        have:=pt (by omega) (by omega) (by omega)
        simp only [];omega
 refine ⟨⟨⟨_,hs⟩,call,sys⟩,hT.1,hT.2.1,hT.2.2.1,hT.2.2.2,fun e => ?_,fun e => ?_⟩
 · have h1:=p5 (by omega)
   subst h1
   exact Zro (k:=6) (by decide) hk
 · have h1:=pj (by omega)
   subst h1
   obtain ⟨h2,h3⟩:=Zro (k:=3) (by decide) hk
   unfold opE at hoe
   simp only [] at hoe
   rw [if_pos (by omega)] at hoe
   by_cases hc:(fn.2.2.2.length:Int)<=a
   · rw [if_pos hc] at hoe;cases hoe
   · exact ⟨h2,by omega⟩
structure HS where
 h:List Int
 wt:List Bool
 top:Int
def goL (b:Int):List Nat->List Int->List Bool->Nat->Option (List Int × List Bool × Nat)
 | [],h,wt,least=>some (h,wt,least)
 | n::r,h,wt,least=>if h.getD n 0 = -1 then goL b r (h.set n b) (wt.set n true) (min least n) else if h.getD n 0=b then goL b r h wt least else none
def Jc (code:List (Int × Int)) (pl:Nat):List Nat:=match code[pl]? with|some x=>(Yy x.1 x.2 pl).map Int.toNat|none=>[]
def Xe (fs:List FnP) (fn:FnP) (pl:Nat) (h:Int):Int × Int:=match fn.2.2.2[pl]? with|some x=>Zdc fs fn pl x.1 x.2 h|none=>(0,0)
inductive HStep (fs:List FnP) (fn:FnP):HS->Nat->HS->Nat->Prop
 | skip {s:HS} {pl:Nat}:pl<fn.2.2.2.length->s.wt.getD pl false=false->HStep fs fn s pl s (pl+1)
 | take {s:HS} {pl:Nat} {b:Int} {h':List Int} {wt':List Bool} {least:Nat}:pl<fn.2.2.2.length->s.wt.getD pl false=true->Xe fs fn pl (s.h.getD pl 0)=(0,b) ->
    goL b (Jc fn.2.2.2 pl) s.h (s.wt.set pl false) pl=some (h',wt',least)->HStep fs fn s pl ⟨h',wt',max (max s.top (s.h.getD pl 0)) b⟩ least
inductive HRun (fs:List FnP) (fn:FnP):HS->Nat->HS->Nat->Prop
 | refl (s:HS) (pl:Nat):HRun fs fn s pl s pl
 | step {s s1 s2:HS} {p p1 p2:Nat}:HRun fs fn s p s1 p1->HStep fs fn s1 p1 s2 p2->HRun fs fn s p s2 p2
def hs0 (n:Nat):HS:=⟨(List.replicate n (-1)).set 0 0,(List.replicate n false).set 0 true,0⟩
def Xfc (fs:List FnP) (fn:FnP) (s:HS) (pl:Nat) (e:Int):Prop :=
 pl<fn.2.2.2.length/\s.wt.getD pl false=true/\((e≠0/\(Xe fs fn pl (s.h.getD pl 0)).1=e)\/(e=136/\∃ b,Xe fs fn pl (s.h.getD pl 0)=(0,b)/\goL b (Jc fn.2.2.2 pl) s.h (s.wt.set pl false) pl=none))
structure Zzb (n:Nat) (s:HS):Prop where
 hl:s.h.length=n
 wl:s.wt.length=n
 rng:∀ i:Nat,i<n->s.h.getD i 0 = -1\/(0<=s.h.getD i 0/\s.h.getD i 0<=256)
 wts:∀ i:Nat,i<n->s.wt.getD i false=true->0<=s.h.getD i 0
 t0:0<=s.top
 t1:s.top<=256
theorem Zs {α:Type} (l:List α) (i j:Nat) (d x:α) (hi:i<l.length):(l.set i x).getD j d=if j=i then x else l.getD j d:=by
 simp only [List.getD_eq_getElem?_getD,List.getElem?_set]
 by_cases h:i=j
 · subst h;simp [hi]
 · rw [if_neg h,if_neg (Ne.symm h)]
theorem Ysa {n:Nat} (h:1<=n):Zzb n (hs0 n):=by
 refine ⟨by simp [hs0],by simp [hs0],fun i hi => ?_,fun i hi hw => ?_,by simp [hs0],by simp [hs0]⟩
 · simp only [hs0]
   rw [Zs _ _ _ _ _ (by simp;omega)]
   split
   · right;decide
   · left;simp [List.getD_eq_getElem?_getD,List.getElem?_replicate,hi]
 · simp only [hs0] at hw ⊢
   rw [Zs _ _ _ _ _ (by simp;omega)] at hw ⊢
   by_cases e:i=0
   · rw [if_pos e];decide
   · rw [if_neg e] at hw;simp [List.getD_eq_getElem?_getD,List.getElem?_replicate,hi] at hw
theorem Zmh {fs:List FnP} {fn:FnP} {pl:Nat} {op a h b:Int} (hi:Xbs fs fn op a) (hh:0<=h/\h<=256) (hs:Zdc fs fn pl op a h=(0,b)):(0<=b/\b<=256)/\∀ n∈Yy op a pl,0<=n/\n<fn.2.2.2.length:=by
 unfold Zdc at hs
 have hj:=hi.jump
 have hc:=hi.copy
 have h1:=hi.t0;have h2:=hi.t1;have h3:=hi.g0;have h4:=hi.g1
 by_cases h18:op=18
 · rw [if_pos h18] at hs
   by_cases hr:h=fn.2.2.1
   · rw [if_pos hr] at hs
     injection hs with _ hs
     subst hs
     refine ⟨by decide,fun n hn => ?_⟩
     unfold Yy at hn
     rw [if_pos (Or.inr (Or.inr h18))] at hn
     cases hn
   · rw [if_neg hr] at hs;cases hs
 · rw [if_neg h18] at hs
   by_cases hw:h<(if op=5 then a+1 else (Zt fs fn.2.2.1 op a).1)
   · rw [if_pos hw] at hs;cases hs
   · rw [if_neg hw] at hs
     by_cases hb:256<h - (Zt fs fn.2.2.1 op a).1+(Zt fs fn.2.2.1 op a).2
     · rw [if_pos hb] at hs;cases hs
     · rw [if_neg hb] at hs
       by_cases ha:(Yy op a pl).any (fun n=>decide ((fn.2.2.2.length:Int)<=n))=true
       · rw [if_pos ha] at hs;cases hs
       · rw [if_neg ha] at hs
         injection hs with _ hs
         have hw2:(Zt fs fn.2.2.1 op a).1<=h\/(op=5/\(Zt fs fn.2.2.1 op a).1=0):=by
          by_cases h5:op=5
          · right
            refine ⟨h5,?_⟩
            unfold Zt
            rw [if_neg (by omega),if_neg (by omega),if_neg (by omega),h5]
            rfl
          · rw [if_neg h5] at hw;left;omega
         refine ⟨by omega,fun n hn => ?_⟩
         have hlt:n<(fn.2.2.2.length:Int):=by
          rcases Int.lt_or_le n (fn.2.2.2.length:Int) with h|h
          · exact h
          · exact absurd (List.any_eq_true.2 ⟨n,hn,by simpa using h⟩) ha
         refine ⟨?_,hlt⟩
         unfold Yy at hn
         split at hn
         · cases hn
         · split at hn
           · simp at hn;subst hn
             exact (hj (Or.inl (by assumption))).1
           · split at hn
             · rename_i hq
               have:=hj (Or.inr hq.1)
               simp at hn
               rcases hn with rfl|rfl <;> omega
             · simp at hn;omega
theorem Ypp {n k:Nat} {b:Int} {h:List Int} {wt:List Bool} {t:Int} (hI:Zzb n ⟨h,wt,t⟩) (hk:k<n) (hb:0<=b/\b<=256):Zzb n ⟨h.set k b,wt.set k true,t⟩:=by
 obtain ⟨h1,h2,h3,h4,h5,h6⟩:=hI
 simp only [] at h1 h2 h3 h4 h5 h6
 refine ⟨by simp [h1],by simp [h2],fun i hi => ?_,fun i hi hw => ?_,h5,h6⟩
 · simp only []
   rw [Zs _ _ _ _ _ (by omega)]
   split
   · exact Or.inr hb
   · exact h3 i hi
 · simp only [] at hw ⊢
   rw [Zs _ _ _ _ _ (by omega)] at hw ⊢
   split
   · exact hb.1
   · rename_i hne
     rw [if_neg hne] at hw
     exact h4 i hi hw
theorem Ypq {n k:Nat} {h:List Int} {wt:List Bool} {t t':Int} (hI:Zzb n ⟨h,wt,t⟩) (hk:k<n) (ht:0<=t'/\t'<=256):Zzb n ⟨h,wt.set k false,t'⟩:=by
 obtain ⟨h1,h2,h3,h4,h5,h6⟩:=hI
 simp only [] at h1 h2 h3 h4 h5 h6
 refine ⟨h1,by simp [h2],h3,fun i hi hw => ?_,ht.1,ht.2⟩
 simp only [] at hw ⊢
 rw [Zs _ _ _ _ _ (by omega)] at hw
 by_cases e:i=k
 · rw [if_pos e] at hw;cases hw
 · rw [if_neg e] at hw;exact h4 i hi hw
def mI (h:List Int) (wt:List Bool) (i:Nat):Nat:=(if h.getD i 0 = -1 then 2 else 0)+(if wt.getD i false=true then 1 else 0)
def mS (n:Nat) (h:List Int) (wt:List Bool):Nat:=((List.range n).map (mI h wt)).sum
theorem Yrd {f g:Nat->Nat}:∀ (l:List Nat),(∀ i∈l,f i<=g i)->(l.map f).sum<=(l.map g).sum
 | [],_=>Nat.le_refl _
 | x::r,h=>by
   simp only [List.map_cons,List.sum_cons]
   exact Nat.add_le_add (h x (List.mem_cons_self ..)) (Yrd r fun i hi=>h i (List.mem_cons_of_mem _ hi))
theorem Yfs {f g:Nat->Nat}:∀ (l:List Nat) (j:Nat),j∈l->f j<g j->(∀ i∈l,f i<=g i)->(l.map f).sum<(l.map g).sum
 | x::r,j,hj,hlt,h=>by
   simp only [List.map_cons,List.sum_cons]
   rcases List.mem_cons.1 hj with rfl|hj
   · have:=Yrd r fun i hi=>h i (List.mem_cons_of_mem _ hi);omega
   · have:=Yfs r j hj hlt fun i hi=>h i (List.mem_cons_of_mem _ hi)
     have:=h x (List.mem_cons_self ..);omega
theorem Yzw {n k:Nat} {b:Int} {h:List Int} {wt:List Bool} (hl:h.length=n) (hw:wt.length=n) (hk:k<n) (hm:h.getD k 0 = -1) (hb:0<=b):mS n (h.set k b) (wt.set k true)<mS n h wt:=by
 refine Yfs _ k (List.mem_range.2 hk) ?_ fun i hi => ?_
 · unfold mI
   rw [Zs _ _ _ _ _ (by omega),Zs _ _ _ _ _ (by omega),if_pos rfl,if_pos rfl,if_pos rfl,if_pos hm,if_neg (by omega)]
   split <;> omega
 · unfold mI
   rw [Zs _ _ _ _ _ (by omega),Zs _ _ _ _ _ (by omega)]
   by_cases e:i=k
   · subst e
     rw [if_pos rfl,if_pos rfl,if_pos rfl,if_pos hm,if_neg (by omega)]
     split <;> omega
   · rw [if_neg e,if_neg e];exact Nat.le_refl _
theorem Yzx {n k:Nat} {h:List Int} {wt:List Bool} (hw:wt.length=n) (hk:k<n) (hm:wt.getD k false=true):mS n h (wt.set k false)<mS n h wt:=by
 refine Yfs _ k (List.mem_range.2 hk) ?_ fun i hi => ?_
 · unfold mI
   rw [Zs _ _ _ _ _ (by omega),if_pos rfl,hm]
   simp
 · unfold mI
   rw [Zs _ _ _ _ _ (by omega)]
   by_cases e:i=k
   · subst e;rw [if_pos rfl,hm];simp
   · rw [if_neg e];exact Nat.le_refl _
def Zgw (c:List (Int × Int)) (l:List Nat):List Nat:=l.map fun at_=>match c[at_]? with|some x=>x.2.toNat|none=>0
structure St (w0:World) (bw bx bm B:Nat) (mem:Int) (pd:Option Addr) (nd cd:Nat) (pF:Option Addr) (cF:Nat) (fs:List FnP) (cl:Nat->List Nat):Prop where
 bwc:w0.heap[bw]? = some (.cells #[.int .i64 mem,.slice pd nd cd,.slice pF fs.length cF,.pointer (some ⟨bx,0,none⟩),.map (some bm)] 71 (0,0))
 ne1:bw≠bx
 ne2:bm≠bx
 lm:bm<w0.heap.size
 hF:Yl w0 B pF fs
 hB:B<=w0.heap.size
 lx:bx<w0.heap.size
 bx_:B<=bx
 nf:fs.length<=64
 calls:∀ f:Nat,f<fs.length->∃ (p:Option Addr) (c:Nat),(∀ W:World,W.heap[bm]? = w0.heap[bm]? -> (Instr.lookup 69 (.map (some bm)) (.int .i64 f) false).run Try.prog W = .ok (.slice p (cl f).length c) W) /\
  ∀ (i at_:Nat),(cl f)[i]? = some at_->∃ b,p=some ⟨b,0,none⟩/\b≠bx/\w0.cell? ⟨b,i,none⟩=some (.int .i64 at_)
 ok:∀ (f:Nat) (ar lo r:Int) (c:List (Int × Int)),fs[f]? = some (ar,lo,r,c)->(cl f).length<=4096/\∀ at_∈cl f,∃ a:Nat,c[at_]? = some (17,(a:Int))/\a<fs.length
def Xv (fs:List FnP) (cl:Nat->List Nat) (f:Nat):List Nat:=match fs[f]? with|some fn=>Zgw fn.2.2.2 (cl f)|none=>[]
theorem Zbr {P:Program} {w:World} {ops:Array Oper} {rest:List Oper} {o:Oper} {a:Act} {Q:Exit->Act->World->Prop}
 (hg:o.guard=none) (m x:Operand) (t:TypeId) (hop:o.op=Op.lookup t m x false) {M X v:Value} (hm:a.eval m=M) (hx:a.eval x=X) (hrun:(Instr.lookup t M X false).run P w = .ok v w) (hK:wpList P ops Q rest (a.put o.dst v) w) :
 wpList P ops Q (o::rest) a w:=by
 refine wpList_plain hg fun K' hK' => ?_
 unfold Oper.wp
 simp [execOp,hop,hm,hx,hrun,Result.andThen]
 exact hK' _ _ hK
structure LvW (w0 w:World) (bx gV n:Nat) (x0 x1 x2 x4 x5:Value) (V:List Bool):Prop where
 g:w0.grownBy w (some bx)
 xc:w.heap[bx]? = some (.cells #[x0,x1,x2,.slice (some ⟨gV,0,none⟩) n n,x4,x5] 35 (0,0))
 r:w.ownsRow w0.heap.size 4 1 (.slice (some ⟨gV,0,none⟩) n n) n (V.map Value.bool)
section
variable {w0 w w':World} {bx gV n:Nat} {x0 x1 x2 x4 x5:Value} {V:List Bool}
theorem Yad (H:LvW w0 w bx gV n x0 x1 x2 x4 x5 V):w0.heap.size<=gV/\gV<w.heap.size:=H.r.lt gV rfl
theorem Zfg (H:LvW w0 w bx gV n x0 x1 x2 x4 x5 V):V.length=n:=by have:=H.r.1;simpa using this
theorem Yot (H:LvW w0 w bx gV n x0 x1 x2 x4 x5 V) (k:Nat) (hk:k<n):w.cell? ⟨gV,k,none⟩=some (.bool (V.getD k false)):=by
 have hl:=Zfg H
 rw [H.r.cellAt k (by omega),List.getElem?_map,List.getD_eq_getElem?_getD,List.getElem?_eq_getElem (by omega:k<V.length)]
 rfl
theorem Yuu (H:LvW w0 w bx gV n x0 x1 x2 x4 x5 V) (hx:bx<w0.heap.size) (k:Nat) (b:Bool):LvW w0 (w.setCell ⟨gV,k,none⟩ (.bool b)) bx gV n x0 x1 x2 x4 x5 (V.set k b):=by
 have hl:=Yad H
 refine ⟨Zds H.g (Zh _ _ _ _) hl.1,Zb H.xc (Zh w gV k (.bool b)) (by intro e;injection e with e;omega),?_⟩
 rw [List.map_set]
 exact (H.r.stored k (.bool b)).1
end
def Yeh (V:List Bool):Nat:=(V.filter fun b => !b).length
theorem Ybe:∀ (V:List Bool) (k:Nat),V.getD k true=false->Yeh (V.set k true)+1=Yeh V
 | [],k,h=>by simp at h
 | b::r,0,h=>by simp at h;subst h;simp [Yeh]
 | b::r,k+1,h=>by
   have ih:=Ybe r k (by simpa using h)
   unfold Yeh at ih ⊢
   rw [List.set_cons_succ]
   cases b
   · simp;omega
   · simp;omega
theorem Ywc {V V':List Bool} (hl:V.length=V'.length) (h:∀ x,V.getD x false=true->V'.getD x false=true):Yeh V'<=Yeh V:=by
 induction V generalizing V' with
 | nil =>
   cases V' with
   | nil=>exact Nat.le_refl _
   | cons b r=>simp at hl
 | cons b r ih =>
   cases V' with
   | nil=>simp at hl
   | cons b' r' =>
     have i2:=ih (V':=r') (by simpa using hl) (fun x hx=>by have:=h (x+1) (by simpa using hx);simpa using this)
     have h0:=h 0
     simp at h0
     unfold Yeh at i2 ⊢
     cases b <;> cases b' <;> simp_all <;> omega
inductive CRe (next:Nat->List Nat) (a:Nat):Nat->Prop
 | refl:CRe next a a
 | step {x y:Nat}:CRe next a x->y∈next x->CRe next a y
theorem Ykl {next:Nat->List Nat} {a b c:Nat} (h:CRe next a b) (g:CRe next b c):CRe next a c:=by
 induction g with
 | refl=>exact h
 | step _ hy ih=>exact .step ih hy
def Xbo (w0 w:World) (bx gV:Nat) (x0 x1 x2 x4 x5:Value) (fs:List FnP) (cl:Nat->List Nat) (V:List Bool) (f:Nat) (e:Ending) (w':World):Prop :=
 (∃ v,e = .returned v)/\w.grownBy w' (some gV)/\∃ V',LvW w0 w' bx gV fs.length x0 x1 x2 x4 x5 V'/\(∀ x,V.getD x false=true->V'.getD x false=true)/\V'.getD f false=true /\
   (∀ x,x<fs.length->V'.getD x false=true->V.getD x false=false->∀ y∈Xv fs cl x,V'.getD y false=true) /\
   (∀ x,x<fs.length->V'.getD x false=true->V.getD x false=false->CRe (Xv fs cl) f x)
theorem Ypg (N:Nat):∀ (w0 w:World) (bw bx bm B:Nat) (mem:Int) (pd:Option Addr) (nd cd:Nat) (pF:Option Addr) (cF:Nat) (fs:List FnP) (cl:Nat->List Nat) (gV:Nat) (x0 x1 x2 x4 x5:Value) (V:List Bool) (f:Nat)
 (S:St w0 bw bx bm B mem pd nd cd pF cF fs cl) (H:LvW w0 w bx gV fs.length x0 x1 x2 x4 x5 V) (hf:f<fs.length) (hN:Yeh V<N),
 Calls Try.prog 43 #[.pointer (some ⟨bw,0,none⟩),.int .i64 f] w (Xbo w0 w bx gV x0 x1 x2 x4 x5 fs cl V f):=by
 induction N with
 | zero=>intro w0 w bw bx bm B mem pd nd cd pF cF fs cl gV x0 x1 x2 x4 x5 V f S H hf hN;omega
 | succ N ih =>
   intro w0 w bw bx bm B mem pd nd cd pF cF fs cl gV x0 x1 x2 x4 x5 V f S H hf hN
   have hlw:=Yad H
   have kb:=Zb S.bwc H.g (by intro e;injection e with e;exact S.ne1 e.symm)
   have k3:=Cq _ _ 3 _ _ _ kb
   have j3:=Cq _ _ 3 _ _ _ H.xc
   have vf:=Yot H f hf
   have zf:=Ye H.r f
   have s1:=(Gs kb)
   have s2:=(Gs H.xc)
   have hfi:(f:Int)<(fs.length:Int):=by omega
   have hlx:=S.lx
   cases hV:V.getD f false with
   | true =>
     rw [hV] at vf
     have HH:=Hq H
     have HV:=Hq hV
     clear S H hV ih
     go_enter Try.func43,Try.ntmps43
     go_wp2
     refine bodyPost_end0 rfl rfl ?_
     exact ⟨⟨_,rfl⟩,Zc _ _,V,HH.out,fun x h=>h,HV.out,fun x _ h1 h2=>(by rw [h1] at h2;cases h2),fun x _ h1 h2=>by rw [h1] at h2;cases h2⟩
   | false =>
     rw [hV] at vf
     have H1:=Yuu H hlx f true
     obtain ⟨w1,hw1⟩:∃ w1,w1=w.setCell ⟨gV,f,none⟩ (.bool true):=⟨_,rfl⟩
     have hg1:w.grownBy w1 (some gV):=by rw [hw1];exact Zh _ _ _ _
     rw [<- hw1] at H1
     have HW1:=Hq hw1
     have HG1:=Hq hg1
     have HH1:=Hq H1
     have SS:=Hq S
     have HF:=Hq hf
     have IH:=Hq ih
     have HVV:=Hq hV
     obtain ⟨pc,cc,hrun,hcells⟩:=S.calls f hf
     have hl:=Zfg H
     have hd:=Ybe V f (by rw [List.getD_eq_getElem?_getD] at hV ⊢;rw [List.getElem?_eq_getElem (by omega)] at hV ⊢;simpa using hV)
     have HRUN:=Hq hrun
     have HCE:=Hq hcells
     obtain ⟨⟨ar,lo,r,c⟩,hfn⟩:∃ fn,fs[f]? = some fn:=⟨_,List.getElem?_eq_getElem hf⟩
     obtain ⟨hcl,hok⟩:=S.ok f ar lo r c hfn
     have HFN:=Hq hfn
     have HOK:=Hq hok
     have HD:=Hq (show Yeh (V.set f true)<N by omega)
     clear S H hg1 hw1 H1 hrun hcells hfn hok hd ih hV hN
     go_enter Try.func43,Try.ntmps43
     go_upto_region 2 with fail
     clear k3 j3 vf zf kb s1 s2
     rw [<- HW1.out]
     have kb:=Zb SS.out.bwc HH1.out.g (by intro e;injection e with e;exact SS.out.ne1 e.symm)
     have k4:=Cq _ _ 4 _ _ _ kb
     have s1:=(Gs kb)
     have hr1:=HRUN.out w1 (HH1.out.g.block bm SS.out.lm (by intro e;injection e with e;exact SS.out.ne2 e))
     have hci:((cl f).length:Int)<=4096:=by omega
     clear kb
     go_wp2_with (at_lookup;refine Zbr rfl _ _ 69 rfl rfl rfl hr1 ?_)
     clear k4 s1 hr1
     go_loopw [32] (fun i wr=>∃ (k:Nat) (Vk:List Bool),i = .int .i64 k/\k<=(cl f).length/\w.grownBy wr (some gV)/\LvW w0 wr bx gV fs.length x0 x1 x2 x4 x5 Vk/\(∀ x,(V.set f true).getD x false=true->Vk.getD x false=true) /\
      (∀ x,x<fs.length->Vk.getD x false=true->(V.set f true).getD x false=false->∀ y∈Xv fs cl x,Vk.getD y false=true)/\(∀ x,x<fs.length->Vk.getD x false=true->(V.set f true).getD x false=false->CRe (Xv fs cl) f x)/\(∀ j:Nat,j<k->∀ y,(Zgw c (cl f))[j]? = some y->Vk.getD y false=true)) (fun i _=>(cl f).length - (intOf i).toNat)
     case atStart =>
      exact ⟨0,V.set f true,rfl,Nat.zero_le _,HG1.out,HH1.out,fun x h=>h,(fun x _ h1 h2=>by rw [h1] at h2;cases h2),(fun x _ h1 h2=>by rw [h1] at h2;cases h2),fun j hj=>absurd hj (Nat.not_lt_zero _)⟩
     case round =>
      obtain ⟨k,Vk,rfl,hk,hgk,hW,hsub,hclo,hre,hdone⟩:=hrel
      by_cases hlt:(k:Int)<((cl f).length:Int)
      · obtain ⟨at_,hat⟩:∃ a,(cl f)[k]? = some a:=⟨_,List.getElem?_eq_getElem (by omega)⟩
        obtain ⟨bc,hpc,hbx,hcell⟩:=HCE.out k at_ hat
        obtain ⟨a,hins,ha⟩:=HOK.out at_ (List.mem_of_getElem? hat)
        have ec:=hW.g.cell hcell (by intro e;injection e with e;exact hbx e)
        subst hpc
        have sc:=World.block_lt_of_cell? _ _ ec
        have kb:=Zb SS.out.bwc hW.g (by intro e;injection e with e;exact SS.out.ne1 e.symm)
        have k2:=Cq _ _ 2 _ _ _ kb
        have s1:=(Gs kb)
        have hFr:=Zq SS.out.hF hW.g (fun r e=>by injection e with e;rw [<- e];exact SS.out.bx_)
        obtain ⟨bF,oF,hpF,hbF,hcF⟩:=hFr (by omega)
        obtain ⟨-,-,-,pc',cc',e3,hcode⟩:=hcF f ar lo r c HFN.out
        have hat2:=(List.getElem?_eq_some_iff.1 hins).1
        obtain ⟨b',o',hpc',hb',hcc⟩:=hcode (by omega)
        subst hpc'
        obtain ⟨d0,d1⟩:=hcc at_ 17 a hins
        have sF:=World.block_lt_of_cell? _ _ e3
        have sb:=World.block_lt_of_cell? _ _ d1
        have hai:(at_:Int)<(c.length:Int):=by omega
        have hdl:Yeh Vk<=Yeh (V.set f true):=Ywc (by have h1:=Zfg hW;have h2:=Zfg HH1.out;omega) hsub
        have CA:=Hq (IH.out _ _ _ _ _ _ _ _ _ _ _ _ _ _ _ _ _ _ _ _ _ _ SS.out hW ha (by have:=HD.out;omega))
        have HHW:=Hq hW
        have HSUB:=Hq hsub
        have HCLO:=Hq hclo
        have HRE:=Hq hre
        have HDN:=Hq hdone
        have HGK:=Hq hgk
        have HAT:=Hq hat
        have HINS:=Hq hins
        clear hW hsub hclo hre hdone hgk hat hins hcell hcc hcode hcF hFr hbx kb hdl ha
        go_wp2_with (go_at_call 43;refine CA.out.mono ?_;rintro e w5 ⟨⟨v5,rfl⟩,g5,V5,H5,sub5,in5,clo5,re5⟩;have HR5:=Hq re5;have HG5:=Hq g5;have HH5:=Hq H5;have HS5:=Hq sub5;have HI5:=Hq in5;have HC5:=Hq clo5;clear g5 H5 sub5 in5 clo5 re5)
        refine ⟨⟨k+1,V5,by go_num,by omega,Za HGK.out HG5.out,HH5.out,fun x hx=>HS5.out x (HSUB.out x hx),fun x hx h1 h2 y hy => ?_,fun x hx h1 h2 => ?_,fun j hj y hy => ?_⟩,by simp [intOf];omega⟩
        · cases hv:Vk.getD x false with
          | true=>exact HS5.out y (HCLO.out x hx hv h2 y hy)
          | false=>exact HC5.out x hx h1 hv y hy
        · cases hv:Vk.getD x false with
          | true=>exact HRE.out x hx hv h2
          | false =>
            refine Ykl (.step .refl ?_) (HR5.out x hx h1 hv)
            unfold Xv
            simp only [HFN.out]
            refine List.mem_map.2 ⟨at_,List.mem_of_getElem? HAT.out,?_⟩
            simp only [HINS.out]
            exact Int.toNat_natCast a
        · by_cases e:j=k
          · subst e
            unfold Zgw at hy
            rw [List.getElem?_map,HAT.out] at hy
            simp only [Option.map_some,HINS.out,Option.some.injEq] at hy
            rw [<- hy]
            exact HI5.out
          · exact HS5.out y (HDN.out j (by omega) y hy)
      · have hkn:k=(cl f).length:=by omega
        have HHW:=Hq hW
        have HSUB:=Hq hsub
        have HCLO:=Hq hclo
        have HRE:=Hq hre
        have HDN:=Hq hdone
        have HGK:=Hq hgk
        clear hW hsub hclo hre hdone hgk
        go_wp2
        refine bodyPost_end0 rfl rfl ?_
        have hlV:(V.set f true).getD f false=true:=by
         have h1:=Zfg HH1.out
         rw [Zs _ _ _ _ _ (by simp at h1;omega),if_pos rfl]
        refine ⟨⟨_,rfl⟩,HGK.out,Vk,HHW.out,fun x hx=>HSUB.out x ?_,HSUB.out f hlV,fun x hx h1 h2 y hy => ?_,fun x hx h1 h2 => ?_⟩
        · have h1:=Zfg HH1.out
          rw [Zs _ _ _ _ _ (by simp at h1;omega)]
          split
          · rfl
          · exact hx
        · by_cases e:x=f
          · subst e
            unfold Xv at hy
            simp only [HFN.out] at hy
            obtain ⟨j,hj,rfl⟩:=List.getElem_of_mem hy
            refine HDN.out j ?_ _ (List.getElem?_eq_getElem hj)
            unfold Zgw at hj
            rw [List.length_map] at hj
            omega
          · refine HCLO.out x hx h1 ?_ y hy
            have h3:=Zfg HH1.out
            rw [Zs _ _ _ _ _ (by simp at h3;have:=HF.out;omega),if_neg e]
            exact h2
        · by_cases e:x=f
          · subst e;exact .refl
          · refine HRE.out x hx h1 ?_
            have h3:=Zfg HH1.out
            rw [Zs _ _ _ _ _ (by simp at h3;have:=HF.out;omega),if_neg e]
            exact h2
structure Fr where
 at_:Nat
 done:Nat
 ex:List Nat
structure TS where
 num:List Nat
 back:List Nat
 on:List Bool
 inn:List Bool
 S:List Fr
 met:Nat
 fin:List Nat
def Xs:List Fr->List Nat
 | []=>[]
 | f::r=>Xs r++f.at_::f.ex
section
variable (n:Nat) (next:Nat->List Nat)
def FOK (fin:List Nat):Option Nat->List Fr->Prop
 | _,[]=>True
 | ch,f::r=>(∀ j:Nat,j<f.done->∀ y,(next f.at_)[j]? = some y->y∈fin\/ch=some y)/\FOK fin (some f.at_) r
def Zta:List Nat->Prop
 | []=>True
 | x::r=>(∀ y∈next x,y∈r)/\Zta r
structure Xff (s:TS):Prop where
 fr:∀ f∈s.S,f.ex=[]/\s.back.getD f.at_ 0=s.num.getD f.at_ 0
 ent:∀ x,x<n->s.num.getD x 0≠0->x∈Xs s.S\/x∈s.fin
 fok:FOK next s.fin none s.S
 fin:Zta next s.fin
def Xfe (s:TS):Prop:=(∃ x,x<n/\s.inn.getD x false=true)\/∃ f∈s.S,f.ex≠[]\/s.back.getD f.at_ 0<s.num.getD f.at_ 0
def Zya (num:List Nat):List Fr->Prop
 | []=>True
 | [f]=>num.getD f.at_ 0=1
 | f::g::r=>num.getD g.at_ 0<num.getD f.at_ 0/\Zya num (g::r)
structure Zlt (s:TS):Prop where
 l1:s.num.length=n
 l2:s.back.length=n
 l3:s.on.length=n
 l4:s.inn.length=n
 fr:∀ f∈s.S,f.done<=(next f.at_).length
 lt:∀ x∈Xs s.S,x<n
 nd:(Xs s.S).Nodup
 onr:∀ x,x<n->(s.on.getD x false=true ↔ x∈Xs s.S)
 num:∀ x∈Xs s.S,1<=s.num.getD x 0/\s.num.getD x 0<=s.met
 bk:∀ x∈Xs s.S,1<=s.back.getD x 0/\s.back.getD x 0<=s.num.getD x 0
 inc:Zya s.num s.S
 dc:Xfe n s\/Xff n next s
 zero:s.num.getD 0 0≠0
def Zac (num:List Nat):Nat:=((List.range n).map fun x=>if num.getD x 0=0 then 4 else 0).sum
def Ysr:List Fr->Nat
 | []=>0
 | f::r=>((next f.at_).length+1 - f.done)+Ysr r
def Jp (s:TS):Nat:=Zac n s.num+Ysr next s.S
end
theorem Zzn {S:List Fr} {f:Fr} (h:f∈S):f.at_∈Xs S:=by
 induction S with
 | nil=>cases h
 | cons g r ih =>
   rcases List.mem_cons.1 h with rfl|h
   · simp [Xs]
   · simp [Xs,ih h]
theorem Yjp {next:Nat->List Nat} {fin fin':List Nat} (hf:∀ x∈fin,x∈fin'):∀ {ch:Option Nat} {S:List Fr},FOK next fin ch S->FOK next fin' ch S
 | _,[],_=>trivial
 | _,f::r,h=>⟨fun j hj y hy=>(h.1 j hj y hy).imp (hf y) id,Yjp hf h.2⟩
theorem Yjq {next:Nat->List Nat} {fin:List Nat} {x:Nat} (hx:x∈fin):∀ {S:List Fr},FOK next fin (some x) S->FOK next fin none S
 | [],_=>trivial
 | f::r,h=>⟨fun j hj y hy=>(h.1 j hj y hy).elim Or.inl (fun e=>by injection e with e;subst e;exact Or.inl hx),h.2⟩
theorem Yb {α:Type} (l:List α) (i j:Nat) (d x:α) (hi:i<l.length):(l.set i x).getD j d=if j=i then x else l.getD j d:=Zs l i j d x hi
theorem Yao {num:List Nat} {m v:Nat} (hm:m<num.length):∀ {S:List Fr},(∀ f∈S,f.at_≠m)->Zya num S->Zya (num.set m v) S
 | [],_,_=>trivial
 | [f],h,hi=>by simp only [Zya] at hi ⊢;rw [Yb _ _ _ _ _ hm,if_neg (h f (List.mem_cons_self ..))];exact hi
 | f::g::r,h,hi=>by
   simp only [Zya] at hi ⊢
   rw [Yb _ _ _ _ _ hm,if_neg (h g (by simp)),Yb _ _ _ _ _ hm,if_neg (h f (by simp))]
   exact ⟨hi.1,Yao hm (fun x hx=>h x (List.mem_cons_of_mem _ hx)) hi.2⟩
theorem Zhg {num:List Nat} {f f':Fr} {r:List Fr} (h:f.at_=f'.at_) (hi:Zya num (f::r)):Zya num (f'::r):=by
 cases r with
 | nil=>simp only [Zya] at hi ⊢;rw [<- h];exact hi
 | cons g r=>simp only [Zya] at hi ⊢;rw [<- h];exact hi
theorem Zvb {num:List Nat} {f:Fr} {r:List Fr} (hi:Zya num (f::r)):Zya num r:=by
 cases r with
 | nil=>trivial
 | cons g r=>exact hi.2
theorem Zxz {num:List Nat}:∀ {f:Fr} {r:List Fr},Zya num (f::r)->∀ g∈r,num.getD g.at_ 0<num.getD f.at_ 0
 | f,[],_,g,hg=>by cases hg
 | f,g::r,h,x,hx=>by
   rcases List.mem_cons.1 hx with rfl|hx
   · exact h.1
   · exact Nat.lt_trans (Zxz h.2 x hx) h.1
theorem Zju {n m v:Nat} {num:List Nat} (hl:num.length=n) (hm:m<n) (h0:num.getD m 0=0) (hv:v≠0):Zac n (num.set m v)+4<=Zac n num:=by
 unfold Zac
 have key:∀ l:List Nat,l.Nodup->m∈l->(l.map fun x=>if (num.set m v).getD x 0=0 then 4 else 0).sum+4<=(l.map fun x=>if num.getD x 0=0 then 4 else 0).sum:=by
  intro l
  induction l with
  | nil=>intro _ h;cases h
  | cons x r ih =>
    intro hnd hmem
    have hx:=(List.nodup_cons.1 hnd).1
    have hr:=(List.nodup_cons.1 hnd).2
    simp only [List.map_cons,List.sum_cons]
    by_cases e:x=m
    · subst e
      have hsame:(r.map fun y=>if (num.set x v).getD y 0=0 then 4 else 0)=r.map fun y=>if num.getD y 0=0 then 4 else 0:=by
       refine List.map_congr_left fun y hy => ?_
       have e:(num.set x v).getD y 0=num.getD y 0:=by rw [Yb _ _ _ _ _ (by omega),if_neg (by intro e;subst e;exact hx hy)]
       rw [e]
      rw [hsame,Yb _ _ _ _ _ (by omega),if_pos rfl,if_neg hv,if_pos h0]
      omega
    · have hm2:m∈r:=(List.mem_cons.1 hmem).resolve_left (fun h=>e h.symm)
      have:=ih hr hm2
      rw [Yb _ _ _ _ _ (by omega),if_neg e]
      omega
 exact key _ List.nodup_range (List.mem_range.2 hm)
section
variable {n:Nat} {next:Nat->List Nat} {s:TS} {f:Fr} {r:List Fr}
theorem Zcg (f:Fr) (r:List Fr):Xs (f::r)=Xs r++f.at_::f.ex:=rfl
theorem Zhe (h:(Xs (f::r)).Nodup):(Xs r).Nodup/\f.at_ ∉ f.ex/\(∀ x∈Xs r,x≠f.at_/\x ∉ f.ex)/\f.ex.Nodup:=by
 rw [Zcg] at h
 have h1:=List.nodup_append.1 h
 have h2:=List.nodup_cons.1 h1.2.1
 exact ⟨h1.1,h2.1,fun x hx=>⟨fun e=>h1.2.2 x hx f.at_ (List.mem_cons_self ..) e,fun e=>h1.2.2 x hx x (List.mem_cons_of_mem _ e) rfl⟩,h2.2⟩
theorem Ytb (hn:∀ x,x<n->∀ y∈next x,y<n) (hlen:∀ x,(next x).length<=2) (I:Zlt n next s) (hS:s.S=f::r) {m:Nat} (hm:(next f.at_)[f.done]? = some m) (h0:s.num.getD m 0=0) :
 Zlt n next { s with num:=s.num.set m (s.met+1),back:=s.back.set m (s.met+1),on:=s.on.set m true,S:=⟨m,0,[]⟩::⟨f.at_,f.done+1,f.ex⟩::r,met:=s.met+1 } /\
 Jp n next { s with num:=s.num.set m (s.met+1),back:=s.back.set m (s.met+1),on:=s.on.set m true,S:=⟨m,0,[]⟩::⟨f.at_,f.done+1,f.ex⟩::r,met:=s.met+1 }<Jp n next s:=by
 obtain ⟨l1,l2,l3,l4,fr,lt,nd,onr,num,bk,inc,dc,zero⟩:=I
 rw [hS] at fr lt nd onr num bk inc
 have hfm:f.at_∈Xs (f::r):=by simp [Xs]
 have hfn:=lt _ hfm
 have hmn:m<n:=hn _ hfn m (List.mem_of_getElem? hm)
 have hdl:=(List.getElem?_eq_some_iff.1 hm).1
 have hmr:m ∉ Xs (f::r):=fun h=>by have:=(num m h).1;omega
 have hrow:Xs (⟨m,0,[]⟩::⟨f.at_,f.done+1,f.ex⟩::r)=Xs (f::r)++[m]:=by simp [Xs]
 have hne:∀ g∈f::r,g.at_≠m:=fun g hg e=>hmr (e ▸ Zzn hg)
 refine ⟨⟨by simp [l1],by simp [l2],by simp [l3],l4,fun g hg => ?_,fun x hx => ?_,?_,fun x hx => ?_,fun x hx => ?_,fun x hx => ?_,?_,?_,?_⟩,?_⟩
 · rcases List.mem_cons.1 hg with rfl|hg
   · exact Nat.zero_le _
   · rcases List.mem_cons.1 hg with rfl|hg
     · exact hdl
     · exact fr g (List.mem_cons_of_mem _ hg)
 · rw [hrow] at hx
   rcases List.mem_append.1 hx with hx|hx
   · exact lt x hx
   · simp at hx;omega
 · rw [hrow]
   refine List.nodup_append.2 ⟨nd,by simp,fun a ha b hb => ?_⟩
   simp at hb;subst hb
   intro e;subst e;exact hmr ha
 · rw [hrow]
   simp only []
   rw [Yb _ _ _ _ _ (by omega)]
   by_cases e:x=m
   · subst e;simp
   · rw [if_neg e,onr x hx];simp [e]
 · rw [hrow] at hx
   simp only []
   rw [Yb _ _ _ _ _ (by omega)]
   by_cases e:x=m
   · rw [if_pos e];omega
   · rw [if_neg e]
     have:=num x ((List.mem_append.1 hx).resolve_right (by simpa using e))
     omega
 · rw [hrow] at hx
   simp only []
   rw [Yb _ _ _ _ _ (by omega),Yb _ _ _ _ _ (by omega)]
   by_cases e:x=m
   · rw [if_pos e,if_pos e];omega
   · rw [if_neg e,if_neg e]
     exact bk x ((List.mem_append.1 hx).resolve_right (by simpa using e))
 · have h0':=Yao (S:=f::r) (v:=s.met+1) (by omega:m<s.num.length) hne inc
   have h1:=Zhg (f:=f) (f':=⟨f.at_,f.done+1,f.ex⟩) rfl h0'
   refine ⟨?_,h1⟩
   simp only []
   rw [Yb _ _ _ _ _ (by omega),Yb _ _ _ _ _ (by omega),if_pos rfl,if_neg (hne f (by simp))]
   have:=num _ hfm
   omega
 · rcases dc with hd|hc
   · left
     rcases hd with ⟨x,hx,hi⟩|⟨g,hg,hg2⟩
     · exact Or.inl ⟨x,hx,hi⟩
     · right
       rw [hS] at hg
       have hgm:=hne g hg
       rcases List.mem_cons.1 hg with rfl|hg'
       · refine ⟨⟨g.at_,g.done+1,g.ex⟩,by simp,?_⟩
         simp only []
         rw [Yb _ _ _ _ _ (by omega),Yb _ _ _ _ _ (by omega),if_neg hgm,if_neg hgm]
         exact hg2
       · refine ⟨g,by simp [hg'],?_⟩
         simp only []
         rw [Yb _ _ _ _ _ (by omega),Yb _ _ _ _ _ (by omega),if_neg hgm,if_neg hgm]
         exact hg2
   · right
     obtain ⟨c1,c2,c3,c4⟩:=hc
     rw [hS] at c1 c2 c3
     refine ⟨fun g hg => ?_,fun x hx h => ?_,?_,c4⟩
     · simp only []
       rcases List.mem_cons.1 hg with rfl|hg
       · simp only []
         rw [Yb _ _ _ _ _ (by omega),Yb _ _ _ _ _ (by omega),if_pos rfl,if_pos rfl];simp
       · rcases List.mem_cons.1 hg with rfl|hg
         · have hgm:=hne f (by simp)
           simp only []
           rw [Yb _ _ _ _ _ (by omega),Yb _ _ _ _ _ (by omega),if_neg hgm,if_neg hgm];exact c1 f (by simp)
         · have hgm:=hne g (by simp [hg])
           rw [Yb _ _ _ _ _ (by omega),Yb _ _ _ _ _ (by omega),if_neg hgm,if_neg hgm];exact c1 g (by simp [hg])
     · simp only [] at h
       rw [hrow]
       rw [Yb _ _ _ _ _ (by omega)] at h
       by_cases e:x=m
       · left;simp [e]
       · rw [if_neg e] at h
         rcases c2 x hx h with h|h
         · left;simp [h]
         · right;exact h
     · refine ⟨fun j hj=>(Nat.not_lt_zero _ hj).elim,?_,c3.2⟩
       intro j hj y hy
       simp only [] at hj hy
       by_cases e:j=f.done
       · subst e;rw [hm] at hy;injection hy with hy;subst hy;exact Or.inr rfl
       · exact (c3.1 j (by omega) y hy).imp id (fun e=>by cases e)
 · simp only []
   rw [Yb _ _ _ _ _ (by omega)]
   split
   · omega
   · exact zero
 · unfold Jp
   simp only [hS,Ysr]
   have h1:=Zju (v:=s.met+1) l1 hmn h0 (by omega)
   have h2:=hlen m
   omega
theorem Ytc (I:Zlt n next s) (hn:∀ x,x<n->∀ y∈next x,y<n) (hS:s.S=f::r) {m:Nat} (hm:(next f.at_)[f.done]? = some m) (h0:s.num.getD m 0≠0) (hon:s.on.getD m false=false) :
 Zlt n next { s with S:=⟨f.at_,f.done+1,f.ex⟩::r }/\Jp n next { s with S:=⟨f.at_,f.done+1,f.ex⟩::r }<Jp n next s:=by
 obtain ⟨l1,l2,l3,l4,fr,lt,nd,onr,num,bk,inc,dc,zero⟩:=I
 rw [hS] at fr lt nd onr num bk inc
 have hfn:=lt _ (show f.at_∈Xs (f::r) by simp [Xs])
 have hmn:m<n:=hn _ hfn m (List.mem_of_getElem? hm)
 have hdl:=(List.getElem?_eq_some_iff.1 hm).1
 have hmr:m ∉ Xs (f::r):=fun h=>by rw [(onr m hmn).2 h] at hon;cases hon
 refine ⟨⟨l1,l2,l3,l4,fun g hg => ?_,lt,nd,onr,num,bk,Zhg (f:=f) rfl inc,?_,zero⟩,?_⟩
 · rcases List.mem_cons.1 hg with rfl|hg
   · exact hdl
   · exact fr g (List.mem_cons_of_mem _ hg)
 · rcases dc with hd|hc
   · left
     rcases hd with hd|⟨g,hg,hg2⟩
     · exact Or.inl hd
     · right
       rw [hS] at hg
       rcases List.mem_cons.1 hg with rfl|hg'
       · exact ⟨⟨g.at_,g.done+1,g.ex⟩,by simp,hg2⟩
       · exact ⟨g,by simp [hg'],hg2⟩
   · right
     obtain ⟨c1,c2,c3,c4⟩:=hc
     rw [hS] at c1 c2 c3
     refine ⟨fun g hg => ?_,c2,⟨fun j hj y hy => ?_,c3.2⟩,c4⟩
     · rcases List.mem_cons.1 hg with rfl|hg
       · exact c1 f (by simp)
       · exact c1 g (by simp [hg])
     · simp only [] at hj hy
       by_cases e:j=f.done
       · subst e;rw [hm] at hy;injection hy with hy;subst hy
         exact Or.inl ((c2 m hmn h0).resolve_left hmr)
       · exact c3.1 j (by omega) y hy
 · unfold Jp
   simp only [hS,Ysr]
   omega
theorem Yrc (I:Zlt n next s) (hn:∀ x,x<n->∀ y∈next x,y<n) (hS:s.S=f::r) {m:Nat} (hm:(next f.at_)[f.done]? = some m) (hon:s.on.getD m false=true) {inn':List Bool} (hi:inn'=if m=f.at_ then s.inn.set f.at_ true else s.inn) :
 Zlt n next { s with back:=s.back.set f.at_ (min (s.back.getD f.at_ 0) (s.num.getD m 0)),inn:=inn',S:=⟨f.at_,f.done+1,f.ex⟩::r } /\
 Jp n next { s with back:=s.back.set f.at_ (min (s.back.getD f.at_ 0) (s.num.getD m 0)),inn:=inn',S:=⟨f.at_,f.done+1,f.ex⟩::r }<Jp n next s:=by
 obtain ⟨l1,l2,l3,l4,fr,lt,nd,onr,num,bk,inc,dc,zero⟩:=I
 rw [hS] at fr lt nd onr num bk inc
 have hfm:f.at_∈Xs (f::r):=by simp [Xs]
 have hfn:=lt _ hfm
 have hmn:m<n:=hn _ hfn m (List.mem_of_getElem? hm)
 have hdl:=(List.getElem?_eq_some_iff.1 hm).1
 have hmr:m∈Xs (f::r):=(onr m hmn).1 hon
 obtain ⟨np1,np2,np3,np4⟩:=Zhe nd
 have hbf:=bk _ hfm
 have hbm:=num m hmr
 have hil:inn'.length=n:=by rw [hi];split <;> simp [l4]
 have hinn:∀ x,s.inn.getD x false=true->inn'.getD x false=true:=fun x hx=>by
  rw [hi]
  split
  · rw [Yb _ _ _ _ _ (by omega)]
    split
    · rfl
    · exact hx
  · exact hx
 have hself:m=f.at_->inn'.getD f.at_ false=true:=fun e=>by rw [hi,if_pos e,Yb _ _ _ _ _ (by omega),if_pos rfl]
 refine ⟨⟨l1,by simp [l2],l3,hil,fun g hg => ?_,lt,nd,onr,num,fun x hx => ?_,Zhg (f:=f) rfl inc,?_,zero⟩,?_⟩
 · rcases List.mem_cons.1 hg with rfl|hg
   · exact hdl
   · exact fr g (List.mem_cons_of_mem _ hg)
 · simp only []
   rw [Yb _ _ _ _ _ (by omega)]
   by_cases e:x=f.at_
   · rw [if_pos e,e];omega
   · rw [if_neg e];exact bk x hx
 · by_cases hself':m=f.at_
   · exact Or.inl (Or.inl ⟨f.at_,hfn,hself hself'⟩)
   rcases dc with hd|hc
   · left
     rcases hd with ⟨x,hx,hx2⟩|⟨g,hg,hg2⟩
     · exact Or.inl ⟨x,hx,hinn x hx2⟩
     · right
       rw [hS] at hg
       rcases List.mem_cons.1 hg with rfl|hg'
       · refine ⟨⟨g.at_,g.done+1,g.ex⟩,by simp,hg2.imp id fun h => ?_⟩
         simp only []
         rw [Yb _ _ _ _ _ (by omega),if_pos rfl];omega
       · refine ⟨g,by simp [hg'],hg2.imp id fun h => ?_⟩
         simp only []
         rw [Yb _ _ _ _ _ (by omega),if_neg (np3 _ (Zzn hg')).1];exact h
   · left
     right
     obtain ⟨c1,c2,c3,c4⟩:=hc
     rw [hS] at c1
     have hex:=(c1 f (by simp)).1
     have hmr2:m∈Xs r:=by
      rw [Zcg,hex] at hmr
      simp at hmr
      exact hmr.resolve_right hself'
     have hfl:∀ S:List Fr,(∀ g∈S,g.ex=[])->∀ x∈Xs S,∃ g∈S,g.at_=x:=by
      intro S
      induction S with
      | nil=>intro _ x hx;cases hx
      | cons g t ih =>
        intro h x hx
        rw [Zcg,h g (by simp)] at hx
        rcases List.mem_append.1 hx with hx|hx
        · obtain ⟨g',hg',e⟩:=ih (fun g hg=>h g (by simp [hg])) x hx
          exact ⟨g',by simp [hg'],e⟩
        · simp at hx;exact ⟨g,by simp,hx.symm⟩
     obtain ⟨g,hg,hgm⟩:=hfl r (fun g hg=>(c1 g (by simp [hg])).1) m hmr2
     have hlt:=Zxz inc g hg
     rw [hgm] at hlt
     refine ⟨⟨f.at_,f.done+1,f.ex⟩,by simp,Or.inr ?_⟩
     simp only []
     rw [Yb _ _ _ _ _ (by omega),if_pos rfl]
     omega
 · unfold Jp
   simp only [hS,Ysr]
   omega
theorem Ymn (I:Zlt n next s) (hS:s.S=[f]):s.back.getD f.at_ 0=s.num.getD f.at_ 0:=by
 have h1:=I.inc
 have h2:=I.bk f.at_ (by rw [hS];simp [Xs])
 rw [hS] at h1
 simp only [Zya] at h1
 omega
theorem Yxz (I:Zlt n next s) {up:Fr} (hS:s.S=f::up::r) (hd:f.done=(next f.at_).length) (hb:s.back.getD f.at_ 0≠s.num.getD f.at_ 0) :
 Zlt n next { s with back:=s.back.set up.at_ (min (s.back.getD up.at_ 0) (s.back.getD f.at_ 0)),S:=⟨up.at_,up.done,up.ex++f.at_::f.ex⟩::r } /\
 Jp n next { s with back:=s.back.set up.at_ (min (s.back.getD up.at_ 0) (s.back.getD f.at_ 0)),S:=⟨up.at_,up.done,up.ex++f.at_::f.ex⟩::r }<Jp n next s:=by
 obtain ⟨l1,l2,l3,l4,fr,lt,nd,onr,num,bk,inc,dc,zero⟩:=I
 rw [hS] at fr lt nd onr num bk inc
 have hrow:Xs (⟨up.at_,up.done,up.ex++f.at_::f.ex⟩::r)=Xs (f::up::r):=by simp [Xs]
 have hum:up.at_∈Xs (f::up::r):=by simp [Xs]
 have hun:=lt _ hum
 have hfm:f.at_∈Xs (f::up::r):=by simp [Xs]
 have hbf:=bk _ hfm
 have hbu:=bk _ hum
 refine ⟨⟨l1,by simp [l2],l3,l4,fun g hg => ?_,by rw [hrow];exact lt,by rw [hrow];exact nd,by rw [hrow];exact onr,by rw [hrow];exact num,fun x hx => ?_,Zhg (f:=up) rfl (Zvb inc),?_,zero⟩,?_⟩
 · rcases List.mem_cons.1 hg with rfl|hg
   · exact fr up (by simp)
   · exact fr g (by simp [hg])
 · rw [hrow] at hx
   simp only []
   rw [Yb _ _ _ _ _ (by omega)]
   by_cases e:x=up.at_
   · rw [if_pos e,e];omega
   · rw [if_neg e];exact bk x hx
 · exact Or.inl (Or.inr ⟨⟨up.at_,up.done,up.ex++f.at_::f.ex⟩,by simp,Or.inl (by simp)⟩)
 · unfold Jp
   simp only [hS,Ysr]
   omega
def Zgf (back:List Nat) (v:Nat):List Fr->List Nat
 | []=>back
 | up::_=>back.set up.at_ (min (back.getD up.at_ 0) v)
theorem Yrb (I:Zlt n next s) (hS:s.S=f::r) (hd:f.done=(next f.at_).length) (hb:s.back.getD f.at_ 0=s.num.getD f.at_ 0) {on' inn':List Bool} (ho1:on'.length=n) (hi1:inn'.length=n)
 (ho:∀ x,x<n->on'.getD x false=if x=f.at_\/x∈f.ex then false else s.on.getD x false)
 (hi:∀ x,x<n->inn'.getD x false=if x=f.at_\/x∈f.ex then (s.inn.getD x false || !f.ex.isEmpty) else s.inn.getD x false) :
 Zlt n next { s with back:=Zgf s.back (s.back.getD f.at_ 0) r,on:=on',inn:=inn',S:=r,fin:=f.at_::s.fin } /\
 Jp n next { s with back:=Zgf s.back (s.back.getD f.at_ 0) r,on:=on',inn:=inn',S:=r,fin:=f.at_::s.fin }<Jp n next s:=by
 obtain ⟨l1,l2,l3,l4,fr,lt,nd,onr,num,bk,inc,dc,zero⟩:=I
 rw [hS] at fr lt nd onr num bk inc
 obtain ⟨np1,np2,np3,np4⟩:=Zhe nd
 have hfm:f.at_∈Xs (f::r):=by simp [Xs]
 have hfn:=lt _ hfm
 have hsub:∀ x∈Xs r,x∈Xs (f::r):=fun x hx=>by rw [Zcg];simp [hx]
 have hbl:(Zgf s.back (s.back.getD f.at_ 0) r).length=n:=by
  cases r with
  | nil=>exact l2
  | cons up t=>simp [Zgf,l2]
 have hub:∀ x,(Zgf s.back (s.back.getD f.at_ 0) r).getD x 0=s.back.getD x 0\/((∃ g∈r,g.at_=x)/\(Zgf s.back (s.back.getD f.at_ 0) r).getD x 0=min (s.back.getD x 0) (s.back.getD f.at_ 0)):=by
  intro x
  cases r with
  | nil=>exact Or.inl rfl
  | cons up t =>
    have hun:up.at_<s.back.length:=by rw [l2];exact lt _ (hsub _ (by simp [Xs]))
    simp only [Zgf]
    rw [Yb _ _ _ _ _ hun]
    by_cases e:x=up.at_
    · right;rw [if_pos e];exact ⟨⟨up,by simp,e.symm⟩,by rw [e]⟩
    · left;rw [if_neg e]
 have hbf:=bk _ hfm
 refine ⟨⟨l1,hbl,ho1,hi1,fun g hg=>fr g (by simp [hg]),fun x hx=>lt x (hsub x hx),np1,fun x hx => ?_,fun x hx=>num x (hsub x hx),fun x hx => ?_,Zvb inc,?_,zero⟩,?_⟩
 · simp only []
   rw [ho x hx]
   by_cases e:x=f.at_\/x∈f.ex
   · rw [if_pos e]
     constructor
     · intro h;cases h
     · intro h
       obtain ⟨h1,h2⟩:=np3 x h
       rcases e with e|e
       · exact absurd e h1
       · exact absurd e h2
   · rw [if_neg e,onr x hx,Zcg]
     constructor
     · intro h
       rcases List.mem_append.1 h with h|h
       · exact h
       · exact absurd (List.mem_cons.1 h) e
     · intro h;exact List.mem_append.2 (Or.inl h)
 · simp only []
   have h1:=bk x (hsub x hx)
   rcases hub x with h|⟨_,h⟩ <;> rw [h] <;> omega
 · rcases dc with hdy|hc
   · left
     rcases hdy with ⟨x,hx,hx2⟩|⟨g,hg,hg2⟩
     · refine Or.inl ⟨x,hx,?_⟩
       simp only []
       rw [hi x hx]
       split
       · rw [hx2];rfl
       · exact hx2
     · rw [hS] at hg
       rcases List.mem_cons.1 hg with rfl|hg'
       · rcases hg2 with h|h
         · left
           refine ⟨g.at_,hfn,?_⟩
           simp only []
           rw [hi _ hfn,if_pos (Or.inl rfl)]
           cases he:g.ex with
           | nil=>exact absurd he h
           | cons a t=>simp
         · omega
       · right
         refine ⟨g,hg',hg2.imp id fun h => ?_⟩
         simp only []
         rcases hub g.at_ with h1|⟨_,h1⟩ <;> rw [h1] <;> omega
   · right
     obtain ⟨c1,c2,c3,c4⟩:=hc
     rw [hS] at c1 c2 c3
     have hex:=(c1 f (by simp)).1
     refine ⟨fun g hg=>⟨(c1 g (by simp [hg])).1,?_⟩,fun x hx h => ?_,?_,⟨fun y hy => ?_,c4⟩⟩
     · simp only []
       have h2:=(c1 g (by simp [hg])).2
       have h3:=Zxz inc g hg
       rcases hub g.at_ with h1|⟨_,h1⟩ <;> rw [h1]
       · exact h2
       · omega
     · rcases c2 x hx h with h|h
       · rw [Zcg,hex] at h
         rcases List.mem_append.1 h with h|h
         · exact Or.inl h
         · simp at h;right;simp [h]
       · right;simp [h]
     · exact Yjq (x:=f.at_) (by simp) (Yjp (fun x hx=>by simp [hx]) c3.2)
     · obtain ⟨j,hj,rfl⟩:=List.getElem_of_mem hy
       exact (c3.1 j (by omega) _ (List.getElem?_eq_getElem hj)).elim id (fun e=>by cases e)
 · unfold Jp
   simp only [hS,Ysr]
   omega
def Yxb (next:Nat->List Nat):Prop:=∃ (Zde:Nat->Nat) (T:Nat->Prop),T 0/\∀ x,T x->∀ y∈next x,T y/\Zde y<Zde x
def rk:List Nat->Nat->Nat
 | [],_=>0
 | z::r,x=>if x∈r then rk r x else r.length+1
theorem Ynb:∀ (l:List Nat) (x:Nat),x∈l->rk l x<=l.length
 | z::r,x,h=>by
   unfold rk
   by_cases e:x∈r
   · rw [if_pos e];have:=Ynb r x e;simp;omega
   · rw [if_neg e];simp
theorem Zqu:∀ {l:List Nat},Zta next l->∀ x∈l,∀ y∈next x,y∈l/\rk l y<rk l x
 | z::r,h,x,hx,y,hy=>by
   by_cases e:x∈r
   · obtain ⟨h1,h2⟩:=Zqu h.2 x e y hy
     refine ⟨List.mem_cons_of_mem _ h1,?_⟩
     unfold rk
     rw [if_pos h1,if_pos e];exact h2
   · have hxz:x=z:=(List.mem_cons.1 hx).resolve_right e
     subst hxz
     have h1:=h.1 y hy
     refine ⟨List.mem_cons_of_mem _ h1,?_⟩
     unfold rk
     rw [if_pos h1,if_neg e]
     have:=Ynb r y h1
     omega
theorem Xcy (h1:0<n) (I:Zlt n next s) (hS:s.S=[]) (hno:∀ x,x<n->s.inn.getD x false=false):Yxb next:=by
 rcases I.dc with hd|hc
 · exfalso
   rcases hd with ⟨x,hx,hx2⟩|⟨g,hg,_⟩
   · rw [hno x hx] at hx2;cases hx2
   · rw [hS] at hg;cases hg
 · have h0:=hc.ent 0 h1 I.zero
   rw [hS] at h0
   have h0:0∈s.fin:=h0.resolve_left (by simp [Xs])
   exact ⟨rk s.fin,fun x=>x∈s.fin,h0,fun x hx y hy=>Zqu hc.fin x hx y hy⟩
end
structure AgW (w0 w:World) (bx gU n:Nat) (U:List Int):Prop where
 g:w0.grownBy w (some bx)
 r:w.ownsRow w0.heap.size 3 1 (.slice (some ⟨gU,0,none⟩) n n) n (U.map (Value.int .i64))
 v:∀ x,U.getD x 0=0\/U.getD x 0=1\/U.getD x 0=2
section
variable {w0 w w':World} {bx gU n:Nat} {U:List Int}
theorem Zwm (H:AgW w0 w bx gU n U):w0.heap.size<=gU/\gU<w.heap.size:=H.r.lt gU rfl
theorem Zsu (H:AgW w0 w bx gU n U):U.length=n:=by have:=H.r.1;simpa using this
theorem Ybj (H:AgW w0 w bx gU n U) (k:Nat) (hk:k<n):w.cell? ⟨gU,k,none⟩=some (.int .i64 (U.getD k 0)):=by
 have hl:=Zsu H
 rw [H.r.cellAt k (by omega),List.getElem?_map,List.getD_eq_getElem?_getD,List.getElem?_eq_getElem (by omega:k<U.length)]
 rfl
theorem Ylm (H:AgW w0 w bx gU n U) (k:Nat) (hk:k<n) (b:Int) (hb:b=1\/b=2):AgW w0 (w.setCell ⟨gU,k,none⟩ (.int .i64 b)) bx gU n (U.set k b):=by
 have hl:=Zwm H
 have hn:=Zsu H
 refine ⟨Zds H.g (Zh _ _ _ _) hl.1,?_,fun x => ?_⟩
 · rw [List.map_set]
   exact (H.r.stored k (.int .i64 b)).1
 · rw [Zs _ _ _ _ _ (by omega)]
   split
   · omega
   · exact H.v x
end
def zer (U:List Int):Nat:=(U.filter fun b=>b == 0).length
theorem Yel:∀ (U:List Int) (k:Nat),k<U.length->U.getD k 0=0->zer (U.set k 1)+1=zer U
 | [],k,h,_=>by simp at h
 | b::r,0,_,h=>by simp at h;subst h;simp [zer]
 | b::r,k+1,hl,h=>by
   have ih:=Yel r k (by simpa using hl) (by simpa using h)
   unfold zer at ih ⊢
   rw [List.set_cons_succ]
   by_cases hb:b=0
   · subst hb;simp;omega
   · have e:(b == 0)=false:=by simpa using hb
     simp [List.filter_cons,e];omega
theorem Yqw:∀ (U:List Int) (k:Nat) (v:Int),v≠0->zer (U.set k v)<=zer U
 | [],k,v,_=>by simp
 | b::r,0,v,h=>by
   have e:(v == 0)=false:=by simpa using h
   simp [zer,List.filter_cons,e]
   split <;> simp
 | b::r,k+1,v,h=>by
   have ih:=Yqw r k v h
   unfold zer at ih ⊢
   rw [List.set_cons_succ]
   simp only [List.filter_cons]
   split
   · simp only [List.length_cons];omega
   · exact ih
def Yed (fs:List FnP) (cl:Nat->List Nat) (U:List Int) (fin:List Nat):Prop:=Zta (Xv fs cl) fin/\(∀ x,x<fs.length->(U.getD x 0=2 ↔ x∈fin))/\(∀ x∈fin,x<fs.length)/\fin.Nodup
def Xbw (w0 w:World) (bx gU:Nat) (fs:List FnP) (cl:Nat->List Nat) (U:List Int) (fin:List Nat) (f:Nat) (e:Ending) (w':World):Prop :=
 ∃ b,e = .returned (.bool b)/\w.grownBy w' (some gU)/\(b=false->∃ U' fin',AgW w0 w' bx gU fs.length U'/\Yed fs cl U' fin'/\(∀ x∈fin,x∈fin')/\f∈fin'/\(∀ x,x<fs.length->(U'.getD x 0=1 ↔ U.getD x 0=1))/\zer U'<=zer U)
theorem Yll (N:Nat):∀ (w0 w:World) (bw bx bm B:Nat) (mem:Int) (pd:Option Addr) (nd cd:Nat) (pF:Option Addr) (cF:Nat) (fs:List FnP) (cl:Nat->List Nat) (gU:Nat) (U:List Int) (fin:List Nat) (f:Nat)
 (S:St w0 bw bx bm B mem pd nd cd pF cF fs cl) (H:AgW w0 w bx gU fs.length U) (hI:Yed fs cl U fin) (hf:f<fs.length) (hN:zer U<N),
 Calls Try.prog 44 #[.pointer (some ⟨bw,0,none⟩),.int .i64 f,.slice (some ⟨gU,0,none⟩) fs.length fs.length] w (Xbw w0 w bx gU fs cl U fin f):=by
 induction N with
 | zero=>intro w0 w bw bx bm B mem pd nd cd pF cF fs cl gU U fin f S H hI hf hN;omega
 | succ N ih =>
   intro w0 w bw bx bm B mem pd nd cd pF cF fs cl gU U fin f S H hI hf hN
   have hlw:=Zwm H
   have vf:=Ybj H f hf
   have zf:=Ye H.r f
   have hfi:(f:Int)<(fs.length:Int):=by omega
   have sgU:=hlw.2
   rcases H.v f with hV|hV|hV
   · rw [hV] at vf
     have H1:=Ylm H f hf 1 (Or.inl rfl)
     obtain ⟨w1,hw1⟩:∃ w1,w1=w.setCell ⟨gU,f,none⟩ (.int .i64 1):=⟨_,rfl⟩
     have hg1:w.grownBy w1 (some gU):=by rw [hw1];exact Zh _ _ _ _
     rw [<- hw1] at H1
     have hl:=Zsu H
     have hd:=Yel U f (by omega) hV
     have hI1:Yed fs cl (U.set f 1) fin:=by
      refine ⟨hI.1,fun x hx => ?_,hI.2.2⟩
      rw [Zs _ _ _ _ _ (by omega)]
      by_cases e:x=f
      · subst e
        rw [if_pos rfl]
        constructor
        · intro h;omega
        · intro h
          have:=(hI.2.1 x hx).2 h
          omega
      · rw [if_neg e];exact hI.2.1 x hx
     have HW1:=Hq hw1
     have HG1:=Hq hg1
     have HH1:=Hq H1
     have HI1:=Hq hI1
     have SS:=Hq S
     have HF:=Hq hf
     have IH:=Hq ih
     have HVV:=Hq hV
     have HLN:=Hq hl
     obtain ⟨pc,cc,hrun,hcells⟩:=S.calls f hf
     have HRUN:=Hq hrun
     have HCE:=Hq hcells
     obtain ⟨⟨ar,lo,r,c⟩,hfn⟩:∃ fn,fs[f]? = some fn:=⟨_,List.getElem?_eq_getElem hf⟩
     obtain ⟨hcl,hok⟩:=S.ok f ar lo r c hfn
     have HFN:=Hq hfn
     have HOK:=Hq hok
     have HD:=Hq (show zer (U.set f 1)<N by omega)
     have HZ:=Hq (show zer (U.set f 1)<=zer U by omega)
     clear S H hg1 hw1 H1 hrun hcells hfn hok hd ih hV hN hI hI1 hl
     go_enter Try.func44,Try.ntmps44
     go_upto_region 4 with fail
     clear vf zf
     rw [<- HW1.out]
     have kb:=Zb SS.out.bwc HH1.out.g (by intro e;injection e with e;exact SS.out.ne1 e.symm)
     have k4:=Cq _ _ 4 _ _ _ kb
     have s1:=(Gs kb)
     have hr1:=HRUN.out w1 (HH1.out.g.block bm SS.out.lm (by intro e;injection e with e;exact SS.out.ne2 e))
     have hci:((cl f).length:Int)<=4096:=by omega
     clear kb
     go_wp2_with (at_lookup;refine Zbr rfl _ _ 69 rfl rfl rfl hr1 ?_)
     clear k4 s1 hr1 sgU
     go_loopw [29] (fun i wr=>∃ (k:Nat) (Uk:List Int) (fink:List Nat),i = .int .i64 k/\k<=(cl f).length/\w.grownBy wr (some gU)/\AgW w0 wr bx gU fs.length Uk/\Yed fs cl Uk fink/\(∀ x∈fin,x∈fink) /\
      (∀ x,x<fs.length->(Uk.getD x 0=1 ↔ (U.set f 1).getD x 0=1))/\zer Uk<=zer (U.set f 1)/\(∀ j:Nat,j<k->∀ y,(Zgw c (cl f))[j]? = some y->y∈fink)) (fun i _=>(cl f).length - (intOf i).toNat)
     case atStart =>
      exact ⟨0,U.set f 1,fin,rfl,Nat.zero_le _,HG1.out,HH1.out,HI1.out,fun x h=>h,fun x _=>Iff.rfl,Nat.le_refl _,fun j hj=>absurd hj (Nat.not_lt_zero _)⟩
     case round =>
      obtain ⟨k,Uk,fink,rfl,hk,hgk,hW,hInv,hsub,hone,hzer,hdone⟩:=hrel
      by_cases hlt:(k:Int)<((cl f).length:Int)
      · obtain ⟨at_,hat⟩:∃ a,(cl f)[k]? = some a:=⟨_,List.getElem?_eq_getElem (by omega)⟩
        obtain ⟨bc,hpc,hbx,hcell⟩:=HCE.out k at_ hat
        obtain ⟨a,hins,ha⟩:=HOK.out at_ (List.mem_of_getElem? hat)
        have ec:=hW.g.cell hcell (by intro e;injection e with e;exact hbx e)
        subst hpc
        have sc:=World.block_lt_of_cell? _ _ ec
        have kb:=Zb SS.out.bwc hW.g (by intro e;injection e with e;exact SS.out.ne1 e.symm)
        have k2:=Cq _ _ 2 _ _ _ kb
        have s1:=(Gs kb)
        have hFr:=Zq SS.out.hF hW.g (fun r e=>by injection e with e;rw [<- e];exact SS.out.bx_)
        obtain ⟨bF,oF,hpF,hbF,hcF⟩:=hFr (by omega)
        obtain ⟨-,-,-,pc',cc',e3,hcode⟩:=hcF f ar lo r c HFN.out
        have hat2:=(List.getElem?_eq_some_iff.1 hins).1
        obtain ⟨b',o',hpc',hb',hcc⟩:=hcode (by omega)
        subst hpc'
        obtain ⟨d0,d1⟩:=hcc at_ 17 a hins
        have sF:=World.block_lt_of_cell? _ _ e3
        have sb:=World.block_lt_of_cell? _ _ d1
        have hai:(at_:Int)<(c.length:Int):=by omega
        have CA:=Hq (IH.out _ _ _ _ _ _ _ _ _ _ _ _ _ _ _ _ fink _ SS.out hW hInv ha (by have:=HD.out;omega))
        have HSUB:=Hq hsub
        have HONE:=Hq hone
        have HZER:=Hq hzer
        have HDN:=Hq hdone
        have HGK:=Hq hgk
        have HAT:=Hq hat
        have HINS:=Hq hins
        clear hW hsub hone hzer hInv hdone hgk hat hins hcell hcc hcode hcF hFr hbx kb ha
        go_upto_region 9 with (go_at_call 44;refine CA.out.mono ?_;rintro e w5 ⟨b5,rfl,g5,h5⟩;have HG5:=Hq g5;have HH5:=Hq h5;clear g5 h5;cases b5)
        · obtain ⟨U5,fin5,hw5,hi5,hs5,hin5,ho5,hz5⟩:=HH5.out (by trivial)
          have A1:=Hq hw5
          have A2:=Hq hi5
          have A3:=Hq hs5
          have A4:=Hq hin5
          have A5:=Hq ho5
          have A6:=Hq hz5
          clear hw5 hi5 hs5 hin5 ho5 hz5
          go_wp2
          refine ⟨⟨k+1,U5,fin5,by go_num,by omega,Za HGK.out HG5.out,A1.out,A2.out,fun x hx=>A3.out x (HSUB.out x hx),fun x hx=>(A5.out x hx).trans (HONE.out x hx),Nat.le_trans A6.out HZER.out,fun j hj y hy => ?_⟩,by simp [intOf];omega⟩
          by_cases e:j=k
          · subst e
            unfold Zgw at hy
            rw [List.getElem?_map,HAT.out] at hy
            simp only [Option.map_some,HINS.out,Option.some.injEq] at hy
            rw [<- hy]
            exact A4.out
          · exact A3.out y (HDN.out j (by omega) y hy)
        · go_ret
          exact ⟨true,rfl,Za HGK.out HG5.out,fun h=>by cases h⟩
      · have hkn:k=(cl f).length:=by omega
        have hcw:=Zwm hW
        have zf:=Ye hW.r f
        have vf:=Ybj hW f HF.out
        have H9:=Ylm hW f HF.out 2 (Or.inr rfl)
        have hcg:=hcw.2
        have HHW:=Hq hW
        have HH9:=Hq H9
        have HINV:=Hq hInv
        have HSUB:=Hq hsub
        have HONE:=Hq hone
        have HZER:=Hq hzer
        have HDN:=Hq hdone
        have HGK:=Hq hgk
        have hlk:=Zsu hW
        have HLK:=Hq hlk
        clear hW hsub hone hzer hInv hdone hgk H9 hcw hlk
        go_wp2
        go_ret
        refine ⟨false,rfl,Za HGK.out (Zh _ _ _ _),fun _=>⟨Uk.set f 2,f::fink,HH9.out,⟨⟨fun y hy => ?_,HINV.out.1⟩,fun x hx => ?_,fun x hx => ?_,List.nodup_cons.2 ⟨fun h => ?_,HINV.out.2.2.2⟩⟩,fun x hx=>List.mem_cons_of_mem _ (HSUB.out x hx),List.mem_cons_self ..,fun x hx => ?_,Nat.le_trans (Yqw _ _ _ (by decide)) (Nat.le_trans HZER.out HZ.out)⟩⟩
        · unfold Xv at hy
          simp only [HFN.out] at hy
          obtain ⟨j,hj,rfl⟩:=List.getElem_of_mem hy
          refine HDN.out j ?_ _ (List.getElem?_eq_getElem hj)
          unfold Zgw at hj
          rw [List.length_map] at hj
          omega
        · rw [Zs _ _ _ _ _ (by rw [HLK.out];exact HF.out)]
          by_cases e:x=f
          · subst e;simp
          · rw [if_neg e,HINV.out.2.1 x hx]
            simp [e]
        · rcases List.mem_cons.1 hx with rfl|hx
          · exact HF.out
          · exact HINV.out.2.2.1 x hx
        · have h1:=(HINV.out.2.1 f HF.out).2 h
          have h2:=(HONE.out f HF.out).2 (by rw [Zs _ _ _ _ _ (by rw [HLN.out];exact HF.out),if_pos rfl])
          omega
        · rw [Zs _ _ _ _ _ (by rw [HLK.out];exact HF.out)]
          by_cases e:x=f
          · subst e
            rw [if_pos rfl]
            have:=HVV.out
            omega
          · rw [if_neg e,HONE.out x hx,Zs _ _ _ _ _ (by rw [HLN.out];exact HF.out),if_neg e]
   · rw [hV] at vf
     have HG:=Hq (Zc w (some gU))
     clear S H ih hI
     go_enter Try.func44,Try.ntmps44
     go_wp2
     go_ret
     exact ⟨true,rfl,HG.out,fun h=>by cases h⟩
   · rw [hV] at vf
     have HH:=Hq H
     have HI:=Hq hI
     have hff:=(hI.2.1 f hf).1 hV
     have HFF:=Hq hff
     clear S H ih hI hff
     go_enter Try.func44,Try.ntmps44
     go_wp2
     go_ret
     exact ⟨false,rfl,Zc _ _,fun _=>⟨U,fin,HH.out,HI.out,fun x h=>h,HFF.out,fun x _=>Iff.rfl,Nat.le_refl _⟩⟩
open Go.Maps
theorem Ypn:Keyed Try.prog 3:=int_keyed Try.underlying3
theorem Yvm (w:World):(zeroValue 3).run Try.prog w = .ok (.int .i64 0) w:=by kernel_rfl
theorem Yis {v:Int} (h : -1000000000000000000<=v/\v<=1000000000000000000):(Lit.int .i64 v).wf=true:=by
 have e1:IntKind.i64.min = -9223372036854775808:=by decide
 have e2:IntKind.i64.max=9223372036854775807:=by decide
 simp only [Lit.wf,e1,e2,Bool.and_eq_true,decide_eq_true_eq]
 omega
theorem Znd {f:Nat} (h:f<1000000000):keyOf Try.prog 3 (.int .i64 (f:Int))=some (.int .i64 (f:Int)):=keyOf_int_mk Try.underlying3 (Yis (by omega))
def Xca (kn:Nat->Option Int) (nf:Nat):Nat:=((List.range nf).filter fun f=>(kn f).isSome).length
def Zia (kn:Nat->Option Int) (f:Nat) (v:Int):Nat->Option Int:=fun x=>if x=f then some v else kn x
def KnW (w:World) (bk nf:Nat) (kn:Nat->Option Int):Prop:=nf<=64/\∃ (n:Nat) (D:DataW Unit),w.ownsMap Try.prog 3 (plainElem Try.prog 3) bk n D/\n<=Xca kn nf/\IsMap D /\
 ∀ f:Nat,f<nf->has D (.int .i64 (f:Int))=(kn f).isSome/\∀ v,kn f=some v->∀ z,D.atKey (.int .i64 (f:Int)) z = .lit (.int .i64 v)
theorem Ywh (kn:Nat->Option Int) (nf:Nat):Xca kn nf<=nf:=by
 unfold Xca
 have:=List.length_filter_le (fun f=>(kn f).isSome) (List.range nf)
 rwa [List.length_range] at this
theorem Yal (w:World) {nf:Nat} (h:nf<=64):KnW (w.alloc (.map #[] 0)) w.heap.size nf fun _=>none :=
 ⟨h,0,.map [],World.ownsMap_made _ _ _ _,Nat.zero_le _,⟨[],rfl⟩,fun f _=>⟨rfl,fun v hv=>by cases hv⟩⟩
theorem Zcb {w w':World} {bk nf:Nat} {kn:Nat->Option Int} {r:Option Nat} (h:KnW w bk nf kn) (g:w.grownBy w' r) (hr:some bk≠r):KnW w' bk nf kn:=by
 obtain ⟨h0,n,D,h1,h2⟩:=h
 exact ⟨h0,n,D,h1.kept g hr,h2⟩
theorem Xap {w:World} {bk nf:Nat} {kn:Nat->Option Int} (h:KnW w bk nf kn):bk<w.heap.size:=by
 obtain ⟨_,n,D,h1,_⟩:=h
 exact h1.lt
theorem Zry {a b:Int} (h:(DataW.lit (.int .i64 a):DataW Unit) = .lit (.int .i64 b)):a=b:=by
 simpa only [DataW.lit.injEq,Lit.int.injEq,true_and] using h
theorem Zph {D:DataW Unit} {k:Lit} (h:has D k=false) (z:DataW Unit):D.atKey k z=z:=atKey_of_not_has h z
theorem Yrv {w:World} {bk nf f:Nat} {kn:Nat->Option Int} (h:KnW w bk nf kn) (hf:f<nf) :
 (Instr.lookup 94 (.map (some bk)) (.int .i64 f) true).run Try.prog w = .ok (.tuple #[.int .i64 ((kn f).getD 0),.bool (kn f).isSome]) w:=by
 obtain ⟨h0,n,D,h1,h2,h3,h4⟩:=h
 obtain ⟨v,ps,hrun,hv⟩:=h1.look_ok Ypn Try.underlying94 (Yvm w) (plainElem_int Try.underlying3 (by decide)) (Znd (f:=f) (by omega))
 obtain ⟨c,rfl,hc,_⟩:=plainElem_int_inv Try.underlying3 hv
 simp only [Prod.mk.injEq] at hc
 obtain ⟨h5,h6⟩:=h4 f hf
 rw [hrun,h5]
 cases hk:kn f with
 | none =>
   rw [hk] at h5
   have h7:=Zph (by simpa using h5) (.lit (.int .i64 0))
   rw [h7] at hc
   have e:=Zry hc.1
   rw [<- e];rfl
 | some v =>
   have h7:=h6 v hk (.lit (.int .i64 0))
   rw [h7] at hc
   have e:=Zry hc.1
   rw [<- e];rfl
theorem Yrw {w:World} {bk nf f:Nat} {v:Int} {kn:Nat->Option Int} (h:KnW w bk nf kn) (hf:f<nf) (hv:kn f=some v) :
 (Instr.lookup 94 (.map (some bk)) (.int .i64 f) false).run Try.prog w = .ok (.int .i64 v) w:=by
 obtain ⟨h0,n,D,h1,h2,h3,h4⟩:=h
 obtain ⟨c,hrun,hc,_⟩:=h1.lookup_int Ypn Try.underlying94 Try.underlying3 (Yvm w) (Znd (f:=f) (by omega))
 obtain ⟨h5,h6⟩:=h4 f hf
 rw [h6 v hv] at hc
 rw [hrun,<- Zry hc]
theorem Yiv {w:World} {bk nf f:Nat} {v:Int} {kn:Nat->Option Int} (h:KnW w bk nf kn) (hf:f<nf) (hn:kn f=none) (hv : -1000000000000000000<=v/\v<=1000000000000000000) :
 ∃ w',(Instr.mapUpdate 94 (.map (some bk)) (.int .i64 f) (.int .i64 v)).run Try.prog w = .ok () w'/\KnW w' bk nf (Zia kn f v)/\w.grownBy w' (some bk):=by
 obtain ⟨h0,n,D,h1,h2,h3,h4⟩:=h
 have hc:=Ywh kn nf
 obtain ⟨w',hrun,h5,h6⟩:=h1.update Ypn Try.underlying94 (by unfold maxLen;omega) (Znd (f:=f) (by omega)) (plainElem_int Try.underlying3 (Yis hv))
 refine ⟨w',hrun,⟨h0,n+1,_,h5,?_,h3.put _ _,fun x hx => ?_⟩,h6⟩
 · have key:∀ l:List Nat,l.Nodup->f∈l->(l.filter fun x=>(Zia kn f v x).isSome).length=(l.filter fun x=>(kn x).isSome).length+1:=by
    intro l
    induction l with
    | nil=>intro _ h;cases h
    | cons x r ih =>
      intro hnd hm
      obtain ⟨n1,n2⟩:=List.nodup_cons.1 hnd
      by_cases e:x=f
      · subst e
        have hsame:(r.filter fun y=>(Zia kn x v y).isSome)=r.filter fun y=>(kn y).isSome:=by
         refine List.filter_congr fun y hy => ?_
         unfold Zia
         rw [if_neg (fun e=>n1 (by rw [<- e];exact hy))]
        simp only [List.filter_cons,hsame]
        rw [if_pos (by simp [Zia]),if_neg (by simp [hn])]
        rfl
      · have hm2:=(List.mem_cons.1 hm).resolve_left (fun h=>e h.symm)
        have:=ih n2 hm2
        simp only [List.filter_cons]
        have e2:Zia kn f v x=kn x:=by unfold Zia;rw [if_neg e]
        rw [e2]
        split
        · simp only [List.length_cons,this]
        · exact this
   unfold Xca at h2 ⊢
   rw [key _ List.nodup_range (List.mem_range.2 hf)]
   omega
 · obtain ⟨h7,h8⟩:=h4 x hx
   by_cases e:x=f
   · subst e
     refine ⟨?_,fun u hu z => ?_⟩
     · rw [has_put_same h3 (by trivial)];simp [Zia]
     · have:u=v:=by simpa [Zia] using hu.symm
       subst this
       exact atKey_put_same h3 (by trivial) _ _
   · have hne:(Lit.int .i64 (x:Int)) ≠ .int .i64 (f:Int):=fun h=>by injection h with _ h;omega
     refine ⟨?_,fun u hu z => ?_⟩
     · rw [has_put_other hne,h7];simp [Zia,e]
     · rw [atKey_put_other hne]
       exact h8 u (by simpa [Zia,e] using hu) z
def Ybn (w:World) (bk m:Nat) (f:Nat->Int):Prop:=∃ (n:Nat) (D:DataW Unit),w.ownsMap Try.prog 3 (plainElem Try.prog 3) bk n D/\n<=m/\IsMap D /\
 ∀ x:Nat,x<1000000000->D.atKey (.int .i64 (x:Int)) (.lit (.int .i64 0)) = .lit (.int .i64 (f x))
theorem Zuv (w:World):Ybn (w.alloc (.map #[] 0)) w.heap.size 0 fun _=>0 :=
 ⟨0,.map [],World.ownsMap_made _ _ _ _,Nat.zero_le _,⟨[],rfl⟩,fun x _=>Zph rfl _⟩
theorem Zmy {w w':World} {bk m:Nat} {f:Nat->Int} {r:Option Nat} (h:Ybn w bk m f) (g:w.grownBy w' r) (hr:some bk≠r):Ybn w' bk m f:=by
 obtain ⟨n,D,h1,h2⟩:=h
 exact ⟨n,D,h1.kept g hr,h2⟩
theorem Yus {w:World} {bk m:Nat} {f:Nat->Int} (h:Ybn w bk m f):bk<w.heap.size:=by
 obtain ⟨n,D,h1,_⟩:=h
 exact h1.lt
theorem Zeq {w:World} {bk m:Nat} {f g:Nat->Int} (h:Ybn w bk m f) (e:∀ x,f x=g x):Ybn w bk m g:=by
 obtain ⟨n,D,h1,h2,h3,h4⟩:=h
 exact ⟨n,D,h1,h2,h3,fun x hx=>by rw [<- e x];exact h4 x hx⟩
theorem Zrq {w:World} {bk m x:Nat} {f:Nat->Int} (h:Ybn w bk m f) (hx:x<1000000000) :
 (Instr.lookup 94 (.map (some bk)) (.int .i64 x) false).run Try.prog w = .ok (.int .i64 (f x)) w:=by
 obtain ⟨n,D,h1,h2,h3,h4⟩:=h
 obtain ⟨c,hrun,hc,_⟩:=h1.lookup_int Ypn Try.underlying94 Try.underlying3 (Yvm w) (Znd (f:=x) hx)
 rw [h4 x hx] at hc
 rw [hrun,<- Zry hc]
theorem Yac {w:World} {bk m x:Nat} {v:Int} {f:Nat->Int} (h:Ybn w bk m f) (hm:m<1000000000) (hx:x<1000000000) (hv : -1000000000000000000<=v/\v<=1000000000000000000) :
 ∃ w',(Instr.mapUpdate 94 (.map (some bk)) (.int .i64 x) (.int .i64 v)).run Try.prog w = .ok () w'/\Ybn w' bk (m+1) (fun y=>if y=x then v else f y)/\w.grownBy w' (some bk):=by
 obtain ⟨n,D,h1,h2,h3,h4⟩:=h
 obtain ⟨w',hrun,h5,h6⟩:=h1.update Ypn Try.underlying94 (by unfold maxLen;omega) (Znd (f:=x) hx) (plainElem_int Try.underlying3 (Yis hv))
 refine ⟨w',hrun,⟨n+1,_,h5,by omega,h3.put _ _,fun y hy => ?_⟩,h6⟩
 show _=DataW.lit (.int .i64 (if y=x then v else f y))
 by_cases e:y=x
 · subst e
   rw [if_pos rfl]
   exact atKey_put_same h3 (by trivial) _ _
 · rw [if_neg e,atKey_put_other (fun h=>by injection h with _ h;omega)]
   exact h4 y hy
end Go.Proofs.Ythlkflagancdfaa.CK
namespace Go.Proofs.Ythlkflagancdfaa.OT
open Go.RowKit Go.Great
open Go.Proofs.Ythlkflagancdfaa.CK
theorem Zhi:∀ (l:List Ins) (i:Nat) (x:Ins) (v:Int),l[i]? = some x->(Yc l).set (i*2+1) (.int .i64 v)=Yc (l.set i (x.1,v))
 | [],i,x,v,h=>by simp at h
 | y::r,0,x,v,h=>by simp at h;subst h;simp [Yc]
 | y::r,i+1,x,v,h=>by
   have e:(i+1)*2+1=(i*2+1)+1+1:=by omega
   rw [e]
   simp only [Yc,List.set_cons_succ,Zhi r i x v (by simpa using h)]
def reK (g:Int->Int) (c:List Ins) (k:Nat):List Ins:=reJ g (c.take k)++c.drop k
theorem Zqz (g:Int->Int) (c:List Ins) (k:Nat):(reK g c k).length=c.length:=by simp [reK,reJ];omega
theorem Zmo {g:Int->Int} {c:List Ins} {k:Nat} {x:Ins} (h:c[k]? = some x):(reK g c k)[k]? = some x:=by
 have hk:=(List.getElem?_eq_some_iff.1 h).1
 unfold reK reJ
 rw [List.getElem?_append_right (by simp;omega)]
 simp [Nat.min_eq_left (by omega:k<=c.length),h]
theorem Zqy {g:Int->Int} {c:List Ins} {k:Nat} {x:Ins} (h:c[k]? = some x):reK g c (k+1)=(reK g c k).set k (if jmp x.1=true then (x.1,g x.2) else x):=by
 have hk:=(List.getElem?_eq_some_iff.1 h).1
 have hx:x=c[k]:=by rw [List.getElem?_eq_getElem hk] at h;injection h with h;exact h.symm
 unfold reK reJ
 rw [List.take_succ_eq_append_getElem hk,List.map_append,List.set_append_right _ _ (by simp;omega)]
 have e:k - (List.map (fun x=>if jmp x.fst=true then (x.fst,g x.snd) else x) (List.take k c)).length=0:=by simp;omega
 rw [e,List.drop_eq_getElem_cons hk,List.set_cons_zero,<- hx]
 simp
theorem Ygn (g:Int->Int) (c:List Ins):reK g c c.length=reJ g c:=by unfold reK;simp
theorem Zzr (g:Int->Int) (c:List Ins):reK g c 0=c:=by unfold reK reJ;simp
theorem Zzs {g:Int->Int} {c:List Ins} {k:Nat} {x:Ins} (h:c[k]? = some x) (hj:jmp x.1=false):reK g c (k+1)=reK g c k:=by
 rw [Zqy h,hj,if_neg (by decide)]
 have hk:=(List.getElem?_eq_some_iff.1 (Zmo (g:=g) h))
 obtain ⟨h1,h2⟩:=hk
 rw [<- h2]
 exact List.set_getElem_self h1
def Ylq (w:World) (base:Nat) (v:Value) (c:List Ins) (nums:List Int) (e:Ending) (w':World):Prop :=
 e = .returned v/\w.grownBy w' v.ownBlock/\w'.ownsRow base 49 2 v c.length (Yc (reJ (fun a=>nums.getD a.toNat 0) c))
theorem Zmn (c:List Ins) (nums:List Int) (base base':Nat) (v vn:Value) (w:World) (hl:c.length<=1000000) (ho:w.ownsRow base 49 2 v c.length (Yc c)) (hn:w.ownsRow base' 3 1 vn nums.length (nums.map (Value.int .i64))) (hj:∀ x∈c,jmp x.1=true->0<=x.2/\x.2<nums.length) :
 Calls Try.prog 49 #[v,vn] w (Ylq w base v c nums):=by
 obtain ⟨pv,kv,rfl⟩:=Zp ho
 obtain ⟨pn,kn,rfl⟩:=Zp hn
 have J:=Hq (fun op w=>Yu op w)
 have HO:=Hq ho
 have HN:=Hq hn
 have HJ:=Hq hj
 have hli:(c.length:Int)<=1000000:=by omega
 clear ho hn hj
 generalize hg0:(fun a:Int=>nums.getD a.toNat 0)=g at *
 have HG0:=Hq hg0
 clear hg0
 unfold Ylq
 rw [show (fun a:Int=>nums.getD a.toNat 0)=g from HG0.out]
 go_enter Try.func49,Try.ntmps49
 go_wp2
 go_loopw [8] (fun i wr=>∃ k:Nat,i = .int .i64 k/\k<=c.length/\w.grownBy wr (Value.slice pv c.length kv).ownBlock/\wr.ownsRow base 49 2 (.slice pv c.length kv) c.length (Yc (reK g c k))) (fun i _=>c.length - (intOf i).toNat)
 case atStart=>exact ⟨0,rfl,Nat.zero_le _,Zc _ _,by rw [Zzr];exact HO.out⟩
 case round =>
  obtain ⟨k,rfl,hk,hg,hr⟩:=hrel
  have HG:=Hq hg
  have HR:=Hq hr
  by_cases hlt:(k:Int)<(c.length:Int)
  · obtain ⟨⟨op,a⟩,hx⟩:∃ x,c[k]? = some x:=⟨_,List.getElem?_eq_getElem (by omega)⟩
    obtain ⟨gC,cap,e,hgC,hcell⟩:=Zx hr (by omega)
    injection e with e1 e2 e3
    subst e1;subst e3
    obtain ⟨q0,q1⟩:=Xy (reK g c k) k op a (Zmo hx)
    have c0:=hcell _ _ q0 (by omega)
    have c1:=hcell _ _ q1 (by omega)
    have hx':=Hq hx
    clear hcell q0 q1 hg e2
    cases hb:jmp op with
    | false =>
      have JF:=Hq (show ∀ w,Calls Try.prog 52 #[.int .i64 op] w fun e w'=>e = .returned (.bool false)/\w=w' from fun w=>hb ▸ Yu op w)
      have KS:=Hq (Zzs (g:=g) hx hb)
      clear J hb hx hr
      go_wp2_with (go_at_call 52;refine (JF.out _).mono ?_;rintro e w' ⟨rfl,rfl⟩)
      go_roundw
      case rel=>exact ⟨k+1,by go_num,by omega,HG.out,by rw [KS.out];exact HR.out⟩
      case measure=>simp [intOf];omega
    | true =>
      have JT:=Hq (show ∀ w,Calls Try.prog 52 #[.int .i64 op] w fun e w'=>e = .returned (.bool true)/\w=w' from fun w=>hb ▸ Yu op w)
      obtain ⟨ha0,ha1⟩:=HJ.out _ (List.mem_of_getElem? hx) hb
      simp only [] at ha0 ha1
      obtain ⟨m,rfl⟩:=Int.eq_ofNat_of_zero_le ha0
      have hn2:=HN.out.kept HG.out (Xq (Zz HN.out (Nat.zero_le _)) (Zz HO.out (Nat.zero_le _)) (by decide))
      obtain ⟨gN,capN,eN,hgN,hcN⟩:=Zx hn2 (by omega)
      injection eN with e4 e5 e6
      subst e4;subst e6
      have n0:=hcN m (.int .i64 (nums.getD m 0)) (by rw [List.getElem?_map,List.getElem?_eq_getElem (by omega:m<nums.length)];simp [List.getD_eq_getElem?_getD,List.getElem?_eq_getElem (by omega:m<nums.length)]) (by omega)
      have hz:=Ye HR.out (k*2+1)
      have hm1:(m:Int)<(nums.length:Int):=ha1
      have KN:=Hq (Zqy (g:=g) hx)
      have RS:=Hq ((HR.out.stored (k*2+1) (.int .i64 (nums.getD m 0))).1)
      have EG:=Hq (show g (m:Int)=nums.getD m 0 by rw [<- HG0.out];simp)
      have GS:=Hq (show w.grownBy (wr.setCell ⟨gC,k*2+1,none⟩ (.int .i64 (nums.getD m 0))) (some gC) from Za HG.out (Zh _ _ _ _))
      have FS:=Hq (Zhi (reK g c k) k (op,(m:Int)) (nums.getD m 0) (Zmo hx))
      have HB:=Hq hb
      clear J hb hx hr hn2 hcN ha0 ha1 e5
      go_wp2_with (go_at_call 52;refine (JT.out _).mono ?_;rintro e w' ⟨rfl,rfl⟩)
      go_roundw
      case rel =>
       refine ⟨k+1,by go_num,by omega,GS.out,?_⟩
       have h9:=RS.out
       rw [FS.out] at h9
       rw [KN.out]
       simp only [HB.out,if_true,EG.out]
       exact h9
      case measure=>simp [intOf];omega
  · have hkn:k=c.length:=by omega
    subst hkn
    clear hg hr
    go_wp2
    go_ret
    exact ⟨rfl,HG.out,by have h:=HR.out;rw [Ygn] at h;exact h⟩
end Go.Proofs.Ythlkflagancdfaa.OT
