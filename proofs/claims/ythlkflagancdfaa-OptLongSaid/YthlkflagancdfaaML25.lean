/-
  Part of a proof: contracts of functions and lemmas, each stated by its own theorem. Conditions: as each theorem states.
-/
import Derived.Test.YthlkflagancdfaaML24
import Derived.Test.YthlkflagancdfaaML12
import Derived.Deep.LoopGhost
import Derived.Deep.Cut
import Derived.Deep.QuietTactic
import Derived.BigQuiet
set_option linter.unusedSimpArgs false
set_option linter.unusedVariables false
set_option maxRecDepth 100000
set_option maxHeartbeats 16000000
namespace Go.Proofs.Ythlkflagancdfaa.OT
open Go.RowKit Go.Great
open Go.Proofs.Ythlkflagancdfaa.CK
def Jd {α:Type} (l:List α) (b:Nat->Bool) (k:Nat):List α:=(List.range k).filterMap fun i=>if b i=true then l[i]? else none
theorem Zak {α:Type} (l:List α) (b:Nat->Bool) (k:Nat) (x:α) (h:l[k]? = some x):Jd l b (k+1)=Jd l b k++if b k=true then [x] else []:=by
 unfold Jd
 rw [List.range_succ,List.filterMap_append]
 congr 1
 cases hb:b k <;> simp [hb,h]
theorem Yn {α:Type} (l:List α) (b:Nat->Bool):∀ k,k<=l.length->(Jd l b k).length=Yo b k
 | 0,_=>by simp [Jd,Yo]
 | k+1,h=>by
   obtain ⟨x,hx⟩:∃ x,l[k]? = some x:=⟨_,List.getElem?_eq_getElem (by omega)⟩
   rw [Zak l b k x hx,List.length_append,Yn l b k (by omega),Yo]
   cases b k <;> simp
theorem Zcq (b:Nat->Bool):∀ k,Yo b k<=k
 | 0=>Nat.le_refl _
 | k+1=>by
   have:=Zcq b k
   unfold Yo
   split <;> omega
def Zbj (b:Nat->Bool) (n k:Nat):List Int:=(List.range n).map fun j=>if j<k then (Yo b j:Int) else 0
theorem Zmh (b:Nat->Bool) (n k:Nat):(Zbj b n k).length=n:=by simp [Zbj]
theorem Zij (b:Nat->Bool) (n k:Nat) (h:k<n):((Zbj b n k).map (Value.int .i64)).set k (.int .i64 (Yo b k))=(Zbj b n (k+1)).map (Value.int .i64):=by
 apply List.ext_getElem?
 intro j
 by_cases e:j=k
 · subst e
   rw [List.getElem?_set_self (by simp [Zmh];exact h)]
   simp [Zbj,h]
 · rw [List.getElem?_set_ne (Ne.symm e)]
   by_cases hj:j<n
   · simp only [Zbj,List.map_map,List.getElem?_map,List.getElem?_range,hj,if_true]
     simp only [Option.map_some,Function.comp]
     by_cases h1:j<k
     · rw [if_pos h1,if_pos (by omega)]
     · rw [if_neg h1,if_neg (by omega)]
   · simp [Zbj,hj]
theorem Zik (b:Nat->Bool) (n k:Nat) (h:k<n):((Zbj b n k).map (Value.int .i64))[k]? = some (.int .i64 0):=by simp [Zbj,h]
theorem Zor (b:Nat->Bool) (n:Nat):(Zbj b n 0).map (Value.int .i64)=List.replicate n (.int .i64 0):=by
 apply List.ext_getElem?
 intro j
 by_cases hj:j<n
 · simp [Zbj,hj]
 · simp [Zbj,hj]
abbrev FnQ:=Int × Int × Int × Value
def Zjr:List FnQ->List Value
 | []=>[]
 | x::r => .int .i64 x.1 :: .int .i64 x.2.1 :: .int .i64 x.2.2.1::x.2.2.2::Zjr r
theorem Zkg:∀ (l r:List FnQ),Zjr (l++r)=Zjr l++Zjr r
 | [],r=>rfl
 | x::l,r=>by simp [Zjr,Zkg l r]
theorem Ybu (a l r:Int) (p:Option Addr) (n k:Nat):∀ u∈[Value.int .i64 a,Value.int .i64 l,Value.int .i64 r,Value.slice p n k],u.oneCell'=true:=by
 intro u hu;simp at hu;rcases hu with rfl|rfl|rfl|rfl <;> rfl
theorem Yhg (w:World) (x y z v:Value) (t:TypeId):∀ j u,[x,y,z,v][j]? = some u->(w.alloc (.cells #[x,y,z,v] t)).cell? ((⟨w.heap.size,0,none⟩:Addr).add j)=some u:=by
 intro j u hj
 match j,hj with
 | 0,hj=>simp at hj;subst hj;simp [Addr.add]
 | 1,hj=>simp at hj;subst hj;simp [Addr.add]
 | 2,hj=>simp at hj;subst hj;simp [Addr.add]
 | 3,hj=>simp at hj;subst hj;simp [Addr.add]
def Ynw (w:World) (p:Option Addr) (l:List FnQ):Prop:=∀ (i:Nat) (x:FnQ),l[i]? = some x->∃ b o:Nat,p=some ⟨b,o,none⟩/\b<w.heap.size/\w.cell? ⟨b,o+i*4,none⟩=some (.int .i64 x.1)/\w.cell? ⟨b,o+i*4+1,none⟩=some (.int .i64 x.2.1)/\w.cell? ⟨b,o+i*4+2,none⟩=some (.int .i64 x.2.2.1)/\w.cell? ⟨b,o+i*4+3,none⟩=some x.2.2.2/\∃ (q:Option Addr) (n k:Nat),x.2.2.2 = .slice q n k
def Yyj (w:World) (p:Option Addr) (l:List Ins):Prop:=∀ (i:Nat) (x:Ins),l[i]? = some x->∃ b o:Nat,p=some ⟨b,o,none⟩/\b<w.heap.size/\w.cell? ⟨b,o+i*2,none⟩=some (.int .i64 x.1)/\w.cell? ⟨b,o+i*2+1,none⟩=some (.int .i64 x.2)
theorem Zmw {w:World} {B:Nat} {p:Option Addr} {c:List Ins} (h:Ji w B p c) (hB:B<=w.heap.size):Yyj w p c:=fun i x hi=>by
 obtain ⟨b,o,e,hb,hc⟩:=h (by have:=(List.getElem?_eq_some_iff.1 hi).1;omega)
 obtain ⟨h0,h1⟩:=hc i x.1 x.2 hi
 exact ⟨b,o,e,by omega,h0,h1⟩
theorem Zem {w w':World} {p:Option Addr} {c:List Ins} (h:Yyj w p c) (g:w.grownBy w' none):Yyj w' p c:=fun i x hi=>by
 obtain ⟨b,o,e,hb,h0,h1⟩:=h i x hi
 exact ⟨b,o,e,Nat.lt_of_lt_of_le hb g.size,g.cell h0 (by simp),g.cell h1 (by simp)⟩
theorem Ybt {w w':World} {p:Option Addr} {l:List FnQ} (h:Ynw w p l) (g:w.grownBy w' none):Ynw w' p l:=fun i x hi=>by
 obtain ⟨b,o,e,hb,h0,h1,h2,h3,h4⟩:=h i x hi
 exact ⟨b,o,e,Nat.lt_of_lt_of_le hb g.size,g.cell h0 (by simp),g.cell h1 (by simp),g.cell h2 (by simp),g.cell h3 (by simp),h4⟩
def Yai (E:TypeId) (size:Nat) (w:World) (m n:Nat) (xs:List Value) (b:Nat->Bool) (e:Ending) (w':World):Prop :=
 ∃ vo vn,e = .returned (.tuple #[vo,vn])/\w.grownBy w' none/\w'.ownsRow w.heap.size E size vo m xs/\w'.ownsRow w.heap.size 3 1 vn (n+1) ((Zbj b (n+1) (n+1)).map (Value.int .i64))
theorem Ymr (l:List Ins) (p:Option Addr) (cap:Nat) (b:Nat->Bool) (w:World) (hl:l.length<=4096) (hC:Yyj w p l) (pa pb:Addr)
 (hS:∀ W,w.grownBy W none->∀ i:Nat,i<l.length->Calls Try.prog 48 #[.int .i64 i,.pointer (some pa),.pointer (some pb)] W fun e W'=>e = .returned (.bool (b i))/\W=W') :
 Calls Try.prog 47 #[.slice p l.length cap,.func (.func 48) #[] #[.pointer (some pa),.pointer (some pb)]] w (Yai 49 2 w (Jd l b l.length).length l.length (Zw (Jd l b l.length)) b):=by
 obtain ⟨ii,ii0,ii1,ii2,ii3⟩:=info_parts Zat
 obtain ⟨bi,bi0,bi1,bi2,bi3⟩:=info_parts Zgv
 have hni:(l.length:Int)<=4096:=by omega
 have hk1:ii.bytes*(l.length+1)<=281474976710656:=by rw [ii3];omega
 have hk3:l.length+1<=maxLen:=by unfold maxLen;omega
 have hw1:IntKind.i64.wrap ((l.length:Int)+1)=(l.length:Int)+1:=IntWalk.i64_in _ (by omega)
 have CQ:=Hq hC
 have SS:=Hq hS
 clear hC hS
 go_enter Try.func47,Try.ntmps47
 go_wp2_with (refine wpList_make_full _ rfl _ _ 32 rfl w.heap.size 3 ii (.int .i64 0) 1 Zbw ii0 ii1 ii2 .i64 .i64 _ _ (l.length+1) rfl rfl rfl rfl hk1 hk3 (Nat.le_refl _) ?_;intro w2 hr2 hg2;have R2:=Hq hr2;have G2:=Hq hg2;clear hr2 hg2)
 have RZ:=Hq (show w2.ownsRow w.heap.size 3 1 (.slice (some ⟨w.heap.size,0,none⟩) (l.length+1) (l.length+1)) (l.length+1) ((Zbj b (l.length+1) 0).map (Value.int .i64)) by
  have:=R2.out
  rw [show (madeCells (Value.int .i64 0).cells ((l.length+1)*1)).toList=(Zbj b (l.length+1) 0).map (Value.int .i64) by rw [Zor,Nat.mul_one];exact toList_madeCells_one _ _] at this
  exact this)
 clear R2
 go_loopw [6,16] (fun o i wr=>∃ k:Nat,i = .int .i64 k/\k<=l.length/\w.grownBy wr none/\wr.ownsRow w.heap.size 49 2 o (Yo b k) (Zw (Jd l b k))/\wr.ownsRow w.heap.size 3 1 (.slice (some ⟨w.heap.size,0,none⟩) (l.length+1) (l.length+1)) (l.length+1) ((Zbj b (l.length+1) k).map (Value.int .i64))) (fun _ i _=>l.length - (intOf i).toNat)
 case atStart=>exact ⟨0,rfl,Nat.zero_le _,G2.out,World.ownsRow_nil _ _ _ _,RZ.out⟩
 case round =>
  obtain ⟨k,rfl,hk,hg,ho,hr⟩:=hrel
  obtain ⟨po,ko,rfl⟩:=Zq ho
  have HG:=Hq hg
  have HO:=Hq ho
  have HR:=Hq hr
  have lN:=(hr.lt w.heap.size rfl).2
  have hst:=Zcq b k
  by_cases hlt:(k:Int)<(l.length:Int)
  · have hk2:k<l.length:=by omega
    obtain ⟨⟨x0,x1⟩,hx⟩:∃ x,l[k]? = some x:=⟨_,List.getElem?_eq_getElem hk2⟩
    obtain ⟨b1,o1,rfl,hb1,cA,cB⟩:=Zem CQ.out hg k _ hx
    simp only [] at cA cB
    obtain ⟨gN,cN,eN,-,hcN⟩:=Yb hr (by omega)
    injection eN with e1 e2 e3
    injection e1 with e1;injection e1 with e1 _ _;subst e1
    have cN:=hcN k _ (Zik b _ k (by omega)) (by omega)
    have zN:=Yf hr k
    have hx':=Hq hx
    have KS:=Hq (Zak l b k _ hx)
    have hq1:(k:Int)<(l.length:Int)+1:=by omega
    clear hg ho hr hcN e2 e3 hx
    go_wp2_with fail
    have XB:=Hq (show ((wr.setCell ⟨w.heap.size,k,none⟩ (.int .i64 (Yo b k))).alloc (.cells #[.int .i64 x0,.int .i64 x1] 49)).heap[wr.heap.size]? = some (.cells #[.int .i64 x0,.int .i64 x1] 49 (0,0)) by
     have:=heap_alloc_new (wr.setCell ⟨w.heap.size,k,none⟩ (.int .i64 (Yo b k))) (.cells #[.int .i64 x0,.int .i64 x1] 49)
     rw [World.size_setCell] at this
     exact this)
    have GA:=Hq (Za (Ze (b:=w.heap.size) (o:=k) (v := .int .i64 (Yo b k)) HG.out (Nat.le_refl _)) (Ga _ (.cells #[.int .i64 x0,.int .i64 x1] 49) none))
    have O1:=Hq (((HO.out.kept (Zg wr w.heap.size k (.int .i64 (Yo b k))) (Xr HO.out HR.out (by decide))).alloc (.cells #[.int .i64 x0,.int .i64 x1] 49)))
    have R1:=Hq (show ((wr.setCell ⟨w.heap.size,k,none⟩ (.int .i64 (Yo b k))).alloc (.cells #[.int .i64 x0,.int .i64 x1] 49)).ownsRow w.heap.size 3 1 (.slice (some ⟨w.heap.size,0,none⟩) (l.length+1) (l.length+1)) (l.length+1) ((Zbj b (l.length+1) (k+1)).map (Value.int .i64)) by
     have:=(HR.out.stored k (.int .i64 (Yo b k))).1.alloc (.cells #[.int .i64 x0,.int .i64 x1] 49)
     rw [Zij b _ k (by omega)] at this
     exact this)
    generalize (wr.setCell ⟨w.heap.size,k,none⟩ (.int .i64 (Yo b k))).alloc (.cells #[.int .i64 x0,.int .i64 x1] 49)=W4 at *
    refine (SS.out W4 GA.out k hk2).mono ?_
    rintro e w5 ⟨rfl,rfl⟩
    have l4:=(Gs XB.out)
    have cA4:=Cq _ _ 0 _ _ _ XB.out
    have cB4:=Cq _ _ 1 _ _ _ XB.out
    have ST:=Hq (show Yo b (k+1)=Yo b k+if b k=true then 1 else 0 from rfl)
    have hc3:Yo b k+1<=maxLen:=by unfold maxLen;omega
    have hc4:(Yo b k+1)*16<=140737488355328:=by omega
    have hbl:=(R1.out.lt w.heap.size rfl).2
    clear cN zN cA cB
    cases hb:b k with
    | true =>
      rw [hb] at KS ST
      go_wp2_with (at_builtin;refine wpList_append_own_at _ rfl _ _ 50 rfl w.heap.size 49 bi (.agg #[.int .i64 0,.int .i64 0]) 2 16 Zab bi0 bi1 bi2 bi3 rfl (by decide) (.slice po (Yo b k) ko) _ _ rfl (O1.out.alloc _) ⟨W4.heap.size,0,none⟩ 1 1 [.int .i64 x0,.int .i64 x1] rfl rfl (Ydd W4 _ _ _) (Zpo _ _ _) hc3 hc4 (by simp;omega) ?_;intro v9 w9 hown9 hgr9 hnil9 hat9;obtain ⟨p9,k9,hv9⟩:=Zq hown9;subst hv9;have O9:=Hq hown9;have G9:=Hq hgr9;clear hown9 hgr9 hnil9 hat9)
      go_roundw
      case rel =>
       refine ⟨k+1,by go_num,by omega,Yu (Za GA.out (Ga _ _ _)) G9.out (fun q hq=>(O1.out.lt q hq).1),?_,(R1.out.alloc _).kept G9.out (Xr R1.out O1.out (by decide))⟩
       have h9:=O9.out
       rw [KS.out,ST.out]
       simp only [if_true,Yv,Zw]
       exact h9
      case measure=>simp [intOf];omega
    | false =>
      rw [hb] at KS ST
      go_wp2
      go_roundw
      case rel =>
       refine ⟨k+1,by go_num,by omega,GA.out,?_,R1.out⟩
       have h9:=O1.out
       rw [KS.out,ST.out]
       simpa using h9
      case measure=>simp [intOf];omega
  · have hkn:k=l.length:=by omega
    subst hkn
    obtain ⟨gN,cN,eN,-,hcN⟩:=Yb hr (by omega)
    injection eN with e1 e2 e3
    injection e1 with e1;injection e1 with e1 _ _;subst e1
    have cN:=hcN l.length _ (Zik b _ l.length (by omega)) (by omega)
    have zN:=Yf hr l.length
    have hq1:(l.length:Int)<(l.length:Int)+1:=by omega
    clear hg ho hr hcN e2 e3
    go_wp2
    go_ret2
    refine ⟨_,_,rfl,Ze HG.out (Nat.le_refl _),?_,?_⟩
    · have:=HO.out.kept (Zg wr w.heap.size l.length (.int .i64 (Yo b l.length))) (Xr HO.out HR.out (by decide))
      rw [<- Yn l b l.length (Nat.le_refl _)] at this
      rw [Yn l b l.length (Nat.le_refl _)]
      rw [Yn l b l.length (Nat.le_refl _)] at this
      exact this
    · have:=(HR.out.stored l.length (.int .i64 (Yo b l.length))).1
      rw [Zij b _ l.length (by omega)] at this
      exact this
theorem Yms (l:List FnQ) (p:Option Addr) (cap:Nat) (b:Nat->Bool) (w:World) (hl:l.length<=4096) (hC:Ynw w p l) (pa:Addr)
 (hS:∀ W,w.grownBy W none->∀ i:Nat,i<l.length->Calls Try.prog 51 #[.int .i64 i,.pointer (some pa)] W fun e W'=>e = .returned (.bool (b i))/\W=W') :
 Calls Try.prog 50 #[.slice p l.length cap,.func (.func 51) #[] #[.pointer (some pa)]] w (Yai 52 4 w (Jd l b l.length).length l.length (Zjr (Jd l b l.length)) b):=by
 obtain ⟨ii,ii0,ii1,ii2,ii3⟩:=info_parts Zat
 obtain ⟨bi,bi0,bi1,bi2,bi3⟩:=info_parts Zlc
 have hni:(l.length:Int)<=4096:=by omega
 have hk1:ii.bytes*(l.length+1)<=281474976710656:=by rw [ii3];omega
 have hk3:l.length+1<=maxLen:=by unfold maxLen;omega
 have hw1:IntKind.i64.wrap ((l.length:Int)+1)=(l.length:Int)+1:=IntWalk.i64_in _ (by omega)
 have CQ:=Hq hC
 have SS:=Hq hS
 clear hC hS
 go_enter Try.func50,Try.ntmps50
 go_wp2_with (refine wpList_make_full _ rfl _ _ 32 rfl w.heap.size 3 ii (.int .i64 0) 1 Zbw ii0 ii1 ii2 .i64 .i64 _ _ (l.length+1) rfl rfl rfl rfl hk1 hk3 (Nat.le_refl _) ?_;intro w2 hr2 hg2;have R2:=Hq hr2;have G2:=Hq hg2;clear hr2 hg2)
 have RZ:=Hq (show w2.ownsRow w.heap.size 3 1 (.slice (some ⟨w.heap.size,0,none⟩) (l.length+1) (l.length+1)) (l.length+1) ((Zbj b (l.length+1) 0).map (Value.int .i64)) by
  have:=R2.out
  rw [show (madeCells (Value.int .i64 0).cells ((l.length+1)*1)).toList=(Zbj b (l.length+1) 0).map (Value.int .i64) by rw [Zor,Nat.mul_one];exact toList_madeCells_one _ _] at this
  exact this)
 clear R2
 go_loopw [6,16] (fun o i wr=>∃ k:Nat,i = .int .i64 k/\k<=l.length/\w.grownBy wr none/\wr.ownsRow w.heap.size 52 4 o (Yo b k) (Zjr (Jd l b k))/\wr.ownsRow w.heap.size 3 1 (.slice (some ⟨w.heap.size,0,none⟩) (l.length+1) (l.length+1)) (l.length+1) ((Zbj b (l.length+1) k).map (Value.int .i64))) (fun _ i _=>l.length - (intOf i).toNat)
 case atStart=>exact ⟨0,rfl,Nat.zero_le _,G2.out,World.ownsRow_nil _ _ _ _,RZ.out⟩
 case round =>
  obtain ⟨k,rfl,hk,hg,ho,hr⟩:=hrel
  obtain ⟨po,ko,rfl⟩:=Zq ho
  have HG:=Hq hg
  have HO:=Hq ho
  have HR:=Hq hr
  have lN:=(hr.lt w.heap.size rfl).2
  have hst:=Zcq b k
  by_cases hlt:(k:Int)<(l.length:Int)
  · have hk2:k<l.length:=by omega
    obtain ⟨⟨x0,x1,x2,xv⟩,hx⟩:∃ x,l[k]? = some x:=⟨_,List.getElem?_eq_getElem hk2⟩
    obtain ⟨b1,o1,rfl,hb1,cA,cB,cC,cD,xq,xn,xk,xe⟩:=Ybt CQ.out hg k _ hx
    simp only [] at cA cB cC cD xe;subst xe
    obtain ⟨gN,cN,eN,-,hcN⟩:=Yb hr (by omega)
    injection eN with e1 e2 e3
    injection e1 with e1;injection e1 with e1 _ _;subst e1
    have cN:=hcN k _ (Zik b _ k (by omega)) (by omega)
    have zN:=Yf hr k
    have hx':=Hq hx
    have KS:=Hq (Zak l b k _ hx)
    have hq1:(k:Int)<(l.length:Int)+1:=by omega
    clear hg ho hr hcN e2 e3 hx
    go_wp2_with fail
    have XB:=Hq (show ((wr.setCell ⟨w.heap.size,k,none⟩ (.int .i64 (Yo b k))).alloc (.cells #[.int .i64 x0,.int .i64 x1,.int .i64 x2,.slice xq xn xk] 52)).heap[wr.heap.size]? = some (.cells #[.int .i64 x0,.int .i64 x1,.int .i64 x2,.slice xq xn xk] 52 (0,0)) by
     have:=heap_alloc_new (wr.setCell ⟨w.heap.size,k,none⟩ (.int .i64 (Yo b k))) (.cells #[.int .i64 x0,.int .i64 x1,.int .i64 x2,.slice xq xn xk] 52)
     rw [World.size_setCell] at this
     exact this)
    have GA:=Hq (Za (Ze (b:=w.heap.size) (o:=k) (v := .int .i64 (Yo b k)) HG.out (Nat.le_refl _)) (Ga _ (.cells #[.int .i64 x0,.int .i64 x1,.int .i64 x2,.slice xq xn xk] 52) none))
    have O1:=Hq (((HO.out.kept (Zg wr w.heap.size k (.int .i64 (Yo b k))) (Xr HO.out HR.out (by decide))).alloc (.cells #[.int .i64 x0,.int .i64 x1,.int .i64 x2,.slice xq xn xk] 52)))
    have R1:=Hq (show ((wr.setCell ⟨w.heap.size,k,none⟩ (.int .i64 (Yo b k))).alloc (.cells #[.int .i64 x0,.int .i64 x1,.int .i64 x2,.slice xq xn xk] 52)).ownsRow w.heap.size 3 1 (.slice (some ⟨w.heap.size,0,none⟩) (l.length+1) (l.length+1)) (l.length+1) ((Zbj b (l.length+1) (k+1)).map (Value.int .i64)) by
     have:=(HR.out.stored k (.int .i64 (Yo b k))).1.alloc (.cells #[.int .i64 x0,.int .i64 x1,.int .i64 x2,.slice xq xn xk] 52)
     rw [Zij b _ k (by omega)] at this
     exact this)
    generalize (wr.setCell ⟨w.heap.size,k,none⟩ (.int .i64 (Yo b k))).alloc (.cells #[.int .i64 x0,.int .i64 x1,.int .i64 x2,.slice xq xn xk] 52)=W4 at *
    refine (SS.out W4 GA.out k hk2).mono ?_
    rintro e w5 ⟨rfl,rfl⟩
    have l4:=(Gs XB.out)
    have cA4:=Cq _ _ 0 _ _ _ XB.out
    have cB4:=Cq _ _ 1 _ _ _ XB.out
    have cC4:=Cq _ _ 2 _ _ _ XB.out
    have cD4:=Cq _ _ 3 _ _ _ XB.out
    have ST:=Hq (show Yo b (k+1)=Yo b k+if b k=true then 1 else 0 from rfl)
    have hc3:Yo b k+1<=maxLen:=by unfold maxLen;omega
    have hc4:(Yo b k+1)*48<=140737488355328:=by omega
    have hbl:=(R1.out.lt w.heap.size rfl).2
    clear cN zN cA cB cC cD
    cases hb:b k with
    | true =>
      rw [hb] at KS ST
      go_wp2_with (at_builtin;refine wpList_append_own_at _ rfl _ _ 23 rfl w.heap.size 52 bi (.agg #[.int .i64 0,.int .i64 0,.int .i64 0,.slice none 0 0]) 4 48 Zjp bi0 bi1 bi2 bi3 rfl (by decide) (.slice po (Yo b k) ko) _ _ rfl (O1.out.alloc _) ⟨W4.heap.size,0,none⟩ 1 1 [.int .i64 x0,.int .i64 x1,.int .i64 x2,.slice xq xn xk] rfl rfl (Yhg W4 _ _ _ _ _) (Ybu _ _ _ _ _ _) hc3 hc4 (by simp;omega) ?_;intro v9 w9 hown9 hgr9 hnil9 hat9;obtain ⟨p9,k9,hv9⟩:=Zq hown9;subst hv9;have O9:=Hq hown9;have G9:=Hq hgr9;clear hown9 hgr9 hnil9 hat9)
      go_roundw
      case rel =>
       refine ⟨k+1,by go_num,by omega,Yu (Za GA.out (Ga _ _ _)) G9.out (fun q hq=>(O1.out.lt q hq).1),?_,(R1.out.alloc _).kept G9.out (Xr R1.out O1.out (by decide))⟩
       have h9:=O9.out
       rw [KS.out,ST.out]
       simp only [if_true,Zkg,Zjr]
       exact h9
      case measure=>simp [intOf];omega
    | false =>
      rw [hb] at KS ST
      go_wp2
      go_roundw
      case rel =>
       refine ⟨k+1,by go_num,by omega,GA.out,?_,R1.out⟩
       have h9:=O1.out
       rw [KS.out,ST.out]
       simpa using h9
      case measure=>simp [intOf];omega
  · have hkn:k=l.length:=by omega
    subst hkn
    obtain ⟨gN,cN,eN,-,hcN⟩:=Yb hr (by omega)
    injection eN with e1 e2 e3
    injection e1 with e1;injection e1 with e1 _ _;subst e1
    have cN:=hcN l.length _ (Zik b _ l.length (by omega)) (by omega)
    have zN:=Yf hr l.length
    have hq1:(l.length:Int)<(l.length:Int)+1:=by omega
    clear hg ho hr hcN e2 e3
    go_wp2
    go_ret2
    refine ⟨_,_,rfl,Ze HG.out (Nat.le_refl _),?_,?_⟩
    · have:=HO.out.kept (Zg wr w.heap.size l.length (.int .i64 (Yo b l.length))) (Xr HO.out HR.out (by decide))
      rw [<- Yn l b l.length (Nat.le_refl _)] at this
      rw [Yn l b l.length (Nat.le_refl _)]
      rw [Yn l b l.length (Nat.le_refl _)] at this
      exact this
    · have:=(HR.out.stored l.length (.int .i64 (Yo b l.length))).1
      rw [Zij b _ l.length (by omega)] at this
      exact this
theorem Zgy:∀ (l:List Ins) (i:Nat) (x:Ins) (v:Int),l[i]? = some x->(Zw l).set (i*2+1) (.int .i64 v)=Zw (l.set i (x.1,v))
 | [],i,x,v,h=>by simp at h
 | y::r,0,x,v,h=>by simp at h;subst h;simp [Zw]
 | y::r,i+1,x,v,h=>by
   have e:(i+1)*2+1=(i*2+1)+1+1:=by omega
   rw [e]
   simp only [Zw,List.set_cons_succ,Zgy r i x v (by simpa using h)]
def reK (g:Int->Int) (c:List Ins) (k:Nat):List Ins:=reJ g (c.take k)++c.drop k
theorem Zqh (g:Int->Int) (c:List Ins) (k:Nat):(reK g c k).length=c.length:=by simp [reK,reJ];omega
theorem Zmc {g:Int->Int} {c:List Ins} {k:Nat} {x:Ins} (h:c[k]? = some x):(reK g c k)[k]? = some x:=by
 have hk:=(List.getElem?_eq_some_iff.1 h).1
 unfold reK reJ
 rw [List.getElem?_append_right (by simp;omega)]
 simp [Nat.min_eq_left (by omega:k<=c.length),h]
theorem Zqg {g:Int->Int} {c:List Ins} {k:Nat} {x:Ins} (h:c[k]? = some x):reK g c (k+1)=(reK g c k).set k (if jmp x.1=true then (x.1,g x.2) else x):=by
 have hk:=(List.getElem?_eq_some_iff.1 h).1
 have hx:x=c[k]:=by rw [List.getElem?_eq_getElem hk] at h;injection h with h;exact h.symm
 unfold reK reJ
 rw [List.take_succ_eq_append_getElem hk,List.map_append,List.set_append_right _ _ (by simp;omega)]
 have e:k - (List.map (fun x=>if jmp x.fst=true then (x.fst,g x.snd) else x) (List.take k c)).length=0:=by simp;omega
 rw [e,List.drop_eq_getElem_cons hk,List.set_cons_zero,<- hx]
 simp
theorem Yej (g:Int->Int) (c:List Ins):reK g c c.length=reJ g c:=by unfold reK;simp
theorem Zym (g:Int->Int) (c:List Ins):reK g c 0=c:=by unfold reK reJ;simp
theorem Zyn {g:Int->Int} {c:List Ins} {k:Nat} {x:Ins} (h:c[k]? = some x) (hj:jmp x.1=false):reK g c (k+1)=reK g c k:=by
 rw [Zqg h,hj,if_neg (by decide)]
 have hk:=(List.getElem?_eq_some_iff.1 (Zmc (g:=g) h))
 obtain ⟨h1,h2⟩:=hk
 rw [<- h2]
 exact List.set_getElem_self h1
def Yji (w:World) (base:Nat) (v:Value) (c:List Ins) (nums:List Int) (e:Ending) (w':World):Prop :=
 e = .returned v/\w.grownBy w' v.ownBlock/\w'.ownsRow base 49 2 v c.length (Zw (reJ (fun a=>nums.getD a.toNat 0) c))
theorem Zmb (c:List Ins) (nums:List Int) (base base':Nat) (v vn:Value) (w:World) (hl:c.length<=1000000) (ho:w.ownsRow base 49 2 v c.length (Zw c)) (hn:w.ownsRow base' 3 1 vn nums.length (nums.map (Value.int .i64))) (hj:∀ x∈c,jmp x.1=true->0<=x.2/\x.2<nums.length) :
 Calls Try.prog 49 #[v,vn] w (Yji w base v c nums):=by
 obtain ⟨pv,kv,rfl⟩:=Zq ho
 obtain ⟨pn,kn,rfl⟩:=Zq hn
 have J:=Hq (fun op w=>Ys op w)
 have HO:=Hq ho
 have HN:=Hq hn
 have HJ:=Hq hj
 have hli:(c.length:Int)<=1000000:=by omega
 clear ho hn hj
 generalize hg0:(fun a:Int=>nums.getD a.toNat 0)=g at *
 have HG0:=Hq hg0
 clear hg0
 unfold Yji
 rw [show (fun a:Int=>nums.getD a.toNat 0)=g from HG0.out]
 go_enter Try.func49,Try.ntmps49
 go_wp2
 go_loopw [8] (fun i wr=>∃ k:Nat,i = .int .i64 k/\k<=c.length/\w.grownBy wr (Value.slice pv c.length kv).ownBlock/\wr.ownsRow base 49 2 (.slice pv c.length kv) c.length (Zw (reK g c k))) (fun i _=>c.length - (intOf i).toNat)
 case atStart=>exact ⟨0,rfl,Nat.zero_le _,Zc _ _,by rw [Zym];exact HO.out⟩
 case round =>
  obtain ⟨k,rfl,hk,hg,hr⟩:=hrel
  have HG:=Hq hg
  have HR:=Hq hr
  by_cases hlt:(k:Int)<(c.length:Int)
  · obtain ⟨⟨op,a⟩,hx⟩:∃ x,c[k]? = some x:=⟨_,List.getElem?_eq_getElem (by omega)⟩
    obtain ⟨gC,cap,e,hgC,hcell⟩:=Yb hr (by omega)
    injection e with e1 e2 e3
    subst e1;subst e3
    obtain ⟨q0,q1⟩:=Zad (reK g c k) k op a (Zmc hx)
    have c0:=hcell _ _ q0 (by omega)
    have c1:=hcell _ _ q1 (by omega)
    have hx':=Hq hx
    clear hcell q0 q1 hg e2
    cases hb:jmp op with
    | false =>
      have JF:=Hq (show ∀ w,Calls Try.prog 52 #[.int .i64 op] w fun e w'=>e = .returned (.bool false)/\w=w' from fun w=>hb ▸ Ys op w)
      have KS:=Hq (Zyn (g:=g) hx hb)
      clear J hb hx hr
      go_wp2_with (go_at_call 52;refine (JF.out _).mono ?_;rintro e w' ⟨rfl,rfl⟩)
      go_roundw
      case rel=>exact ⟨k+1,by go_num,by omega,HG.out,by rw [KS.out];exact HR.out⟩
      case measure=>simp [intOf];omega
    | true =>
      have JT:=Hq (show ∀ w,Calls Try.prog 52 #[.int .i64 op] w fun e w'=>e = .returned (.bool true)/\w=w' from fun w=>hb ▸ Ys op w)
      obtain ⟨ha0,ha1⟩:=HJ.out _ (List.mem_of_getElem? hx) hb
      simp only [] at ha0 ha1
      obtain ⟨m,rfl⟩:=Int.eq_ofNat_of_zero_le ha0
      have hn2:=HN.out.kept HG.out (Xr (Ye HN.out (Nat.zero_le _)) (Ye HO.out (Nat.zero_le _)) (by decide))
      obtain ⟨gN,capN,eN,hgN,hcN⟩:=Yb hn2 (by omega)
      injection eN with e4 e5 e6
      subst e4;subst e6
      have n0:=hcN m (.int .i64 (nums.getD m 0)) (by rw [List.getElem?_map,List.getElem?_eq_getElem (by omega:m<nums.length)];simp [List.getD_eq_getElem?_getD,List.getElem?_eq_getElem (by omega:m<nums.length)]) (by omega)
      have hz:=Yf HR.out (k*2+1)
      have hm1:(m:Int)<(nums.length:Int):=ha1
      have KN:=Hq (Zqg (g:=g) hx)
      have RS:=Hq ((HR.out.stored (k*2+1) (.int .i64 (nums.getD m 0))).1)
      have EG:=Hq (show g (m:Int)=nums.getD m 0 by rw [<- HG0.out];simp)
      have GS:=Hq (show w.grownBy (wr.setCell ⟨gC,k*2+1,none⟩ (.int .i64 (nums.getD m 0))) (some gC) from Za HG.out (Zg _ _ _ _))
      have FS:=Hq (Zgy (reK g c k) k (op,(m:Int)) (nums.getD m 0) (Zmc hx))
      have HB:=Hq hb
      clear J hb hx hr hn2 hcN ha0 ha1 e5
      go_wp2_with (go_at_call 52;refine (JT.out _).mono ?_;rintro e w' ⟨rfl,rfl⟩)
      go_roundw
      case rel =>
       refine ⟨k+1,by go_num,by omega,GS.out,?_⟩
       have h9:=RS.out
       rw [FS.out] at h9
       rw [KN.out]
       simp only [HB.out,if_true,EG.out]
       exact h9
      case measure=>simp [intOf];omega
  · have hkn:k=c.length:=by omega
    subst hkn
    clear hg hr
    go_wp2
    go_ret
    exact ⟨rfl,HG.out,by have h:=HR.out;rw [Yej] at h;exact h⟩
def Zsz (sl:List Nat) (x:Nat):Int:=if x∈sl then 1 else 0
theorem Zzv (c:List Ins) (p:Option Addr) (cap a0:Nat) (w:World) (hC:Yyj w p c) (hl:c.length<=4096) (ha:a0<c.length) (hS:Zep c) (hJ:∀ x∈c,x.1=14->0<=x.2) :
 Calls Try.prog 53 #[.slice p c.length cap,.int .i64 a0] w fun e w'=>e = .returned (.int .i64 (Zfm c a0))/\w.grownBy w' none:=by
 have hmm := @run_makeMap Try.prog
 have CQ:=Hq hC
 have HS:=Hq hS
 have HJ:=Hq hJ
 have G0:=Hq (Ga w (.map #[] 0) none)
 have M0:=Hq (Ztu w)
 have hli:(c.length:Int)<=4096:=by omega
 clear hC hS hJ
 go_enter Try.func53,Try.ntmps53
 go_wp2
 clear hmm
 generalize hbk:w.heap.size=bk at *
 have HBK:=Hq hbk
 clear hbk
 generalize w.alloc (.map #[] 0)=w2 at *
 go_loopg [1] (c.length+1) (fun g s wr=>∃ (a:Nat) (sl:List Nat),g=c.length+1 - sl.length/\s = .int .i64 a/\a<c.length/\w.grownBy wr none/\Yah wr bk sl.length (Zsz sl)/\sl.Nodup/\(∀ x∈sl,x<c.length)/\Zfm c a0=Zhp c (c.length+1 - sl.length) sl a)
 case atStart=>exact ⟨a0,[],rfl,rfl,ha,G0.out,Zej M0.out (fun x=>by simp [Zsz]),List.nodup_nil,fun x h=>by simp at h,rfl⟩
 case round =>
  obtain ⟨a,sl,hgk,rfl,hal,hg,hM,hnd,hlt,he⟩:=hrel
  have hsl:=Zdq c.length sl hnd hlt
  have hlook:=Zqu (x:=a) hM (by omega)
  obtain ⟨w5,hput,hM5,hg5⟩:=Zyz (x:=a) (v:=if a∈sl then 2 else 1) hM (by omega) (by omega) (by split <;> omega)
  have hlook5:=Zqu (x:=a) hM5 (by omega)
  simp only [if_true] at hlook5
  obtain ⟨f,hf⟩:∃ f,c.length+1 - sl.length=f+1:=⟨c.length - sl.length,by omega⟩
  rw [hf,Zhp] at he
  obtain ⟨⟨op,b⟩,hx⟩:∃ x,c[a]? = some x:=⟨_,List.getElem?_eq_getElem hal⟩
  have hia:Zu c a=(op,b):=by unfold Zu;rw [List.getD_eq_getElem?_getD,hx];rfl
  have g5:=Yu hg hg5 (fun k hk=>by injection hk with hk;rw [<- hk];exact Nat.le_of_eq HBK.out)
  obtain ⟨b1,o1,rfl,hb1,c0,c1⟩:=CQ.out a _ hx
  have d0:=g5.cell c0 (by simp)
  have d1:=g5.cell c1 (by simp)
  have lb:=Nat.lt_of_lt_of_le hb1 g5.size
  have hai:(a:Int)<(c.length:Int):=by omega
  simp only [] at d0 d1
  have HM5:=Hq hM5
  have G5:=Hq g5
  have HND:=Hq hnd
  have HLT:=Hq hlt
  have HX:=Hq hx
  have HF:=Hq hf
  have HGK:=Hq hgk
  have HSL:=Hq hsl
  by_cases hin:a∈sl
  · rw [if_pos hin] at he
    have HE:=Hq he
    have h1:Zsz sl a=1:=by unfold Zsz;rw [if_pos hin]
    rw [h1] at hlook
    rw [if_pos hin] at hput hlook5
    clear hg hM hnd hlt hsl hM5 hg5 he hx hf hgk g5 c0 c1 h1 hia
    go_wp2
    go_ret
    exact ⟨Zes (by rw [HE.out]),G5.out⟩
  · rw [if_neg hin] at he
    have h1:Zsz sl a=0:=by unfold Zsz;rw [if_neg hin]
    have HN:=Hq hin
    rw [h1] at hlook
    rw [if_neg hin] at hput hlook5
    have M6:=Hq (Zej HM5.out (g:=Zsz (a::sl)) (fun x=>by
     unfold Zsz
     by_cases e:x=a
     · subst e;simp [hin]
     · simp [e]))
    unfold Zap at he
    rw [hia] at he
    simp only [] at he
    have hst:=HS.out a hal
    unfold Zap at hst
    rw [hia] at hst
    simp only [] at hst
    by_cases h0:op=0
    · subst h0
      rw [if_pos rfl] at he hst
      have hb:=hst _ rfl
      have HE:=Hq he
      clear hg hM hnd hlt hsl hM5 hg5 he hx hf hgk g5 c0 c1 h1 hia hst
      go_wp2
      go_roundg (f)
      case rel=>exact ⟨a+1,a::sl,by simp;have:=HF.out;omega,by go_num,hb,G5.out,M6.out,List.nodup_cons.2 ⟨HN.out,HND.out⟩,fun x hx=>(List.mem_cons.1 hx).elim (fun e=>e ▸ hal) (HLT.out x),by rw [HE.out];congr 1;simp;have:=HF.out;omega⟩
      case measure=>have:=HGK.out;have:=HF.out;omega
    · rw [if_neg h0] at he hst
      have z0:(op == 0)=false:=by simpa using h0
      by_cases h14:op=14
      · subst h14
        rw [if_pos rfl] at he hst
        have hb:=hst _ rfl
        have hb0:=HJ.out _ (List.mem_of_getElem? hx) rfl
        simp only [] at hb0
        obtain ⟨m,rfl⟩:=Int.eq_ofNat_of_zero_le hb0
        simp only [Int.toNat_natCast] at he hb
        have HE:=Hq he
        clear hg hM hnd hlt hsl hM5 hg5 he hx hf hgk g5 c0 c1 h1 hia hst hb0 h0
        go_wp2
        go_roundg (f)
        case rel=>exact ⟨m,a::sl,by simp;have:=HF.out;omega,rfl,hb,G5.out,M6.out,List.nodup_cons.2 ⟨HN.out,HND.out⟩,fun x hx=>(List.mem_cons.1 hx).elim (fun e=>e ▸ hal) (HLT.out x),by rw [HE.out];congr 1;simp;have:=HF.out;omega⟩
        case measure=>have:=HGK.out;have:=HF.out;omega
      · rw [if_neg h14] at he
        have z14:(op == 14)=false:=by simpa using h14
        have HE:=Hq he
        clear hg hM hnd hlt hsl hM5 hg5 he hx hf hgk g5 c0 c1 h1 hia hst h0 h14
        go_wp2
        go_ret
        exact ⟨Zes (by rw [HE.out]),G5.out⟩
structure Zhh (c:List Ins):Prop where
 l:c.length<=4096
 n:1<=c.length
 st:Zep c
 j:∀ x∈c,jmp x.1=true->0<=x.2/\x.2<c.length
theorem Zuw {c:List Ins} (h:Zhh c):∀ x∈c,x.1=14->0<=x.2:=fun x hx e=>(h.j x hx (by rw [e];rfl)).1
def Zhl:Option (Nat × Nat)->Value
 | some (f,n) => .tuple #[.agg #[.int .i64 f,.int .i64 n],.bool true]
 | none => .tuple #[.agg #[.int .i64 0,.int .i64 0],.bool false]
def Yaf (w:World) (o:Option (Nat × Nat)) (e:Ending) (w':World):Prop:=e = .returned (Zhl o)/\w.grownBy w' none
theorem Yap {c r:List Ins} {x:Ins} {n:Nat} (h:jmp x.1=true/\((Zfm c x.2.toNat:Nat):Int)≠x.2):Zbo c (x::r) n=some n:=by rw [Zbo,if_pos h]
theorem Zsj {c r:List Ins} {x:Ins} {n:Nat} (h:¬ (jmp x.1=true/\((Zfm c x.2.toNat:Nat):Int)≠x.2)):Zbo c (x::r) n=Zbo c r (n+1):=by rw [Zbo,if_neg h]
def ut7:Nat->Nat
 | 0=>24
 | 1=>25
 | 2=>26
 | 3=>27
 | 4=>28
 | 5=>29
 | 6=>30
 | 7=>31
 | 8=>32
 | 9=>33
 | 10=>34
 | 11=>35
 | 12=>36
 | _=>5000
theorem Zdn:∀ i,i<13->∀ j,j<13->j≠i->ut7 j≠ut7 i:=by decide
theorem Ytw (i:Nat) (h:i<13):i=0\/i=1\/i=2\/i=3\/i=4\/i=5\/i=6\/i=7\/i=8\/i=9\/i=10\/i=11\/i=12:=by omega
theorem Zpn (j:Nat) (hj:j∈[5,7]):∀ i,i<13->ut7 i≠j:=by revert j;decide
def Yan (bx bf b1 o1 nc cc:Nat) (op mi ei:Int) (bd:Bool):Nat->Value
 | 0 => .pointer (some ⟨bx,0,none⟩)
 | 1 => .int .i64 op
 | 2 => .bool true
 | 3 => .bool true
 | 4 => .pointer (some ⟨bf,3,none⟩)
 | 5 => .slice (some ⟨b1,o1,none⟩) nc cc
 | 6 => .pointer (some ⟨bx,1,none⟩)
 | 7 => .int .i64 mi
 | 8 => .int .i64 ei
 | 9 => .pointer (some ⟨bx,1,none⟩)
 | 10 => .int .i64 mi
 | 11 => .bool bd
 | 12 => .bool bd
 | _=>undef
theorem Zno (mem:Int) (fs:List FnP) (pd pF:Option Addr) (nd cd cF B:Nat) (w:World) (hB:B<=w.heap.size) (hF:Yk w B pF fs) (hn:fs.length<=64) (hok:∀ f∈fs,Zhh f.2.2.2) :
 Calls Try.prog 33 #[.agg #[.int .i64 mem,.slice pd nd cd,.slice pF fs.length cF]] w (Yaf w (Zcy fs 0)):=by
 have FF:=Hq hF
 have OK:=Hq hok
 have hni:(fs.length:Int)<=64:=by omega
 have G0:=Hq (Za (Ga w (.cells #[.int .i64 mem,.slice pd nd cd,.slice pF fs.length cF] 25) none) (Ga _ (.cells #[.int .i64 0,.int .i64 0] 37) none))
 have T1:=Hq (Yi w (.cells #[.int .i64 mem,.slice pd nd cd,.slice pF fs.length cF] 25) (.cells #[.int .i64 0,.int .i64 0] 37))
 clear hF hok
 go_enter Try.func33,Try.ntmps33
 go_wp2
 generalize (w.alloc (.cells #[.int .i64 mem,.slice pd nd cd,.slice pF fs.length cF] 25)).alloc (.cells #[.int .i64 0,.int .i64 0] 37)=w2 at *
 go_loopw [11] (fun i wr=>∃ k:Nat,i = .int .i64 k/\k<=fs.length/\Zcy fs 0=Zcy (fs.drop k) k/\w2.grownBy wr none) (fun i _=>fs.length - (intOf i).toNat)
 case atStart=>exact ⟨0,rfl,Nat.zero_le _,rfl,Zc _ _⟩
 case round =>
  obtain ⟨k,rfl,hk,he,hg⟩:=hrel
  have HE:=Hq he
  have HG:=Hq hg
  have x2:=Zb T1.out hg (by simp)
  have X2:=Hq x2
  have lx:=(Gs x2)
  by_cases hlt:(k:Int)<(fs.length:Int)
  · obtain ⟨⟨a,lo,r,c⟩,hf⟩:∃ f,fs[k]? = some f:=⟨_,List.getElem?_eq_getElem (by omega)⟩
    have gw:=Za G0.out hg
    obtain ⟨b,o,rfl,hb,hc⟩:=FF.out (by omega)
    obtain ⟨f0,f1,f2,pc,cc,f3,hcode⟩:=hc k a lo r c hf
    have c0:=gw.cell f0 (by simp)
    have c1:=gw.cell f1 (by simp)
    have c2:=gw.cell f2 (by simp)
    have c3:=gw.cell f3 (by simp)
    have lb:b<wr.heap.size:=by have:=gw.size;omega
    have hcok:=OK.out _ (List.mem_of_getElem? hf)
    simp only [] at hcok
    have hst:Zcy (fs.drop k) k=match Zbo c c 0 with
     | some n=>some (k,n)
     | none=>Zcy (fs.drop (k+1)) (k+1):=by
     obtain ⟨hkl,e⟩:=List.getElem?_eq_some_iff.1 hf
     rw [List.drop_eq_getElem_cons hkl,e]
     rfl
    have CO:=Hq hcok
    have HST:=Hq hst
    have IQ:=Hq (Zem (Zmw hcode hB) gw)
    have hcl:(c.length:Int)<=4096:=by have:=hcok.l;omega
    have GB:=Hq (Ga wr (.cells #[.int .i64 a,.int .i64 lo,.int .i64 r,.slice pc c.length cc] 52) none)
    have XB:=Hq (heap_alloc_new wr (.cells #[.int .i64 a,.int .i64 lo,.int .i64 r,.slice pc c.length cc] 52))
    clear hc hf he hg hcode hcok hst gw f0 f1 f2 f3 x2
    obtain ⟨wo,hwo⟩:∃ wo,wo=wr:=⟨_,rfl⟩
    subst hwo
    go_wp2
    clear c0 c1 c2 c3 lb
    generalize hwf:wo.heap.size=bf at *
    have HBF:=Hq hwf
    clear hwf
    generalize wo.alloc (.cells #[.int .i64 a,.int .i64 lo,.int .i64 r,.slice pc c.length cc] 52)=w3 at *
    go_loopw [19] (fun i wr=>∃ j:Nat,i = .int .i64 j/\j<=c.length/\Zbo c c 0=Zbo c (c.drop j) j/\w3.grownBy wr none) (fun i _=>c.length - (intOf i).toNat)
    case atStart=>exact ⟨0,rfl,Nat.zero_le _,rfl,Zc _ _⟩
    case round =>
     obtain ⟨j,rfl,hj,hej,hgj⟩:=hrel
     have HEJ:=Hq hej
     have HGJ:=Hq hgj
     have xb:=Zb XB.out hgj (by simp)
     have b3:=Cq _ _ 3 _ _ _ xb
     have lbf:=(Gs xb)
     by_cases hlj:(j:Int)<(c.length:Int)
     · obtain ⟨⟨op,v⟩,hx⟩:∃ x,c[j]? = some x:=⟨_,List.getElem?_eq_getElem (by omega)⟩
       obtain ⟨b1,o1,rfl,hb1,d0,d1⟩:=Zem IQ.out (Za GB.out hgj) j _ hx
       simp only [] at d0 d1
       have hdr:c.drop j=(op,v)::c.drop (j+1):=by
        obtain ⟨hjl,e⟩:=List.getElem?_eq_some_iff.1 hx
        rw [List.drop_eq_getElem_cons hjl,e]
       rw [hdr] at hej
       have GX:=Hq (Ga wr (.cells #[.int .i64 op,.int .i64 v] 49) none)
       have XX:=Hq (heap_alloc_new wr (.cells #[.int .i64 op,.int .i64 v] 49))
       cases hjm:jmp op with
       | false =>
         have JF:=Hq (show ∀ w,Calls Try.prog 52 #[.int .i64 op] w fun e w'=>e = .returned (.bool false)/\w'=w from fun w=>(Ys op w).mono fun e w' h=>⟨by rw [h.1,hjm],h.2.symm⟩)
         rw [Zsj (by simp [hjm])] at hej
         have HEN:=Hq hej
         clear hej hgj hx hdr hjm xb
         go_wp2
         go_quiet ((go_at_call 52;exact Calls.quiet_of_same (JF.out _)))
         go_wp2
         go_roundw
         case rel=>exact ⟨j+1,by go_num,by omega,HEN.out,Za HGJ.out (Zh GX.out _)⟩
         case measure=>simp [intOf];omega
       | true =>
         obtain ⟨hv0,hv1⟩:=CO.out.j _ (List.mem_of_getElem? hx) hjm
         simp only [] at hv0 hv1
         obtain ⟨m,rfl⟩:=Int.eq_ofNat_of_zero_le hv0
         have JT:=Hq (show ∀ w,Calls Try.prog 52 #[.int .i64 op] w fun e w'=>e = .returned (.bool true)/\w'=w from fun w=>(Ys op w).mono fun e w' h=>⟨by rw [h.1,hjm],h.2.symm⟩)
         have EN:=Hq (fun W (g:wr.grownBy W none)=>Zzv c (some ⟨b1,o1,none⟩) cc m W (Zem IQ.out (Za GB.out (Za HGJ.out g))) CO.out.l (by omega) CO.out.st (Zuw CO.out))
         have q3:=Hq (GX.out.cell b3 (by simp))
         have HJ2:=Hq hjm
         have LB:=Hq lbf
         clear hgj hx hdr hjm xb
         go_wp2
         generalize hwx:wr.heap.size=bx at *
         have HBX:=Hq hwx
         clear hwx
         generalize wr.alloc (.cells #[.int .i64 op,.int .i64 (m:Int)] 49)=w4 at *
         have x0:=Cq _ _ 0 _ _ _ XX.out
         have x1:=Cq _ _ 1 _ _ _ XX.out
         have lx4:=(Gs XX.out)
         have lf4:bf<w4.heap.size:=by have h1:=LB.out;have h2:=GX.out.size;have h3:=HBX.out;omega
         have y3:=q3.out
         generalize hei:((Zfm c m:Nat):Int)=ei at *
         generalize hmi:(m:Int)=mi at *
         have HEI:=Hq hei
         have HMI:=Hq hmi
         clear hei hmi
         obtain ⟨bd,hbd⟩:∃ bd,(ei != mi)=bd:=⟨_,rfl⟩
         have hbd2:(!(ei == mi))=bd:=hbd
         go_upto_region 7 with fail
         rename_i K hK
         refine Xe (n:=13) (J:=fun a0 l a1 w1=>RJ a0 43 13 ut7 (Yan bx bf b1 o1 c.length cc op mi ei bd) l a1/\WC 8 13 (w4.drew) l w1) (by kernel_rfl) rfl (Jh (by kernel_rfl)) (fun l a1 w1 h=>h.2.sz) ⟨Xd rfl,Zyc _ _ _⟩ ?step ?fin
         case step =>
          intro l a1 w' i hJJ hi hin
          obtain ⟨hJ,hW⟩:=hJJ
          have hun:l.getD i false=false:=getD_both (mem_ready.1 hi).1
          have gW:=hW.g
          have l0:=Nat.lt_of_lt_of_le (show bx<w4.drew.heap.size from lx4) gW.size
          have l1:=Nat.lt_of_lt_of_le (show bf<w4.drew.heap.size from lf4) gW.size
          rcases Ytw i hin with rfl|rfl|rfl|rfl|rfl|rfl|rfl|rfl|rfl|rfl|rfl|rfl|rfl
          · have e7:a1.tmps.getD 7 undef = .pointer (some ⟨bx,0,none⟩):=hJ.un 7 (fun i hi _=>Zpn 7 (by decide) i hi)
            exact Zp hW hJ rfl (by rfl) rfl (by decide) (by decide) (Zdn _ (by decide)) (w':=w') (by simp [execOp,resolve,invoke,builtin,Act.eval,e7,l0,l1,hbd,hbd2,go_sem,Yan]) (Xi hW (by decide))
          · have e24:a1.tmps.getD 24 undef = .pointer (some ⟨bx,0,none⟩):=(Zm hJ hi 0 (by kernel_rfl))
            have h0:=gW.cell (w:=w4.drew) x0 (by simp)
            exact Zp hW hJ rfl (by rfl) rfl (by decide) (by decide) (Zdn _ (by decide)) (w':=w') (by simp [execOp,resolve,invoke,builtin,Act.eval,e24,h0,l0,l1,hbd,hbd2,go_sem,Yan]) (Xi hW (by decide))
          · have e25:a1.tmps.getD 25 undef = .int .i64 op:=(Zm hJ hi 1 (by kernel_rfl))
            exact Zwh (WS:=fun l9 w9=>WC 8 13 (w4.drew) l9 w9) hJ rfl (by rfl) rfl (by decide) (by decide) (Zdn _ (by decide)) (by simp [execOp,resolve,invoke,Act.eval,e25,go_sem]) (Calls.mono (JT.out w') (fun e w2 he=>⟨he.1,by rw [he.2];exact Xi hW (by decide)⟩))
          · have e26:a1.tmps.getD 26 undef = .bool true:=(Zm hJ hi 2 (by kernel_rfl))
            exact Zp hW hJ rfl (by rfl) rfl (by decide) (by decide) (Zdn _ (by decide)) (w':=w') (by simp [execOp,resolve,invoke,builtin,Act.eval,e26,l0,l1,hbd,hbd2,go_sem,Yan]) (Xi hW (by decide))
          · have e5:a1.tmps.getD 5 undef = .pointer (some ⟨bf,0,none⟩):=hJ.un 5 (fun i hi _=>Zpn 5 (by decide) i hi)
            have eg:a1.tmps.getD 27 undef = .bool true:=(Zm hJ hi 3 (by kernel_rfl))
            exact Zp hW hJ rfl (Yj (k:=3) (d:=27) (b:=true) rfl rfl (by rw [hJ.ts];decide) eg) rfl (by decide) (by decide) (Zdn _ (by decide)) (w':=w') (by simp [execOp,resolve,invoke,builtin,Act.eval,e5,l0,l1,hbd,hbd2,go_sem,Yan]) (Xi hW (by decide))
          · have e28:a1.tmps.getD 28 undef = .pointer (some ⟨bf,3,none⟩):=(Zm hJ hi 4 (by kernel_rfl))
            have eg:a1.tmps.getD 27 undef = .bool true:=(Zm hJ hi 3 (by kernel_rfl))
            have h0:=gW.cell (w:=w4.drew) y3 (by simp)
            exact Zp hW hJ rfl (Yj (k:=3) (d:=27) (b:=true) rfl rfl (by rw [hJ.ts];decide) eg) rfl (by decide) (by decide) (Zdn _ (by decide)) (w':=w') (by simp [execOp,resolve,invoke,builtin,Act.eval,e28,h0,l0,l1,hbd,hbd2,go_sem,Yan]) (Xi hW (by decide))
          · have e7:a1.tmps.getD 7 undef = .pointer (some ⟨bx,0,none⟩):=hJ.un 7 (fun i hi _=>Zpn 7 (by decide) i hi)
            have eg:a1.tmps.getD 27 undef = .bool true:=(Zm hJ hi 3 (by kernel_rfl))
            exact Zp hW hJ rfl (Yj (k:=3) (d:=27) (b:=true) rfl rfl (by rw [hJ.ts];decide) eg) rfl (by decide) (by decide) (Zdn _ (by decide)) (w':=w') (by simp [execOp,resolve,invoke,builtin,Act.eval,e7,l0,l1,hbd,hbd2,go_sem,Yan]) (Xi hW (by decide))
          · have e30:a1.tmps.getD 30 undef = .pointer (some ⟨bx,1,none⟩):=(Zm hJ hi 6 (by kernel_rfl))
            have eg:a1.tmps.getD 27 undef = .bool true:=(Zm hJ hi 3 (by kernel_rfl))
            have h0:=gW.cell (w:=w4.drew) x1 (by simp)
            exact Zp hW hJ rfl (Yj (k:=3) (d:=27) (b:=true) rfl rfl (by rw [hJ.ts];decide) eg) rfl (by decide) (by decide) (Zdn _ (by decide)) (w':=w') (by simp [execOp,resolve,invoke,builtin,Act.eval,e30,h0,l0,l1,hbd,hbd2,go_sem,Yan]) (Xi hW (by decide))
          · have e29:a1.tmps.getD 29 undef = .slice (some ⟨b1,o1,none⟩) c.length cc:=(Zm hJ hi 5 (by kernel_rfl))
            have e31:a1.tmps.getD 31 undef = .int .i64 mi:=(Zm hJ hi 7 (by kernel_rfl))
            have hw0:=hW.h0 hun
            subst hw0
            have eg:a1.tmps.getD 27 undef = .bool true:=(Zm hJ hi 3 (by kernel_rfl))
            exact Zwh (WS:=fun l9 w9=>WC 8 13 (w4.drew) l9 w9) hJ rfl (Yj (k:=3) (d:=27) (b:=true) rfl rfl (by rw [hJ.ts];decide) eg) rfl (by decide) (by decide) (Zdn _ (by decide)) (by simp [execOp,resolve,invoke,Act.eval,e29,e31,go_sem]) (Calls.mono (EN.out w4.drew (Zd GX.out)) (fun e w2 he=>⟨he.1,Yda hW.sz (by decide) he.2⟩))
          · have e7:a1.tmps.getD 7 undef = .pointer (some ⟨bx,0,none⟩):=hJ.un 7 (fun i hi _=>Zpn 7 (by decide) i hi)
            have eg:a1.tmps.getD 27 undef = .bool true:=(Zm hJ hi 3 (by kernel_rfl))
            exact Zp hW hJ rfl (Yj (k:=3) (d:=27) (b:=true) rfl rfl (by rw [hJ.ts];decide) eg) rfl (by decide) (by decide) (Zdn _ (by decide)) (w':=w') (by simp [execOp,resolve,invoke,builtin,Act.eval,e7,l0,l1,hbd,hbd2,go_sem,Yan]) (Xi hW (by decide))
          · have e33:a1.tmps.getD 33 undef = .pointer (some ⟨bx,1,none⟩):=(Zm hJ hi 9 (by kernel_rfl))
            have eg:a1.tmps.getD 27 undef = .bool true:=(Zm hJ hi 3 (by kernel_rfl))
            have h0:=gW.cell (w:=w4.drew) x1 (by simp)
            exact Zp hW hJ rfl (Yj (k:=3) (d:=27) (b:=true) rfl rfl (by rw [hJ.ts];decide) eg) rfl (by decide) (by decide) (Zdn _ (by decide)) (w':=w') (by simp [execOp,resolve,invoke,builtin,Act.eval,e33,h0,l0,l1,hbd,hbd2,go_sem,Yan]) (Xi hW (by decide))
          · have e32:a1.tmps.getD 32 undef = .int .i64 ei:=(Zm hJ hi 8 (by kernel_rfl))
            have e34:a1.tmps.getD 34 undef = .int .i64 mi:=(Zm hJ hi 10 (by kernel_rfl))
            have eg:a1.tmps.getD 27 undef = .bool true:=(Zm hJ hi 3 (by kernel_rfl))
            exact Zp hW hJ rfl (Yj (k:=3) (d:=27) (b:=true) rfl rfl (by rw [hJ.ts];decide) eg) rfl (by decide) (by decide) (Zdn _ (by decide)) (w':=w') (by simp [execOp,resolve,invoke,builtin,Act.eval,e32,e34,l0,l1,hbd,hbd2,go_sem,Yan]) (Xi hW (by decide))
          · have e27:a1.tmps.getD 27 undef = .bool true:=(Zm hJ hi 3 (by kernel_rfl))
            have e35:a1.tmps.getD 35 undef = .bool bd:=(Zm hJ hi 11 (by kernel_rfl))
            exact Zp hW hJ rfl (by rfl) rfl (by decide) (by decide) (Zdn _ (by decide)) (w':=w') (by simp [execOp,resolve,invoke,builtin,Act.eval,e27,e35,l0,l1,hbd,hbd2,go_sem,Yan]) (Xi hW (by decide))
         intro l a1 w9 hJJ hl
         obtain ⟨hJ,hW⟩:=hJJ
         have hput:=Jf hJ rfl hl (fun i j h1 h2 h3=>Zdn j h2 i h1 h3)
         subst hput
         have G9:=Hq (Za HGJ.out (Za GX.out (Za (Zd (Zc w4 none)) hW.g)))
         clear hJ hW hl
         refine hK _ _ ?_
         simp only [Zai,ut7,Yan,Act.put,List.setIfInBounds_toArray,List.set_cons_zero,List.set_cons_succ]
         clear hK K x0 x1 lx4 lf4 y3
         have X9:=Hq (Zb (Zb X2.out GB.out (by simp)) G9.out (by simp))
         cases bd with
         | true =>
           have hne:ei≠mi:=by simpa using hbd
           have v0:=Cq _ _ 0 _ _ _ X9.out
           have v1:=Cq _ _ 1 _ _ _ X9.out
           have z0:=frozen_of_row _ _ 0 _ _ X9.out
           have z1:=frozen_of_row _ _ 1 _ _ X9.out
           have lx9:=(Gs X9.out)
           have HU:=Hq (show Zcy fs 0=some (k,j) by
            rw [HE.out,HST.out,hej,Yap ⟨HJ2.out,by simp only [];rw [show mi.toNat=m by rw [<- HMI.out];simp,HEI.out];exact hne⟩])
           clear hbd hbd2 hne hej
           go_wp2
           refine bodyPost_ret (v:=Zhl (some (k,j))) ?_ rfl ⟨by rw [HU.out],Ze (Ze (Za G0.out (Za HG.out (Za GB.out G9.out))) (by omega)) (by omega)⟩
           rw [results_cell_tmp rfl]
           unfold Zhl
           go_simp
         | false =>
           have heq:ei=mi:=by simpa using hbd
           rw [Zsj (by simp only [];rw [show mi.toNat=m by rw [<- HMI.out];simp,HEI.out];exact fun h=>h.2 heq)] at hej
           have HEN:=Hq hej
           clear hbd hbd2 heq hej
           go_wp2
           go_roundw
           case rel=>exact ⟨j+1,by go_num,by omega,HEN.out,G9.out⟩
           case measure=>simp [intOf];omega
     · have hjn:j=c.length:=by omega
       have hun:Zbo c c 0=none:=by rw [hej,hjn,List.drop_length];rfl
       have HU:=Hq (show Zcy fs 0=Zcy (fs.drop (k+1)) (k+1) by rw [HE.out,HST.out,hun])
       clear hej hgj xb b3 lbf hun
       go_wp2
       go_roundw
       case rel=>exact ⟨k+1,by go_num,by omega,HU.out,Za HG.out (Za GB.out HGJ.out)⟩
       case measure=>simp [intOf];omega
  · have hkn:k=fs.length:=by omega
    have HU:=Hq (show Zcy fs 0=none by rw [he,hkn,List.drop_length];rfl)
    have v0:=Cq _ _ 0 _ _ _ X2.out
    have v1:=Cq _ _ 1 _ _ _ X2.out
    have z0:=frozen_of_row _ _ 0 _ _ X2.out
    have z1:=frozen_of_row _ _ 1 _ _ X2.out
    clear he hg x2
    go_wp2
    refine bodyPost_ret (v:=Zhl none) ?_ rfl ⟨by rw [HU.out],Ze (Ze (Za G0.out HG.out) (by omega)) (by omega)⟩
    rw [results_cell_tmp rfl]
    unfold Zhl
    go_simp
theorem Zti {w:World} {base:Nat} {D F:Value} {g cap:Nat} {dl:List Int} {fs:List FnP} {cv:List Value} {k i:Nat} {f:FnP} {c':List Ins} {u:Value} (h:Zco w base D F dl fs cv) (hf:fs[k]? = some f) (hv:cv[k]? = some (.slice (some ⟨g,0,none⟩) f.2.2.2.length cap))
 (hl:c'.length=f.2.2.2.length) (hs:(Zw f.2.2.2).set i u=Zw c'):Zco (w.setCell ⟨g,i,none⟩ u) base D F dl (fs.set k (Zy f c')) cv:=by
 have hkl:=(List.getElem?_eq_some_iff.1 hf).1
 have gs:=Zg w g i u
 have hk:=h.each k f _ hf hv
 have hrow:=(hk.stored i u).1
 rw [hs] at hrow
 have ne:∀ (v2:Value) (n:Nat) (xs:List Value) (E:TypeId) (sz:Nat),w.ownsRow base E sz v2 n xs->E≠49->v2.ownBlock=none\/v2.ownBlock≠some g:=fun v2 n xs E sz ho hE=>Xr ho hk hE
 have hfl:Xa fs cv=Xa (fs.set k (Zy f c')) cv:=by
  refine Zjq _ _ _ (by simp) fun j a b ha hb => ?_
  by_cases e:j=k
  · subst e
    rw [hf] at ha
    rw [List.getElem?_set_self hkl] at hb
    injection ha with ha;injection hb with hb
    subst ha;subst hb
    exact ⟨rfl,rfl,rfl⟩
  · rw [List.getElem?_set_ne (Ne.symm e)] at hb
    rw [ha] at hb
    injection hb with hb
    subst hb
    exact ⟨rfl,rfl,rfl⟩
 refine ⟨h.dt.kept gs (ne _ _ _ _ _ h.dt (by decide)),?_,by rw [List.length_set];exact h.cl,fun j a b ha hb => ?_,h.dis⟩
 · rw [List.length_set,<- hfl]
   exact h.fr.kept gs (ne _ _ _ _ _ h.fr (by decide))
 · by_cases e:j=k
   · subst e
     rw [List.getElem?_set_self hkl] at ha
     rw [hv] at hb
     injection ha with ha;injection hb with hb
     subst ha;subst hb
     show World.ownsRow _ _ _ _ _ c'.length (Zw c')
     rw [hl]
     exact hrow
   · rw [List.getElem?_set_ne (Ne.symm e)] at ha
     refine (h.each j a b ha hb).kept gs ?_
     cases hb2:b.ownBlock with
     | none=>exact Or.inl rfl
     | some q =>
       right
       intro e2
       injection e2 with e2
       subst e2
       exact h.dis j k b _ q e hb hv hb2 rfl
def Znp (fs:List FnP) (k:Nat):List FnP:=(fs.take k).map (fun f=>Zy f (Xb f.2.2.2))++fs.drop k
theorem Zer (fs:List FnP) (k:Nat):(Znp fs k).length=fs.length:=by simp [Znp];omega
theorem Zyd {fs:List FnP} {k:Nat} {f:FnP} (h:fs[k]? = some f):(Znp fs k)[k]? = some f:=by
 have hk:=(List.getElem?_eq_some_iff.1 h).1
 unfold Znp
 rw [List.getElem?_append_right (by simp;omega)]
 simp [Nat.min_eq_left (by omega:k<=fs.length),h]
theorem Ydm {fs:List FnP} {k:Nat} {f:FnP} (h:fs[k]? = some f):Znp fs (k+1)=(Znp fs k).set k (Zy f (Xb f.2.2.2)):=by
 have hk:=(List.getElem?_eq_some_iff.1 h).1
 have hx:f=fs[k]:=by rw [List.getElem?_eq_getElem hk] at h;injection h with h;exact h.symm
 unfold Znp
 rw [List.take_succ_eq_append_getElem hk,List.map_append,List.set_append_right _ _ (by simp;omega)]
 have e:k - (List.map (fun f=>Zy f (Xb f.2.2.2)) (List.take k fs)).length=0:=by simp;omega
 rw [e,List.drop_eq_getElem_cons hk,List.set_cons_zero,<- hx]
 simp
theorem Ydl (fs:List FnP):Znp fs 0=fs:=by simp [Znp]
theorem Yjy (fs:List FnP):Znp fs fs.length=Zau fs:=by simp [Znp,Zau]
def Zkk (c:List Ins) (a:Int):Int:=(Zfm c a.toNat:Nat)
theorem Yjz (c:List Ins):reK (Zkk c) c c.length=Xb c:=Yej _ _
def Zfc (w:World) (mem:Int) (dl:List Int) (fs:List FnP) (e:Ending) (w':World):Prop :=
 ∃ D F cv,e = .returned (.agg #[.int .i64 mem,D,F])/\w.grownBy w' none/\Zco w' w.heap.size D F dl fs cv
theorem Ypv {w:World} {base:Nat} {D F:Value} {g cap:Nat} {dl:List Int} {fs:List FnP} {cv:List Value} {k j:Nat} {a lo r ei x op:Int} {c:List Ins} (h:Zco w base D F dl ((Znp fs k).set k (Zy (a,lo,r,c) (reK (Zkk c) c j))) cv) (hf:fs[k]? = some (a,lo,r,c)) (hv:cv[k]? = some (.slice (some ⟨g,0,none⟩) c.length cap))
 (hn:reK (Zkk c) c (j+1)=(reK (Zkk c) c j).set j (op,ei)) (hs:∀ u:Int,(Zw (reK (Zkk c) c j)).set (j*2+1) (.int .i64 u)=Zw ((reK (Zkk c) c j).set j ((op,x).1,u))) :
 Zco (w.setCell ⟨g,j*2+1,none⟩ (.int .i64 ei)) base D F dl ((Znp fs k).set k (Zy (a,lo,r,c) (reK (Zkk c) c (j+1)))) cv:=by
 have hkl:=(List.getElem?_eq_some_iff.1 hf).1
 have hfk:((Znp fs k).set k (Zy (a,lo,r,c) (reK (Zkk c) c j)))[k]? = some (Zy (a,lo,r,c) (reK (Zkk c) c j)):=List.getElem?_set_self (by rw [Zer];exact hkl)
 have h1:=Zti (i:=j*2+1) (u := .int .i64 ei) (c':=reK (Zkk c) c (j+1)) h hfk (by show cv[k]? = some (.slice _ (reK (Zkk c) c j).length cap);rw [Zqh];exact hv) (by show (reK (Zkk c) c (j+1)).length=(reK (Zkk c) c j).length;rw [Zqh,Zqh]) (by show (Zw (reK (Zkk c) c j)).set _ _=_;rw [hs,hn])
 rw [List.set_set] at h1
 exact h1
def th9:Nat->Nat
 | 0=>29
 | 1=>30
 | 2=>31
 | 3=>32
 | 4=>33
 | 5=>34
 | 6=>35
 | 7=>36
 | 8=>37
 | 9=>38
 | 10=>39
 | 11=>40
 | 12=>41
 | 13=>42
 | 14=>1014
 | _=>5000
theorem Zcz:∀ i,i<15->∀ j,j<15->j≠i->th9 j≠th9 i:=by decide
theorem Ydn (i:Nat) (h:i<15):i=0\/i=1\/i=2\/i=3\/i=4\/i=5\/i=6\/i=7\/i=8\/i=9\/i=10\/i=11\/i=12\/i=13\/i=14:=by omega
theorem Zlq (j:Nat) (hj:j∈[3,4,5,6,7]):∀ i,i<15->th9 i≠j:=by revert j;decide
def Zkv (b3 k j bf bx gF nF cF3 gk nc kk b1 o1 cc:Nat) (mi:Int) (ei9:Int):Nat->Value
 | 0 => .pointer (some ⟨b3,2,none⟩)
 | 1 => .slice (some ⟨gF,0,none⟩) nF cF3
 | 2 => .int .i64 k
 | 3 => .pointer (some ⟨gF,k*4,none⟩)
 | 4 => .pointer (some ⟨gF,k*4+3,none⟩)
 | 5 => .slice (some ⟨gk,0,none⟩) nc kk
 | 6 => .int .i64 j
 | 7 => .pointer (some ⟨bf,3,none⟩)
 | 8 => .slice (some ⟨b1,o1,none⟩) nc cc
 | 9 => .pointer (some ⟨bx,1,none⟩)
 | 10 => .int .i64 mi
 | 11 => .int .i64 ei9
 | 12 => .pointer (some ⟨gk,j*2,none⟩)
 | 13 => .pointer (some ⟨gk,j*2+1,none⟩)
 | 14=>undef
 | _=>undef
theorem Yuo {b3 k j bf bx gF nF cF3 gk nc kk b1 o1 cc:Nat} {mi:Int} {ei9:Int} {ei92:Int} (l:Array Bool) (hun:l.getD 11 false=false):∀ i,i<15->l.getD i false=true->th9 i<46->Zkv b3 k j bf bx gF nF cF3 gk nc kk b1 o1 cc mi ei92 i=Zkv b3 k j bf bx gF nF cF3 gk nc kk b1 o1 cc mi ei9 i:=by
 intro i hi hl _
 rcases Ydn i hi with rfl|rfl|rfl|rfl|rfl|rfl|rfl|rfl|rfl|rfl|rfl|rfl|rfl|rfl|rfl <;> first|rfl|(rw [hun] at hl;cases hl)
theorem Zsn (mem:Int) (dl:List Int) (fs:List FnP) (pd pF:Option Addr) (cd cF B:Nat) (w:World) (hB:B<=w.heap.size) (hF:Yk w B pF fs) (hD:Rd w pd (dl.map (Value.int .u8))) (hd:dl.length<=4194304) (hn:fs.length<=64) (hok:∀ f∈fs,Zhh f.2.2.2) :
 Calls Try.prog 35 #[.agg #[.int .i64 mem,.slice pd dl.length cd,.slice pF fs.length cF]] w (Zfc w mem dl (Zau fs)):=by
 have FF:=Hq hF
 have OK:=Hq hok
 have hni:(fs.length:Int)<=64:=by omega
 have G0:=Hq (Za (Ga w (.cells #[.int .i64 mem,.slice pd dl.length cd,.slice pF fs.length cF] 25) none) (Ga _ (.cells #[.int .i64 0,.slice none 0 0,.slice none 0 0] 25) none))
 have T0:=Hq (Yt w (.cells #[.int .i64 mem,.slice pd dl.length cd,.slice pF fs.length cF] 25) (.cells #[.int .i64 0,.slice none 0 0,.slice none 0 0] 25))
 have T1:=Hq (Yi w (.cells #[.int .i64 mem,.slice pd dl.length cd,.slice pF fs.length cF] 25) (.cells #[.int .i64 0,.slice none 0 0,.slice none 0 0] 25))
 have TW:=Hq (fun W (g:w.grownBy W none)=>Zkt mem dl fs pd pF cd cF B W (Nat.le_trans hB g.size) (Zs hF g (by simp)) (Yy hD g) hd (by omega) (fun f hf=>by have:=(hok f hf).l;omega))
 clear hF hok hD
 go_enter Try.func35,Try.ntmps35
 go_wp2_with fail
 have sz2:w.heap.size+1<((w.alloc (.cells #[.int .i64 mem,.slice pd dl.length cd,.slice pF fs.length cF] 25)).alloc (.cells #[.int .i64 0,.slice none 0 0,.slice none 0 0] 25)).heap.size:=by simp
 generalize (w.alloc (.cells #[.int .i64 mem,.slice pd dl.length cd,.slice pF fs.length cF] 25)).alloc (.cells #[.int .i64 0,.slice none 0 0,.slice none 0 0] 25)=w2 at *
 refine (TW.out w2 G0.out).mono ?_
 rintro e w3 ⟨D,F,cv,rfl,g3,o3⟩
 obtain ⟨pD,pF3,cD,cF3,rfl,rfl⟩:=Jc o3
 have G3:=Hq (Za G0.out g3)
 have X0:=Hq (Zb T0.out g3 (by simp))
 have X1:=Hq (Zb T1.out g3 (by simp))
 have O3:=Hq (Zaj o3 (by omega:w.heap.size<=w2.heap.size))
 have a2:=Cq _ _ 2 _ _ _ X0.out
 have la:=(Gs X0.out)
 clear g3 o3 sz2
 go_wp2
 have G4:=Hq (Za G3.out (Ga w3 (.cells #[.int .i64 mem,.slice pD dl.length cD,.slice pF3 fs.length cF3] 25) none))
 have Y1:=Hq (Zb X1.out (Ga w3 (.cells #[.int .i64 mem,.slice pD dl.length cD,.slice pF3 fs.length cF3] 25) none) (by simp))
 have Y3:=Hq (heap_alloc_new w3 (.cells #[.int .i64 mem,.slice pD dl.length cD,.slice pF3 fs.length cF3] 25))
 have O4:=Hq (Xj O3.out (Ga w3 (.cells #[.int .i64 mem,.slice pD dl.length cD,.slice pF3 fs.length cF3] 25) none))
 have ls3:w.heap.size<=w3.heap.size:=G3.out.size
 clear a2 la
 generalize hb3:w3.heap.size=b3 at *
 have HB3:=Hq hb3
 clear hb3
 generalize w3.alloc (.cells #[.int .i64 mem,.slice pD dl.length cD,.slice pF3 fs.length cF3] 25)=w4 at *
 go_loopw [13] (fun i wr=>∃ k:Nat,i = .int .i64 k/\k<=fs.length/\w.grownBy wr none/\wr.heap[w.heap.size+1]? = some (.cells #[.int .i64 0,.slice none 0 0,.slice none 0 0] 25 (0,0))/\wr.heap[b3]? = some (.cells #[.int .i64 mem,.slice pD dl.length cD,.slice pF3 fs.length cF3] 25 (0,0))/\Zco wr w.heap.size (.slice pD dl.length cD) (.slice pF3 fs.length cF3) dl (Znp fs k) cv) (fun i _=>fs.length - (intOf i).toNat)
 case atStart=>exact ⟨0,rfl,Nat.zero_le _,G4.out,Y1.out,Y3.out,by rw [Ydl];exact O4.out⟩
 case round =>
  obtain ⟨k,rfl,hk,hg,hx1,hx3,ho⟩:=hrel
  have HG:=Hq hg
  have HX1:=Hq hx1
  have HX3:=Hq hx3
  have HO:=Hq ho
  by_cases hlt:(k:Int)<(fs.length:Int)
  · obtain ⟨⟨a,lo,r,c⟩,hf⟩:∃ f,fs[k]? = some f:=⟨_,List.getElem?_eq_getElem (by omega)⟩
    obtain ⟨b,o,rfl,hb,hc⟩:=FF.out (by omega)
    obtain ⟨f0,f1,f2,pc,cc,f3,hcode⟩:=hc k a lo r c hf
    have c0:=hg.cell f0 (by simp)
    have c1:=hg.cell f1 (by simp)
    have c2:=hg.cell f2 (by simp)
    have c3:=hg.cell f3 (by simp)
    have lb:b<wr.heap.size:=by have:=hg.size;omega
    have hcok:=OK.out _ (List.mem_of_getElem? hf)
    simp only [] at hcok
    have CO:=Hq hcok
    have HF:=Hq hf
    have IQ:=Hq (Zem (Zmw hcode hB) hg)
    have IW:=Hq (Zmw hcode hB)
    have hcl:(c.length:Int)<=4096:=by have:=hcok.l;omega
    have GB:=Hq (Ga wr (.cells #[.int .i64 a,.int .i64 lo,.int .i64 r,.slice pc c.length cc] 52) none)
    have XB:=Hq (heap_alloc_new wr (.cells #[.int .i64 a,.int .i64 lo,.int .i64 r,.slice pc c.length cc] 52))
    have hkf:=Zyd hf
    obtain ⟨v,hv⟩:∃ v,cv[k]? = some v:=⟨_,List.getElem?_eq_getElem (by rw [ho.cl,Zer];omega)⟩
    have hrow:=ho.each k _ v hkf hv
    obtain ⟨gk,kk,hvv,hgk,-⟩:=Yb hrow (show 0<c.length from hcok.n)
    subst hvv
    obtain ⟨gF,kF,hFv,hgF,-⟩:=Yb ho.fr (by rw [Zer];omega)
    rw [Zer] at hFv
    injection hFv with q1 q2 q3
    subst q1;subst q3
    have hbs:=(hrow.lt gk rfl).1
    have hbF:=(ho.fr.lt gF rfl).1
    have HV:=Hq hv
    have nk1:gk≠w.heap.size+1:=by intro e;have:=Yd hrow hx1 (by decide);exact this (by rw [e];rfl)
    have nk3:gk≠b3:=by intro e;have:=Yd hrow hx3 (by decide);exact this (by rw [e];rfl)
    clear hc hf hg hcode hcok f0 f1 f2 f3 hx1 hx3 ho hkf hv hrow q2
    obtain ⟨wo,hwo⟩:∃ wo,wo=wr:=⟨_,rfl⟩
    subst hwo
    go_wp2
    clear c0 c1 c2 c3 lb
    have ko:wo.heap.size≠gk:=by omega
    generalize hwf:wo.heap.size=bf at *
    have HBF:=Hq hwf
    clear hwf
    have G5:=Hq (Za HG.out GB.out)
    have V1:=Hq (Zb HX1.out GB.out (by simp))
    have V3:=Hq (Zb HX3.out GB.out (by simp))
    have O5:=Hq (Xj HO.out GB.out)
    generalize wo.alloc (.cells #[.int .i64 a,.int .i64 lo,.int .i64 r,.slice pc c.length cc] 52)=w5 at *
    have OZ:=Hq (show Zco w5 w.heap.size (.slice pD dl.length cD) (.slice (some ⟨gF,0,none⟩) fs.length cF3) dl ((Znp fs k).set k (Zy (a,lo,r,c) (reK (Zkk c) c 0))) cv by
     rw [Zym,show Zy (a,lo,r,c) c=(a,lo,r,c) from rfl]
     have h1:(Znp fs k).set k (a,lo,r,c)=Znp fs k:=by
      have h2:=Zyd HF.out
      obtain ⟨h3,h4⟩:=List.getElem?_eq_some_iff.1 h2
      rw [<- h4]
      exact List.set_getElem_self h3
     rw [h1]
     exact O5.out)
    go_loopw [21] (fun i wr=>∃ j:Nat,i = .int .i64 j/\j<=c.length/\w.grownBy wr none/\wr.heap[w.heap.size+1]? = some (.cells #[.int .i64 0,.slice none 0 0,.slice none 0 0] 25 (0,0))/\wr.heap[b3]? = some (.cells #[.int .i64 mem,.slice pD dl.length cD,.slice (some ⟨gF,0,none⟩) fs.length cF3] 25 (0,0)) /\
     wr.heap[bf]? = some (.cells #[.int .i64 a,.int .i64 lo,.int .i64 r,.slice pc c.length cc] 52 (0,0))/\Zco wr w.heap.size (.slice pD dl.length cD) (.slice (some ⟨gF,0,none⟩) fs.length cF3) dl ((Znp fs k).set k (Zy (a,lo,r,c) (reK (Zkk c) c j))) cv) (fun i _=>c.length - (intOf i).toNat)
    case atStart=>exact ⟨0,rfl,Nat.zero_le _,G5.out,V1.out,V3.out,XB.out,OZ.out⟩
    case round =>
     obtain ⟨j,rfl,hj,hg,h1,h3,hbf,ho⟩:=hrel
     have IG:=Hq hg
     have I1:=Hq h1
     have I3:=Hq h3
     have IB:=Hq hbf
     have IO:=Hq ho
     clear OZ V1 V3 G5 O5
     by_cases hlj:(j:Int)<(c.length:Int)
     · obtain ⟨⟨op,x⟩,hx⟩:∃ x,c[j]? = some x:=⟨_,List.getElem?_eq_getElem (by omega)⟩
       obtain ⟨b1,o1,rfl,hb1,d0',d1'⟩:=IW.out j _ hx
       have d0:=hg.cell d0' (by simp)
       have d1:=hg.cell d1' (by simp)
       have lb1:=Nat.lt_of_lt_of_le hb1 hg.size
       simp only [] at d0 d1
       have GX:=Hq (Ga wr (.cells #[.int .i64 op,.int .i64 x] 49) none)
       have XX:=Hq (heap_alloc_new wr (.cells #[.int .i64 op,.int .i64 x] 49))
       have HX:=Hq hx
       cases hjm:jmp op with
       | false =>
         have JF:=Hq (show ∀ w,Calls Try.prog 52 #[.int .i64 op] w fun e w'=>e = .returned (.bool false)/\w=w' from fun w=>hjm ▸ Ys op w)
         have KS:=Hq (Zyn (g:=Zkk c) hx hjm)
         clear hg h1 h3 hbf ho hx hjm d0' d1' hb1
         go_wp2_with (go_at_call 52;refine (JF.out _).mono ?_;rintro e w' ⟨rfl,rfl⟩)
         go_roundw
         case rel=>exact ⟨j+1,by go_num,by omega,Za IG.out GX.out,Zb I1.out GX.out (by simp),Zb I3.out GX.out (by simp),Zb IB.out GX.out (by simp),by rw [KS.out];exact Xj IO.out GX.out⟩
         case measure=>simp [intOf];omega
       | true =>
         obtain ⟨hv0,hv1⟩:=CO.out.j _ (List.mem_of_getElem? hx) hjm
         simp only [] at hv0 hv1
         obtain ⟨m,rfl⟩:=Int.eq_ofNat_of_zero_le hv0
         have JT:=Hq (show ∀ w,Calls Try.prog 52 #[.int .i64 op] w fun e w'=>e = .returned (.bool true)/\w=w' from fun w=>hjm ▸ Ys op w)
         have EN:=Hq (fun W (g:wr.grownBy W none)=>Zzv c (some ⟨b1,o1,none⟩) cc m W (Zem IW.out (Za IG.out g)) CO.out.l (by omega) CO.out.st (Zuw CO.out))
         have HJ2:=Hq hjm
         have hfk:((Znp fs k).set k (Zy (a,lo,r,c) (reK (Zkk c) c j)))[k]? = some (Zy (a,lo,r,c) (reK (Zkk c) c j)):=List.getElem?_set_self (by rw [Zer];omega)
         obtain ⟨gF',cap',eF',-,hcF⟩:=Yb ho.fr (by rw [List.length_set,Zer];omega)
         injection eF' with e1 e2 e3
         injection e1 with e1;injection e1 with e1 _ _;subst e1
         obtain ⟨-,-,-,q3⟩:=Xs _ cv k _ _ hfk HV.out
         have F3:=Hq (GX.out.cell (hcF _ _ q3 (by rw [List.length_set,Zer];omega)) (by simp))
         have hrow:=ho.each k _ _ hfk HV.out
         have rl:(Zy (a,lo,r,c) (reK (Zkk c) c j)).2.2.2.length=c.length:=Zqh _ _ _
         rw [rl] at hrow
         obtain ⟨gk',kk',ek,hgk2,hck⟩:=Yb hrow (by omega)
         injection ek with e4 e5 e6
         injection e4 with e4;injection e4 with e4 _ _;subst e4
         obtain ⟨-,qk⟩:=Zad (reK (Zkk c) c j) j op (m:Int) (Zmc hx)
         have K1:=Hq (GX.out.cell (hck _ _ qk (by omega)) (by simp))
         have KR:=Hq (hrow.kept GX.out (Classical.em _))
         have LK:=Hq (Nat.lt_of_lt_of_le hgk2 GX.out.size)
         have LF:=Hq (Nat.lt_of_lt_of_le (ho.fr.lt gF rfl).2 GX.out.size)
         have B2:=Hq (Zb h3 GX.out (by simp))
         have BF:=Hq (Zb hbf GX.out (by simp))
         have KN:=Hq (Zqg (g:=Zkk c) hx)
         have FS:=Hq (fun u=>Zgy (reK (Zkk c) c j) j (op,(m:Int)) u (Zmc hx))
         clear hg h1 h3 hbf ho hx hjm d0' d1' hb1 hfk hcF q3 hrow rl hck qk e2 e3 e5 e6 hgk2
         go_wp2_with (go_at_call 52;refine (JT.out _).mono ?_;rintro e w' ⟨rfl,rfl⟩)
         generalize hwx:wr.heap.size=bx at *
         have HBX:=Hq hwx
         clear hwx
         have G6:=Hq (Za IG.out GX.out)
         have H1:=Hq (Zb I1.out GX.out (by simp))
         have O6:=Hq (Xj IO.out GX.out)
         generalize wr.alloc (.cells #[.int .i64 op,.int .i64 (m:Int)] 49)=w6 at *
         have y2:=Cq _ _ 2 _ _ _ B2.out
         have yf:=Cq _ _ 3 _ _ _ BF.out
         have yx:=Cq _ _ 1 _ _ _ XX.out
         have y3:=F3.out
         have yk:=K1.out
         have z2:=(Gs B2.out)
         have zf:=(Gs BF.out)
         have zx:=(Gs XX.out)
         have zk:=LK.out
         have zF:=LF.out
         generalize hmi:(m:Int)=mi at *
         have HMI:=Hq hmi
         clear hmi
         go_upto_region 9 with fail
         rename (∀ (a:Act) (w:World),Code.wp _ _ _ a w->_)=>hK
         refine Xe (n:=15) (J:=fun a0 l a1 w1=>∃ ei9,RJ a0 46 15 th9 (Zkv b3 k j bf bx gF fs.length cF3 gk c.length kk b1 o1 cc mi ei9) l a1/\WY 11 14 15 [(1,0),(3,1),(3,2),(4,3),(5,4),(8,7),(10,9),(11,8),(11,10),(12,5),(12,6),(13,12),(14,13),(14,11)] (w6.drew) (fun W'=>w6.grownBy W' none) (fun W'=>w6.grownBy W' none/\ei9=((Zfm c m:Nat):Int)) (fun W'=>∃ w7:World,W'=w7.setCell ⟨gk,j*2+1,none⟩ (.int .i64 ei9)/\w6.grownBy w7 none/\ei9=((Zfm c m:Nat):Int)) l w1) (by kernel_rfl) rfl (Jh (by kernel_rfl)) (fun l a1 w1 h=>by obtain ⟨_,_,h⟩:=h;exact h.sz) ⟨0,Xd rfl,Zkq (Zd (Zc w6 none))⟩ ?step ?fin
         case step =>
          intro l a1 w' i hJJ hi hin
          obtain ⟨ei9,hJ,hW⟩:=hJJ
          have hun:l.getD i false=false:=getD_both (mem_ready.1 hi).1
          have hns:=Yak hW hin hun
          have hb:=hW.b hns
          have l0:=Nat.lt_of_lt_of_le z2 hb.size
          have l1:=Nat.lt_of_lt_of_le zf hb.size
          have l2:=Nat.lt_of_lt_of_le zx hb.size
          have l3:=Nat.lt_of_lt_of_le zF hb.size
          rcases Ydn i hin with rfl|rfl|rfl|rfl|rfl|rfl|rfl|rfl|rfl|rfl|rfl|rfl|rfl|rfl|rfl
          · have e3:a1.tmps.getD 3 undef = .pointer (some ⟨b3,0,none⟩):=hJ.un 3 (fun i hi _=>Zlq 3 (by decide) i hi)
            exact Zj (Zp hW hJ rfl (by rfl) rfl (by decide) (by decide) (Zcz _ (by decide)) (w':=w') (by simp [execOp,resolve,invoke,builtin,Act.eval,e3,hlt,hlj,l0,l1,l2,l3,go_sem,Zkv]) (Yg hW (by decide) hun (by decide) (by decide) (Zn _ hi (by kernel_rfl)))) (fun a9 w9 h9=>⟨ei9,h9⟩)
          · have e29:a1.tmps.getD 29 undef = .pointer (some ⟨b3,2,none⟩):=(Zm hJ hi 0 (by kernel_rfl))
            have h0:=hb.cell y2 (by simp)
            exact Zj (Zp hW hJ rfl (by rfl) rfl (by decide) (by decide) (Zcz _ (by decide)) (w':=w') (by simp [execOp,resolve,invoke,builtin,Act.eval,e29,h0,hlt,hlj,l0,l1,l2,l3,go_sem,Zkv]) (Yg hW (by decide) hun (by decide) (by decide) (Zn _ hi (by kernel_rfl)))) (fun a9 w9 h9=>⟨ei9,h9⟩)
          · have e4:a1.tmps.getD 4 undef = .int .i64 k:=hJ.un 4 (fun i hi _=>Zlq 4 (by decide) i hi)
            exact Zj (Zp hW hJ rfl (by rfl) rfl (by decide) (by decide) (Zcz _ (by decide)) (w':=w') (by simp [execOp,resolve,invoke,builtin,Act.eval,e4,hlt,hlj,l0,l1,l2,l3,go_sem,Zkv]) (Yg hW (by decide) hun (by decide) (by decide) (Zn _ hi (by kernel_rfl)))) (fun a9 w9 h9=>⟨ei9,h9⟩)
          · have e30:a1.tmps.getD 30 undef = .slice (some ⟨gF,0,none⟩) fs.length cF3:=(Zm hJ hi 1 (by kernel_rfl))
            have e31:a1.tmps.getD 31 undef = .int .i64 k:=(Zm hJ hi 2 (by kernel_rfl))
            exact Zj (Zp hW hJ rfl (by rfl) rfl (by decide) (by decide) (Zcz _ (by decide)) (w':=w') (by first|(simp [execOp,resolve,invoke,builtin,Act.eval,e30,e31,hlt,hlj,l0,l1,l2,l3,go_sem,Zkv];done)|(simp [execOp,resolve,invoke,builtin,Act.eval,e30,e31,hlt,hlj,l0,l1,l2,l3,go_sem,Zkv];omega)|(simp [execOp,resolve,invoke,builtin,Act.eval,e30,e31,hlt,hlj,l0,l1,l2,l3,go_sem,Zkv];intro h;omega)|(simp [execOp,resolve,invoke,builtin,Act.eval,e30,e31,hlt,hlj,l0,l1,l2,l3,go_sem,Zkv];intros;omega)) (Yg hW (by decide) hun (by decide) (by decide) (Zn _ hi (by kernel_rfl)))) (fun a9 w9 h9=>⟨ei9,h9⟩)
          · have e32:a1.tmps.getD 32 undef = .pointer (some ⟨gF,k*4,none⟩):=(Zm hJ hi 3 (by kernel_rfl))
            exact Zj (Zp hW hJ rfl (by rfl) rfl (by decide) (by decide) (Zcz _ (by decide)) (w':=w') (by simp [execOp,resolve,invoke,builtin,Act.eval,e32,hlt,hlj,l0,l1,l2,l3,go_sem,Zkv]) (Yg hW (by decide) hun (by decide) (by decide) (Zn _ hi (by kernel_rfl)))) (fun a9 w9 h9=>⟨ei9,h9⟩)
          · have e33:a1.tmps.getD 33 undef = .pointer (some ⟨gF,k*4+3,none⟩):=(Zm hJ hi 4 (by kernel_rfl))
            have h0:=hb.cell y3 (by simp)
            exact Zj (Zp hW hJ rfl (by rfl) rfl (by decide) (by decide) (Zcz _ (by decide)) (w':=w') (by simp [execOp,resolve,invoke,builtin,Act.eval,e33,h0,hlt,hlj,l0,l1,l2,l3,go_sem,Zkv]) (Yg hW (by decide) hun (by decide) (by decide) (Zn _ hi (by kernel_rfl)))) (fun a9 w9 h9=>⟨ei9,h9⟩)
          · have e6:a1.tmps.getD 6 undef = .int .i64 j:=hJ.un 6 (fun i hi _=>Zlq 6 (by decide) i hi)
            exact Zj (Zp hW hJ rfl (by rfl) rfl (by decide) (by decide) (Zcz _ (by decide)) (w':=w') (by simp [execOp,resolve,invoke,builtin,Act.eval,e6,hlt,hlj,l0,l1,l2,l3,go_sem,Zkv]) (Yg hW (by decide) hun (by decide) (by decide) (Zn _ hi (by kernel_rfl)))) (fun a9 w9 h9=>⟨ei9,h9⟩)
          · have e5:a1.tmps.getD 5 undef = .pointer (some ⟨bf,0,none⟩):=hJ.un 5 (fun i hi _=>Zlq 5 (by decide) i hi)
            exact Zj (Zp hW hJ rfl (by rfl) rfl (by decide) (by decide) (Zcz _ (by decide)) (w':=w') (by simp [execOp,resolve,invoke,builtin,Act.eval,e5,hlt,hlj,l0,l1,l2,l3,go_sem,Zkv]) (Yg hW (by decide) hun (by decide) (by decide) (Zn _ hi (by kernel_rfl)))) (fun a9 w9 h9=>⟨ei9,h9⟩)
          · have e36:a1.tmps.getD 36 undef = .pointer (some ⟨bf,3,none⟩):=(Zm hJ hi 7 (by kernel_rfl))
            have h0:=hb.cell yf (by simp)
            exact Zj (Zp hW hJ rfl (by rfl) rfl (by decide) (by decide) (Zcz _ (by decide)) (w':=w') (by simp [execOp,resolve,invoke,builtin,Act.eval,e36,h0,hlt,hlj,l0,l1,l2,l3,go_sem,Zkv]) (Yg hW (by decide) hun (by decide) (by decide) (Zn _ hi (by kernel_rfl)))) (fun a9 w9 h9=>⟨ei9,h9⟩)
          · have e7:a1.tmps.getD 7 undef = .pointer (some ⟨bx,0,none⟩):=hJ.un 7 (fun i hi _=>Zlq 7 (by decide) i hi)
            exact Zj (Zp hW hJ rfl (by rfl) rfl (by decide) (by decide) (Zcz _ (by decide)) (w':=w') (by simp [execOp,resolve,invoke,builtin,Act.eval,e7,hlt,hlj,l0,l1,l2,l3,go_sem,Zkv]) (Yg hW (by decide) hun (by decide) (by decide) (Zn _ hi (by kernel_rfl)))) (fun a9 w9 h9=>⟨ei9,h9⟩)
          · have e38:a1.tmps.getD 38 undef = .pointer (some ⟨bx,1,none⟩):=(Zm hJ hi 9 (by kernel_rfl))
            have h0:=hb.cell yx (by simp)
            exact Zj (Zp hW hJ rfl (by rfl) rfl (by decide) (by decide) (Zcz _ (by decide)) (w':=w') (by simp [execOp,resolve,invoke,builtin,Act.eval,e38,h0,hlt,hlj,l0,l1,l2,l3,go_sem,Zkv]) (Yg hW (by decide) hun (by decide) (by decide) (Zn _ hi (by kernel_rfl)))) (fun a9 w9 h9=>⟨ei9,h9⟩)
          · have e37:a1.tmps.getD 37 undef = .slice (some ⟨b1,o1,none⟩) c.length cc:=(Zm hJ hi 8 (by kernel_rfl))
            have e39:a1.tmps.getD 39 undef = .int .i64 mi:=(Zm hJ hi 10 (by kernel_rfl))
            have hw0:=hW.h0 hun
            subst hw0
            refine Xq rfl (by rfl) (by simp [execOp,resolve,invoke,Act.eval,e37,e39,go_sem]) (Calls.mono (EN.out w6.drew (Zd GX.out)) (fun e w2 he => ?_))
            obtain ⟨he1,g6⟩:=he
            obtain ⟨ei92,hei92⟩:∃ x:Int,x=((Zfm c m:Nat):Int):=⟨_,rfl⟩
            rw [<- hei92] at he1
            subst he1
            have g7:w6.grownBy w2 none:=Za (Zd (Zc w6 none)) g6
            refine ⟨_,rfl,ei92,?_,Zpl hW (by decide) hun (by decide) (Zn _ hi (by kernel_rfl)) (g7) (⟨g7,hei92⟩)⟩
            exact Jq (val:=Zkv b3 k j bf bx gF fs.length cF3 gk c.length kk b1 o1 cc mi ei92) (Jj hJ (Yuo l hun)) (by decide) (by decide) (Zcz _ (by decide))
          · have e34:a1.tmps.getD 34 undef = .slice (some ⟨gk,0,none⟩) c.length kk:=(Zm hJ hi 5 (by kernel_rfl))
            have e35:a1.tmps.getD 35 undef = .int .i64 j:=(Zm hJ hi 6 (by kernel_rfl))
            exact Zj (Zp hW hJ rfl (by rfl) rfl (by decide) (by decide) (Zcz _ (by decide)) (w':=w') (by first|(simp [execOp,resolve,invoke,builtin,Act.eval,e34,e35,hlt,hlj,l0,l1,l2,l3,go_sem,Zkv];done)|(simp [execOp,resolve,invoke,builtin,Act.eval,e34,e35,hlt,hlj,l0,l1,l2,l3,go_sem,Zkv];omega)|(simp [execOp,resolve,invoke,builtin,Act.eval,e34,e35,hlt,hlj,l0,l1,l2,l3,go_sem,Zkv];intro h;omega)|(simp [execOp,resolve,invoke,builtin,Act.eval,e34,e35,hlt,hlj,l0,l1,l2,l3,go_sem,Zkv];intros;omega)) (Yg hW (by decide) hun (by decide) (by decide) (Zn _ hi (by kernel_rfl)))) (fun a9 w9 h9=>⟨ei9,h9⟩)
          · have e41:a1.tmps.getD 41 undef = .pointer (some ⟨gk,j*2,none⟩):=(Zm hJ hi 12 (by kernel_rfl))
            exact Zj (Zp hW hJ rfl (by rfl) rfl (by decide) (by decide) (Zcz _ (by decide)) (w':=w') (by simp [execOp,resolve,invoke,builtin,Act.eval,e41,hlt,hlj,l0,l1,l2,l3,go_sem,Zkv]) (Yg hW (by decide) hun (by decide) (by decide) (Zn _ hi (by kernel_rfl)))) (fun a9 w9 h9=>⟨ei9,h9⟩)
          · have e42:a1.tmps.getD 42 undef = .pointer (some ⟨gk,j*2+1,none⟩):=(Zm hJ hi 13 (by kernel_rfl))
            have e40:a1.tmps.getD 40 undef = .int .i64 ei9:=(Zm hJ hi 11 (by kernel_rfl))
            have hpw:=hW.h1 (Zf hi 11 (by kernel_rfl)) hun
            have hc9:=hb.cell yk (by simp)
            have hfz9:w'.frozen? ⟨gk,j*2+1,none⟩=false:=Yf ((KR.out).kept hb (Classical.em _)) (j*2+1)
            exact Zj (Zbh hW hJ rfl rfl rfl (by decide) (by decide) (w':=w'.setCell ⟨gk,j*2+1,none⟩ (.int .i64 ei9)) (by simp [execOp,Act.eval,e42,e40,hfz9,hc9,go_sem]) (Zkp hW (by decide) (by decide) (by decide) (fun j hj hne=>by
             rcases Ydn j hj with rfl|rfl|rfl|rfl|rfl|rfl|rfl|rfl|rfl|rfl|rfl|rfl|rfl|rfl|rfl
             · exact hW.cl (1,0) (by decide) (hW.cl (3,1) (by decide) (hW.cl (4,3) (by decide) (hW.cl (5,4) (by decide) (hW.cl (12,5) (by decide) (hW.cl (13,12) (by decide) (Zf hi 13 (by kernel_rfl)))))))
             · exact hW.cl (3,1) (by decide) (hW.cl (4,3) (by decide) (hW.cl (5,4) (by decide) (hW.cl (12,5) (by decide) (hW.cl (13,12) (by decide) (Zf hi 13 (by kernel_rfl))))))
             · exact hW.cl (3,2) (by decide) (hW.cl (4,3) (by decide) (hW.cl (5,4) (by decide) (hW.cl (12,5) (by decide) (hW.cl (13,12) (by decide) (Zf hi 13 (by kernel_rfl))))))
             · exact hW.cl (4,3) (by decide) (hW.cl (5,4) (by decide) (hW.cl (12,5) (by decide) (hW.cl (13,12) (by decide) (Zf hi 13 (by kernel_rfl)))))
             · exact hW.cl (5,4) (by decide) (hW.cl (12,5) (by decide) (hW.cl (13,12) (by decide) (Zf hi 13 (by kernel_rfl))))
             · exact hW.cl (12,5) (by decide) (hW.cl (13,12) (by decide) (Zf hi 13 (by kernel_rfl)))
             · exact hW.cl (12,6) (by decide) (hW.cl (13,12) (by decide) (Zf hi 13 (by kernel_rfl)))
             · exact hW.cl (8,7) (by decide) (hW.cl (11,8) (by decide) (Zf hi 11 (by kernel_rfl)))
             · exact hW.cl (11,8) (by decide) (Zf hi 11 (by kernel_rfl))
             · exact hW.cl (10,9) (by decide) (hW.cl (11,10) (by decide) (Zf hi 11 (by kernel_rfl)))
             · exact hW.cl (11,10) (by decide) (Zf hi 11 (by kernel_rfl))
             · exact Zf hi 11 (by kernel_rfl)
             · exact hW.cl (13,12) (by decide) (Zf hi 13 (by kernel_rfl))
             · exact Zf hi 13 (by kernel_rfl)
             · exact absurd rfl hne) (Zn _ hi (by kernel_rfl)) (⟨w',rfl,hpw.1,hpw.2⟩))) (fun a9 w9 h9=>⟨ei9,h9⟩)
         intro l a1 w9 hJJ hl
         obtain ⟨ei9,hJ,hW⟩:=hJJ
         obtain ⟨w7,rfl,g7,hei⟩:=hW.h2 (hl 14 (by decide))
         have hput:=Jf hJ rfl hl (fun i j h1 h2 h3=>Zcz j h2 i h1 h3)
         subst hput
         have GN:=Hq (Ze (b:=gk) (o:=j*2+1) (v := .int .i64 ei9) (Za G6.out g7) hbs)
         have N1:=Hq (Zb (Zb H1.out g7 (by simp)) (Zg w7 gk (j*2+1) (.int .i64 ei9)) (by intro e;injection e with e;exact nk1 e))
         have N3:=Hq (Zb (Zb B2.out g7 (by simp)) (Zg w7 gk (j*2+1) (.int .i64 ei9)) (by intro e;injection e with e;exact nk3 e))
         have NF:=Hq (Zb (Zb BF.out g7 (by simp)) (Zg w7 gk (j*2+1) (.int .i64 ei9)) (by intro e;injection e with e;exact ko e.symm))
         have NO:=Hq (Ypv (ei:=ei9) (x:=mi) (Xj O6.out g7) HF.out HV.out (by have:=KN.out;rw [this];simp only [HJ2.out,if_true];congr 2;unfold Zkk;rw [show mi.toNat=m by rw [<- HMI.out];simp];exact hei.symm) FS.out)
         clear hJ hW hl g7 hei
         refine hK _ _ ?_
         simp only [Zai,th9,Zkv,Act.put,List.setIfInBounds_toArray,List.set_cons_zero,List.set_cons_succ]
         clear hK y2 yf yx y3 yk z2 zf zx zk zF
         go_wp2
         go_roundw
         case rel=>exact ⟨j+1,by go_num,by omega,GN.out,N1.out,N3.out,NF.out,NO.out⟩
         case measure=>simp [intOf];omega
     · have hjn:j=c.length:=by omega
       subst hjn
       have OE:=Hq (show Zco wr w.heap.size (.slice pD dl.length cD) (.slice (some ⟨gF,0,none⟩) fs.length cF3) dl (Znp fs (k+1)) cv by
        rw [Ydm HF.out,show Xb (a,lo,r,c).2.2.2=reK (Zkk c) c c.length from (Yjz c).symm]
        exact ho)
       clear hg h1 h3 hbf ho
       go_wp2
       go_roundw
       case rel=>exact ⟨k+1,by go_num,by omega,IG.out,I1.out,I3.out,OE.out⟩
       case measure=>simp [intOf];omega
  · have hkn:k=fs.length:=by omega
    subst hkn
    have OE:=Hq (show Zco wr w.heap.size (.slice pD dl.length cD) (.slice pF3 fs.length cF3) dl (Zau fs) cv by rw [<- Yjy];exact ho)
    have v0:=Cq _ _ 0 _ _ _ HX1.out
    have v1:=Cq _ _ 1 _ _ _ HX1.out
    have v2:=Cq _ _ 2 _ _ _ HX1.out
    have z0:=frozen_of_row _ _ 0 _ _ HX1.out
    have z1:=frozen_of_row _ _ 1 _ _ HX1.out
    have z2:=frozen_of_row _ _ 2 _ _ HX1.out
    have lv:=(Gs HX1.out)
    have u0:=Cq _ _ 0 _ _ _ HX3.out
    have u1:=Cq _ _ 1 _ _ _ HX3.out
    have u2:=Cq _ _ 2 _ _ _ HX3.out
    have lu:=(Gs HX3.out)
    clear hg hx1 hx3 ho
    go_wp2
    refine bodyPost_ret (v := .agg #[.int .i64 mem,.slice pD dl.length cD,.slice pF3 fs.length cF3]) ?_ rfl ⟨_,_,cv,rfl,Ze (Ze (Ze HG.out (by omega)) (by omega)) (by omega),Zag OE.out HX1.out⟩
    rw [Ym rfl]
    go_simp
end Go.Proofs.Ythlkflagancdfaa.OT
