/-
  Part of a proof: contracts of functions and lemmas, each stated by its own theorem. Conditions: as each theorem states.
-/
import Derived.Test.YthlkflagancdfaaMK00
import Derived.Test.YthlkflagancdfaaMK12
import Derived.Deep.Cut
import Derived.Deep.OwnRows
set_option linter.unusedSimpArgs false
set_option linter.unusedVariables false
set_option maxRecDepth 100000
set_option maxHeartbeats 16000000
namespace Go.Proofs.Ythlkflagancdfaa.CK
open Go.RowKit Go.Great
theorem Zww {a:Act} {N d:Nat} {v:Value} (hs:a.tmps.size=N) (hd:d<N) (e:Nat):tm (a.put (some d) v) e=if e=d then v else tm a e:=by
 unfold tm Act.put
 by_cases h:e=d
 · subst h;simp [hs,hd]
 · rw [if_neg h];simp [Array.getD_eq_getD_getElem?,Array.getElem?_setIfInBounds_ne (Ne.symm h)]
theorem Ztn {a:Act} {N:Nat} {d:Option Tmp} {v:Value} (hs:a.tmps.size=N):(a.put d v).tmps.size=N:=by cases d <;> simp [Act.put,hs]
structure RJ (a0:Act) (N n:Nat) (dst:Nat->Nat) (val:Nat->Value) (l:Array Bool) (a:Act):Prop where
 sz:l.size=n
 ts:a.tmps.size=N
 df:a.defers=a0.defers
 sl:∀ i,i<n->l.getD i false=true->dst i<N->tm a (dst i)=val i
 un:∀ j,(∀ i,i<n->l.getD i false=true->dst i≠j)->tm a j=tm a0 j
theorem Zch {a0 a:Act} {N n i:Nat} {dst:Nat->Nat} {val:Nat->Value} {l:Array Bool} (h:RJ a0 N n dst val l a) (hi:i<n) (hd:dst i<N) (hne:∀ j,j<n->j≠i->dst j≠dst i) :
 RJ a0 N n dst val (l.setIfInBounds i true) (a.put (some (dst i)) (val i)):=by
 have hgs:∀ j,(l.setIfInBounds i true).getD j false=if j=i then true else l.getD j false:=fun j=>Yd l i j (by rw [h.sz];exact hi)
 have T:∀ e,tm (a.put (some (dst i)) (val i)) e=if e=dst i then val i else tm a e:=fun e=>Zww h.ts hd e
 refine ⟨by simp [h.sz],Ztn h.ts,h.df,fun j hj hl hdj => ?_,fun j hj => ?_⟩
 · rw [hgs] at hl
   by_cases hji:j=i
   · subst hji;rw [T,if_pos rfl]
   · rw [if_neg hji] at hl
     rw [T,if_neg (hne j hj hji)]
     exact h.sl j hj hl hdj
 · have h1:=hj i hi (by rw [hgs,if_pos rfl])
   rw [T,if_neg (Ne.symm h1)]
   refine h.un j fun i' hi' hl'=>hj i' hi' ?_
   rw [hgs]
   by_cases e:i'=i
   · rw [if_pos e]
   · rw [if_neg e];exact hl'
theorem Zmm {a0 a:Act} {N n i:Nat} {dst:Nat->Nat} {val:Nat->Value} {l:Array Bool} (h:RJ a0 N n dst val l a) (hi:i<n) (hd:N<=dst i):RJ a0 N n dst val (l.setIfInBounds i true) a:=by
 have hgs:∀ j,(l.setIfInBounds i true).getD j false=if j=i then true else l.getD j false:=fun j=>Yd l i j (by rw [h.sz];exact hi)
 refine ⟨by simp [h.sz],h.ts,h.df,fun j hj hl hdj => ?_,fun j hj => ?_⟩
 · rw [hgs] at hl
   by_cases hji:j=i
   · subst hji;omega
   · rw [if_neg hji] at hl;exact h.sl j hj hl hdj
 · refine h.un j fun i' hi' hl'=>hj i' hi' ?_
   rw [hgs]
   by_cases e:i'=i
   · rw [if_pos e]
   · rw [if_neg e];exact hl'
theorem Jd {a0:Act} {N n:Nat} {dst:Nat->Nat} {val:Nat->Value} (hs:a0.tmps.size=N):RJ a0 N n dst val (Array.replicate n false) a0 :=
 ⟨by simp,hs,rfl,fun i hi hl _=>(by rw [getD_replicate_false] at hl;cases hl),fun j _=>rfl⟩
theorem Zki {a b:Act} (hs:a.tmps.size=b.tmps.size) (hd:a.defers=b.defers) (ht:∀ j,j<a.tmps.size->tm a j=tm b j):a=b:=by
 obtain ⟨ta,da⟩:=a
 obtain ⟨tb,db⟩:=b
 simp only at hs hd
 subst hd
 congr 1
 refine Array.ext hs fun j h1 h2 => ?_
 have:=ht j h1
 simpa [tm,h1,h2] using this
theorem Yyq {a0 a aF:Act} {N n:Nat} {dst:Nat->Nat} {val:Nat->Value} {l:Array Bool} (h:RJ a0 N n dst val l a) (hl:∀ j,j<n->l.getD j false=true) (hs:aF.tmps.size=N) (hd:aF.defers=a0.defers)
 (hv:∀ i,i<n->dst i<N->tm aF (dst i)=val i) (hu:∀ j,(∀ i,i<n->dst i≠j)->tm aF j=tm a0 j):a=aF:=by
 refine Zki (h.ts.trans hs.symm) (h.df.trans hd.symm) fun j hj => ?_
 by_cases he:∃ i,i<n/\dst i=j
 · obtain ⟨i,hi,rfl⟩:=he
   have hN:dst i<N:=by rw [<- h.ts];exact hj
   rw [h.sl i hi (hl i hi) hN,hv i hi hN]
 · have hne:∀ i,i<n->dst i≠j:=fun i hi e=>he ⟨i,hi,e⟩
   rw [h.un j (fun i hi _=>hne i hi),hu j hne]
def Zay (a0:Act) (dst:Nat->Nat) (val:Nat->Value):Nat->Act
 | 0=>a0
 | n+1=>(Zay a0 dst val n).put (some (dst n)) (val n)
theorem Zhd {a0:Act} {N:Nat} {dst:Nat->Nat} {val:Nat->Value} (hs:a0.tmps.size=N):∀ n,(Zay a0 dst val n).tmps.size=N
 | 0=>hs
 | n+1=>Ztn (Zhd hs n)
theorem Zkl {a0:Act} {dst:Nat->Nat} {val:Nat->Value}:∀ n,(Zay a0 dst val n).defers=a0.defers
 | 0=>rfl
 | n+1=>Zkl n
theorem Zzt {a0:Act} {N:Nat} {dst:Nat->Nat} {val:Nat->Value} (hs:a0.tmps.size=N):∀ n,(∀ i j,i<n->j<n->i≠j->dst i≠dst j)->∀ i,i<n->dst i<N->tm (Zay a0 dst val n) (dst i)=val i
 | 0,_,i,hi,_=>by omega
 | n+1,hne,i,hi,hd=>by
   rw [Zay]
   by_cases e:i=n
   · subst e;rw [Zww (Zhd hs i) hd,if_pos rfl]
   · have h1:=Zzt (a0:=a0) (val:=val) hs n (fun i j h1 h2=>hne i j (by omega) (by omega)) i (by omega) hd
     by_cases hn:dst n<N
     · rw [Zww (Zhd hs n) hn,if_neg (hne i n (by omega) (by omega) e)];exact h1
     · have:∀ v,tm ((Zay a0 dst val n).put (some (dst n)) v) (dst i)=tm (Zay a0 dst val n) (dst i):=by
        intro v
        unfold tm Act.put
        simp [Array.getD_eq_getD_getElem?,Array.getElem?_setIfInBounds_ne (hne n i (by omega) (by omega) (Ne.symm e))]
       rw [this];exact h1
theorem Zub {a0:Act} {dst:Nat->Nat} {val:Nat->Value}:∀ n j,(∀ i,i<n->dst i≠j)->tm (Zay a0 dst val n) j=tm a0 j
 | 0,_,_=>rfl
 | n+1,j,h=>by
   rw [Zay]
   have:tm ((Zay a0 dst val n).put (some (dst n)) (val n)) j=tm (Zay a0 dst val n) j:=by
    unfold tm Act.put
    simp [Array.getD_eq_getD_getElem?,Array.getElem?_setIfInBounds_ne (h n (by omega))]
   rw [this]
   exact Zub n j (fun i hi=>h i (by omega))
theorem Zag {a0 a:Act} {N n:Nat} {dst:Nat->Nat} {val:Nat->Value} {l:Array Bool} (h:RJ a0 N n dst val l a) (h0:a0.tmps.size=N) (hl:∀ j,j<n->l.getD j false=true) (hne:∀ i j,i<n->j<n->i≠j->dst i≠dst j):a=Zay a0 dst val n :=
 Yyq h hl (Zhd h0 n) (Zkl n) (Zzt h0 n hne) (Zub n)
theorem Ytl {a:Act} {d:Nat} (hs:d<a.tmps.size):a.tmps[d]? = some (a.tmps.getD d undef):=by
 rw [Array.getElem?_eq_getElem hs];simp [hs]
theorem Zge {ops:Array Oper} {o:Oper} {a:Act} {k d:Nat} {b:Bool} (hg:o.guard=some (k,b)) (hk:(ops[k]?).bind (·.dst)=some d) (hs:d<a.tmps.size) (hv:a.tmps.getD d undef = .bool b):Region.wanted o (yielded ops a.tmps)=true:=by
 have h1:=Ytl hs
 rw [hv] at h1
 unfold Region.wanted
 rw [hg]
 simp [yielded,hk,h1]
theorem Zu {ops:Array Oper} {a0 a:Act} {N n i:Nat} {dst:Nat->Nat} {val:Nat->Value} {l:Array Bool} (h:RJ a0 N n dst val l a) (hi:i∈Region.ready .any ops l) (j:Nat) (hc:(decide (j<n) && decide (dst j<N) && ((ops[i]?).any fun o=>o.after.any fun e=>e.on == j && Region.binds .any e))=true):a.tmps.getD (dst j) undef=val j:=by
 simp only [Bool.and_eq_true,decide_eq_true_eq] at hc
 exact h.sl j hc.1.1 (Zl hi j hc.2) hc.1.2
theorem Zbe {a0 a:Act} {N n:Nat} {dst:Nat->Nat} {val val':Nat->Value} {l:Array Bool} (h:RJ a0 N n dst val l a) (hv:∀ i,i<n->l.getD i false=true->dst i<N->val' i=val i):RJ a0 N n dst val' l a :=
 ⟨h.sz,h.ts,h.df,fun i hi hl hd=>by rw [hv i hi hl hd];exact h.sl i hi hl hd,h.un⟩
section
variable {ops:Array Oper} {Q:Exit->Act->World->Prop} {a0 a:Act} {N n i:Nat} {dst:Nat->Nat} {val:Nat->Value} {l:Array Bool} {w w':World} {WS:Array Bool->World->Prop} {o:Oper}
theorem Ytx (hJ:RJ a0 N n dst val l a) (ho:ops[i]? = some o) (hg:o.guard=none) (hdst:o.dst=none) (hi:i<n) (hd:N<=dst i) (hrun:(execOp a.eval o).run Try.prog w = .ok .skip w') (hW:WS (l.setIfInBounds i true) w') :
 wpOp Try.prog ops Q i (fun a' w''=>RJ a0 N n dst val (l.setIfInBounds i true) a'/\WS (l.setIfInBounds i true) w'') a w :=
 Zgd ho hg hdst hrun ⟨Zmm hJ hi hd,hW⟩
theorem Zdd (hJ:RJ a0 N n dst val l a) (ho:ops[i]? = some o) (hw:Region.wanted o (yielded ops a.tmps)=true) (hdst:o.dst=some (dst i)) (hi:i<n) (hd:dst i<N) (hne:∀ j,j<n->j≠i->dst j≠dst i) (hrun:(execOp a.eval o).run Try.prog w = .ok (.value (val i)) w') (hW:WS (l.setIfInBounds i true) w') :
 wpOp Try.prog ops Q i (fun a' w''=>RJ a0 N n dst val (l.setIfInBounds i true) a'/\WS (l.setIfInBounds i true) w'') a w:=by
 unfold wpOp
 simp only [ho]
 rw [if_pos hw]
 refine Or.inl ?_
 unfold Oper.wp
 rw [hrun,Oper.upon_value,hdst]
 exact ⟨Zch hJ hi hd hne,hW⟩
theorem Zxi (hJ:RJ a0 N n dst val l a) (ho:ops[i]? = some o) (hw:Region.wanted o (yielded ops a.tmps)=true) (hdst:o.dst=some (dst i)) (hi:i<n) (hd:dst i<N) (hne:∀ j,j<n->j≠i->dst j≠dst i) {f:FuncId} {args:Array Value} (hrun:(execOp a.eval o).run Try.prog w = .ok (.enter f args) w)
 (hc:Calls Try.prog f args w fun e w''=>e = .returned (val i)/\WS (l.setIfInBounds i true) w'') :
 wpOp Try.prog ops Q i (fun a' w''=>RJ a0 N n dst val (l.setIfInBounds i true) a'/\WS (l.setIfInBounds i true) w'') a w:=by
 unfold wpOp
 simp only [ho]
 rw [if_pos hw]
 refine Or.inl ?_
 unfold Oper.wp
 rw [hrun]
 simp only [Oper.upon]
 refine hc.mono fun e w' he => ?_
 obtain ⟨rfl,hK⟩:=he
 show _/\_
 rw [hdst]
 exact ⟨Zch hJ hi hd hne,hK⟩
theorem Zo (hW:WS l w) (hJ:RJ a0 N n dst val l a) (ho:ops[i]? = some o) (hw:Region.wanted o (yielded ops a.tmps)=true) (hdst:o.dst=some (dst i)) (hi:i<n) (hd:dst i<N) (hne:∀ j,j<n->j≠i->dst j≠dst i) (hrun:(execOp a.eval o).run Try.prog w = .ok (.value (val i)) w') (hW':WS (l.setIfInBounds i true) w') :
 wpOp Try.prog ops Q i (fun a' w''=>RJ a0 N n dst val (l.setIfInBounds i true) a'/\WS (l.setIfInBounds i true) w'') a w:=Zdd hJ ho hw hdst hi hd hne hrun hW'
theorem Zdn (hW:WS l w) (hJ:RJ a0 N n dst val l a) (ho:ops[i]? = some o) (hg:o.guard=none) (hdst:o.dst=none) (hi:i<n) (hd:N<=dst i) (hrun:(execOp a.eval o).run Try.prog w = .ok .skip w') (hW':WS (l.setIfInBounds i true) w') :
 wpOp Try.prog ops Q i (fun a' w''=>RJ a0 N n dst val (l.setIfInBounds i true) a'/\WS (l.setIfInBounds i true) w'') a w:=Ytx hJ ho hg hdst hi hd hrun hW'
theorem Zj {K K':Act->World->Prop} (h:wpOp Try.prog ops Q i K a w) (hk:∀ a' w',K a' w'->K' a' w'):wpOp Try.prog ops Q i K' a w:=wpOp_mono hk h
end
theorem Zyu {ops:Array Oper} (hdag:∀ (j:Nat) (o:Oper),ops[j]? = some o->∀ e∈o.after,Region.binds .any e=true->e.on<j) {l:Array Bool} (h:Region.ready .any ops l=[]) (hsz:l.size=ops.size):∀ j,j<ops.size->l.getD j false=true:=by
 intro j
 induction j using Nat.strongRecOn with
 | _ j ih =>
   intro hj
   by_cases hl:l.getD j false=true
   · exact hl
   · exfalso
     have hlt:j<l.size:=by omega
     have h1:l.getD j true=false:=by
      simp only [Array.getD,hlt,dif_pos] at hl ⊢
      simpa using hl
     have:j∈Region.ready .any ops l:=mem_ready.2 ⟨h1,ops[j],by simp [hj],fun e he hb=>ih e.on (hdag j ops[j] (by simp [hj]) e he hb) (Nat.lt_trans (hdag j ops[j] (by simp [hj]) e he hb) hj)⟩
     rw [h] at this
     cases this
theorem Zai {ops:Array Oper} (h:((List.range ops.size).all fun j=>(ops[j]?).all fun o=>o.after.all fun e => !(Region.binds .any e) || decide (e.on<j))=true):∀ (j:Nat) (o:Oper),ops[j]? = some o->∀ e∈o.after,Region.binds .any e=true->e.on<j:=by
 intro j o ho e he hb
 have hj:j<ops.size:=(Gs ho)
 have h1:=List.all_eq_true.1 h j (List.mem_range.2 hj)
 rw [ho] at h1
 have h2:=Array.all_eq_true'.1 (show o.after.all (fun e => !(Region.binds .any e) || decide (e.on<j))=true from h1) e he
 rw [hb] at h2
 exact of_decide_eq_true (by simpa using h2)
structure WC (c n:Nat) (W:World) (l:Array Bool) (w:World):Prop where
 sz:l.size=n
 h0:l.getD c false=false->w=W
 g:W.grownBy w none
theorem Zzh (c n:Nat) (W:World):WC c n W (Array.replicate n false) W:=⟨by simp,fun _=>rfl,Zc _ _⟩
theorem Xd {c n i:Nat} {W w:World} {l:Array Bool} (h:WC c n W l w) (hi:i≠c):WC c n W (l.setIfInBounds i true) w:=by
 have hg:(l.setIfInBounds i true).getD c false=l.getD c false:=by
  simp [Array.getD_eq_getD_getElem?,Array.getElem?_setIfInBounds_ne hi]
 exact ⟨by simp [h.sz],fun e=>h.h0 (by rw [<- hg];exact e),h.g⟩
theorem Yes {c n:Nat} {W w:World} {l:Array Bool} (hs:l.size=n) (hc:c<n) (h:W.grownBy w none):WC c n W (l.setIfInBounds c true) w :=
 ⟨by simp [hs],(fun e=>by rw [Yd l c c (by omega),if_pos rfl] at e;cases e),h⟩
theorem Je {id:Nat} {ops:Array Oper} {Q:Exit->Act->World->Prop} {a0:Act} {w:World} {n:Nat} (J:Act->Array Bool->Act->World->Prop)
 (hm:Try.prog.follows .mixedOrders=true) (hn:ops.size=n) (hdag:∀ (j:Nat) (o:Oper),ops[j]? = some o->∀ e∈o.after,Region.binds .any e=true->e.on<j) (hsz:∀ l a w,J a0 l a w->l.size=n) (hW:J a0 (Array.replicate n false) a0 w.drew)
 (step:∀ l a w i,J a0 l a w->i∈Region.ready .any ops l->i<n->wpOp Try.prog ops Q i (fun a' w'=>J a0 (l.setIfInBounds i true) a' w') a w)
 (fin:∀ l a w,J a0 l a w->(∀ j,j<n->l.getD j false=true)->Q .normal a w):(Code.region id ops true).wp Try.prog Q a0 w:=by
 subst hn
 refine wp_region_any hm ?_
 refine Zlv (J a0) (fun l a w i hJ hi=>step l a w i hJ hi ?_) (fun l a w hJ hr=>fin l a w hJ (Zyu hdag hr (hsz l a w hJ))) _ _ _ _ hW (by simp)
 obtain ⟨_,o,ho,_⟩:=mem_ready.1 hi
 exact (Gs ho)
theorem Jb {ops:Array Oper} {Q:Exit->Act->World->Prop} {a:Act} {i:Nat} {w:World} {o:Oper} {K:Act->World->Prop} (ho:ops[i]? = some o) (hw:Region.wanted o (yielded ops a.tmps)=true) {f:FuncId} {args:Array Value} (hrun:(execOp a.eval o).run Try.prog w = .ok (.enter f args) w)
 (hc:Calls Try.prog f args w fun e w''=>∃ v,e = .returned v/\K (a.put o.dst v) w''):wpOp Try.prog ops Q i K a w:=by
 unfold wpOp
 simp only [ho]
 rw [if_pos hw]
 refine Or.inl ?_
 unfold Oper.wp
 rw [hrun]
 simp only [Oper.upon]
 refine hc.mono fun e w' he => ?_
 obtain ⟨v,rfl,hK⟩:=he
 exact hK
structure WX (c n:Nat) (D:List (Nat × Nat)) (W:World) (row:Option Nat) (P:World->Prop) (l:Array Bool) (w:World):Prop where
 sz:l.size=n
 h0:l.getD c false=false->w=W
 h1:l.getD c false=true->P w
 g:W.grownBy w row
 x:∀ p∈D,l.getD p.1 false=true->l.getD p.2 false=true
theorem Zle (c n:Nat) (D:List (Nat × Nat)) (W:World) (row:Option Nat) (P:World->Prop):WX c n D W row P (Array.replicate n false) W :=
 ⟨by simp,fun _=>rfl,fun h=>(by rw [getD_replicate_false] at h;cases h),Zc _ _,fun p _ h=>(by rw [getD_replicate_false] at h;cases h)⟩
theorem Yma {D:List (Nat × Nat)} {n i:Nat} {l:Array Bool} (hs:l.size=n) (hin:i<n) (hx:∀ p∈D,l.getD p.1 false=true->l.getD p.2 false=true) (hp:∀ p∈D,p.1=i->l.getD p.2 false=true) :
 ∀ p∈D,(l.setIfInBounds i true).getD p.1 false=true->(l.setIfInBounds i true).getD p.2 false=true:=fun p hpD e=>by
 rw [Yd l i _ (by omega)] at e ⊢
 by_cases h2:p.2=i
 · rw [if_pos h2]
 · rw [if_neg h2]
   by_cases h1:p.1=i
   · exact hp p hpD h1
   · rw [if_neg h1] at e;exact hx p hpD e
theorem Ya {c n i:Nat} {D:List (Nat × Nat)} {W w:World} {row:Option Nat} {P:World->Prop} {l:Array Bool} (h:WX c n D W row P l w) (hi:i≠c) (hin:i<n) (hp:∀ p∈D,p.1=i->l.getD p.2 false=true):WX c n D W row P (l.setIfInBounds i true) w:=by
 have hg:(l.setIfInBounds i true).getD c false=l.getD c false:=by rw [Yd l i c (by rw [h.sz];exact hin),if_neg (Ne.symm hi)]
 exact ⟨by simp [h.sz],fun e=>h.h0 (by rw [<- hg];exact e),fun e=>h.h1 (by rw [<- hg];exact e),h.g,Yma h.sz hin h.x hp⟩
theorem Zqc {c n:Nat} {D:List (Nat × Nat)} {W w w':World} {row:Option Nat} {P P':World->Prop} {l:Array Bool} (h:WX c n D W row P l w) (hin:c<n) (hp:∀ p∈D,p.1=c->l.getD p.2 false=true) (hP:P' w') (g:W.grownBy w' row):WX c n D W row P' (l.setIfInBounds c true) w' :=
 ⟨by simp [h.sz],fun e=>(by rw [Yd l c c (by rw [h.sz];exact hin),if_pos rfl] at e;cases e),fun _=>hP,g,Yma h.sz hin h.x hp⟩
theorem Zy {D:List (Nat × Nat)} {i:Nat} {l:Array Bool} (h:i ∉ D.map Prod.fst):∀ p∈D,p.1=i->l.getD p.2 false=true:=fun p hp e=>absurd (List.mem_map.2 ⟨p,hp,e⟩) h
structure WY (c s n:Nat) (D:List (Nat × Nat)) (W:World) (B P Q:World->Prop) (l:Array Bool) (w:World):Prop where
 sz:l.size=n
 h0:l.getD c false=false->w=W
 b:l.getD s false=false->B w
 h1:l.getD c false=true->l.getD s false=false->P w
 h2:l.getD s false=true->Q w
 x:l.getD s false=true->∀ j,j<n->l.getD j false=true
 cl:∀ p∈D,l.getD p.1 false=true->l.getD p.2 false=true
theorem Zld {c s n:Nat} {D:List (Nat × Nat)} {W:World} {B P Q:World->Prop} (hb:B W):WY c s n D W B P Q (Array.replicate n false) W :=
 ⟨by simp,fun _=>rfl,fun _=>hb,fun h=>(by rw [getD_replicate_false] at h;cases h),fun h=>(by rw [getD_replicate_false] at h;cases h),fun h=>(by rw [getD_replicate_false] at h;cases h),fun p _ h=>(by rw [getD_replicate_false] at h;cases h)⟩
theorem Ybp {c s n i:Nat} {D:List (Nat × Nat)} {W w:World} {B P Q:World->Prop} {l:Array Bool} (h:WY c s n D W B P Q l w) (hin:i<n) (hun:l.getD i false=false):l.getD s false=false:=by
 cases e:l.getD s false with
 | false=>rfl
 | true=>rw [h.x e i hin] at hun;cases hun
theorem Yi {c s n i:Nat} {D:List (Nat × Nat)} {W w:World} {B P Q:World->Prop} {l:Array Bool} (h:WY c s n D W B P Q l w) (hin:i<n) (hun:l.getD i false=false) (hc:i≠c) (hs:i≠s) (hp:∀ p∈D,p.1=i->l.getD p.2 false=true):WY c s n D W B P Q (l.setIfInBounds i true) w:=by
 have gc:(l.setIfInBounds i true).getD c false=l.getD c false:=by rw [Yd l i c (by rw [h.sz];exact hin),if_neg (Ne.symm hc)]
 have gs:(l.setIfInBounds i true).getD s false=l.getD s false:=by rw [Yd l i s (by rw [h.sz];exact hin),if_neg (Ne.symm hs)]
 have ns:=Ybp h hin hun
 refine ⟨by simp [h.sz],fun e=>h.h0 (by rw [<- gc];exact e),fun _=>h.b ns,fun e1 _=>h.h1 (by rw [<- gc];exact e1) ns,fun e => ?_,fun e => ?_,Yma h.sz hin h.cl hp⟩
 · rw [gs,ns] at e;cases e
 · rw [gs,ns] at e;cases e
theorem Zqb {c s n:Nat} {D:List (Nat × Nat)} {W w w':World} {B P Q P' Q':World->Prop} {l:Array Bool} (h:WY c s n D W B P Q l w) (hin:c<n) (hun:l.getD c false=false) (hs:c≠s) (hd:∀ p∈D,p.1=c->l.getD p.2 false=true) (hb:B w') (hp:P' w'):WY c s n D W B P' Q' (l.setIfInBounds c true) w':=by
 have gc:(l.setIfInBounds c true).getD c false=true:=by rw [Yd l c c (by rw [h.sz];exact hin),if_pos rfl]
 have gs:(l.setIfInBounds c true).getD s false=l.getD s false:=by rw [Yd l c s (by rw [h.sz];exact hin),if_neg (Ne.symm hs)]
 have ns:=Ybp h hin hun
 refine ⟨by simp [h.sz],fun e => ?_,fun _=>hb,fun _ _=>hp,fun e => ?_,fun e => ?_,Yma h.sz hin h.cl hd⟩
 · rw [gc] at e;cases e
 · rw [gs,ns] at e;cases e
 · rw [gs,ns] at e;cases e
theorem Zlc {c s n:Nat} {D:List (Nat × Nat)} {W w w':World} {B P Q:World->Prop} {l:Array Bool} (h:WY c s n D W B P Q l w) (hin:s<n) (hc:c≠s) (hcn:c<n) (hall:∀ j,j<n->j≠s->l.getD j false=true) (hd:∀ p∈D,p.1=s->l.getD p.2 false=true) (hq:Q w'):WY c s n D W B P Q (l.setIfInBounds s true) w':=by
 have gj:∀ j,j<n->(l.setIfInBounds s true).getD j false=true:=fun j hj=>by
  rw [Yd l s j (by rw [h.sz];exact hin)]
  by_cases e:j=s
  · rw [if_pos e]
  · rw [if_neg e];exact hall j hj e
 refine ⟨by simp [h.sz],fun e => ?_,fun e => ?_,fun _ e => ?_,fun _=>hq,fun _=>gj,Yma h.sz hin h.cl hd⟩
 · rw [gj c hcn] at e;cases e
 · rw [gj s hin] at e;cases e
 · rw [gj s hin] at e;cases e
theorem Zr {ops:Array Oper} {l:Array Bool} {i:Nat} (D:List (Nat × Nat)) (hi:i∈Region.ready .any ops l) (h:(D.all fun p=>p.1 != i || ((ops[i]?).any fun o=>o.after.any fun e=>e.on == p.2 && Region.binds .any e))=true):∀ p∈D,p.1=i->l.getD p.2 false=true:=fun p hp e=>by
 have h1:=List.all_eq_true.1 h p hp
 rw [e] at h1
 simp only [bne_self_eq_false,Bool.false_or] at h1
 exact Zl hi p.2 h1
end Go.Proofs.Ythlkflagancdfaa.CK
namespace Go.Proofs.Ythlkflagancdfaa.OT
open Go.RowKit Go.Great
open Go.Proofs.Ythlkflagancdfaa.CK
def tw6:Nat->Nat
 | 0=>18
 | 1=>19
 | 2=>20
 | 3=>21
 | 4=>22
 | 5=>23
 | 6=>24
 | 7=>25
 | 8=>26
 | 9=>27
 | 10=>28
 | 11=>29
 | 12=>1012
 | _=>5000
theorem Zee:∀ i,i<13->∀ j,j<13->j≠i->tw6 j≠tw6 i:=by decide
theorem Yew (i:Nat) (h:i<13):i=0\/i=1\/i=2\/i=3\/i=4\/i=5\/i=6\/i=7\/i=8\/i=9\/i=10\/i=11\/i=12:=by omega
theorem Zqi (j:Nat) (hj:j∈[1,3]):∀ i,i<13->tw6 i≠j:=by revert j;decide
def Zoc (b1 gF nF cF4 k nc cc:Nat) (pc:Option Addr) (pv:Option Addr) (cv9:Nat):Nat->Value
 | 0 => .pointer (some ⟨b1,2,none⟩)
 | 1 => .slice (some ⟨gF,0,none⟩) nF cF4
 | 2 => .int .i64 k
 | 3 => .pointer (some ⟨b1,2,none⟩)
 | 4 => .slice (some ⟨gF,0,none⟩) nF cF4
 | 5 => .int .i64 k
 | 6 => .pointer (some ⟨gF,k*4,none⟩)
 | 7 => .pointer (some ⟨gF,k*4+3,none⟩)
 | 8 => .slice pc nc cc
 | 9 => .slice pv nc cv9
 | 10 => .pointer (some ⟨gF,k*4,none⟩)
 | 11 => .pointer (some ⟨gF,k*4+3,none⟩)
 | 12=>undef
 | _=>undef
theorem Yxv {b1 gF nF cF4 k nc cc:Nat} {pc:Option Addr} {pv:Option Addr} {cv9:Nat} {pv2:Option Addr} {cv92:Nat} (l:Array Bool) (hun:l.getD 9 false=false):∀ i,i<13->l.getD i false=true->tw6 i<32->Zoc b1 gF nF cF4 k nc cc pc pv2 cv92 i=Zoc b1 gF nF cF4 k nc cc pc pv cv9 i:=by
 intro i hi hl _
 rcases Yew i hi with rfl|rfl|rfl|rfl|rfl|rfl|rfl|rfl|rfl|rfl|rfl|rfl|rfl <;> first|rfl|(rw [hun] at hl;cases hl)
theorem Jh {w:World} {base b:Nat} {D F:Value} {mem:Int} {dl:List Int} {fs:List FnP} {cv:List Value} {cs:Array Value} (h:Zas w base D F dl fs cv) (hb:w.heap[b]? = some (.cells cs 25 (0,0))) :
 Zas (((w.setCell ⟨b,0,none⟩ (.int .i64 mem)).setCell ⟨b,1,none⟩ D).setCell ⟨b,2,none⟩ F) base D F dl fs cv:=by
 have g:w.grownBy (((w.setCell ⟨b,0,none⟩ (.int .i64 mem)).setCell ⟨b,1,none⟩ D).setCell ⟨b,2,none⟩ F) (some b):=Za (Za (Zh _ _ _ _) (Zh _ _ _ _)) (Zh _ _ _ _)
 have n:∀ {base:Nat} {e:TypeId} {size n:Nat} {v:Value} {xs:List Value},w.ownsRow base e size v n xs->e≠25->v.ownBlock=none\/v.ownBlock≠some b:=fun ho he=>Or.inr (Yp ho hb he)
 exact ⟨h.dt.kept g (n h.dt (by decide)),h.fr.kept g (n h.fr (by decide)),h.cl,fun k f v hf hv=>(h.each k f v hf hv).kept g (n (h.each k f v hf hv) (by decide)),h.dis⟩
theorem Zib (mem:Int) (dl:List Int) (fs:List FnP) (pd pF:Option Addr) (cd cF B:Nat) (w:World) (hB:B<=w.heap.size) (hF:Yl w B pF fs) (hD:Rd w pd (dl.map (Value.int .u8))) (hd:dl.length<=4194304) (hn:fs.length<=2097152) (hc:∀ f∈fs,f.2.2.2.length<=4194304) :
 Calls Try.prog 20 #[.agg #[.int .i64 mem,.slice pd dl.length cd,.slice pF fs.length cF]] w (Zsv w mem dl fs):=by
 obtain ⟨cv0,hold,hrd⟩:=Yul hF
 have T1:=Hq (Xc w (.cells #[.int .i64 mem,.slice pd dl.length cd,.slice pF fs.length cF] 25) (.cells #[.int .i64 0,.slice none 0 0,.slice none 0 0] 25))
 have T2:=Hq (Yr w (.cells #[.int .i64 mem,.slice pd dl.length cd,.slice pF fs.length cF] 25) (.cells #[.int .i64 0,.slice none 0 0,.slice none 0 0] 25))
 have G1:=Hq (Za (Ga w (.cells #[.int .i64 mem,.slice pd dl.length cd,.slice pF fs.length cF] 25) none) (Ga _ (.cells #[.int .i64 0,.slice none 0 0,.slice none 0 0] 25) none))
 have CB:=Hq (fun W (g:w.grownBy W none)=>Yku pd dl.length cd (dl.map (Value.int .u8)) W (by simp) (Ys hD g) (Zpx dl) hd)
 have CF:=Hq (fun W (g:w.grownBy W none)=>Ykt pF fs.length cF (Xn fs cv0) W (Zgq fs cv0 hold.1) (Ys hrd g) (Yjz (Yoi hold)) (by omega))
 have OL:=Hq hold
 have HC:=Hq hc
 have hni:(fs.length:Int)<=2097152:=by omega
 clear hold hrd hF hD hc
 go_enter Try.func20,Try.ntmps20
 go_wp2_with (first
  | (go_at_call 27;refine (CB.out _ G1.out).mono ?_;rintro e w2 ⟨v2,rfl,g2,o2⟩;obtain ⟨pD,cD,hv2⟩:=Zp o2;subst hv2;have X2:=Hq (Zb T1.out g2 (by simp));have Y2:=Hq (Zb T2.out g2 (by simp));have G2:=Hq (Za G1.out g2);have O2:=Hq o2;have k0:=Cq _ _ 0 _ _ _ X2.out;have k1:=Cq _ _ 1 _ _ _ X2.out;have k2:=Cq _ _ 2 _ _ _ X2.out;have z0:=frozen_of_row _ _ 0 _ _ X2.out;have z1:=frozen_of_row _ _ 1 _ _ X2.out;have z2:=frozen_of_row _ _ 2 _ _ X2.out;have q2:=(Gs X2.out);clear g2 o2))
 have X3:=Hq (show (w2.setCell ⟨w.heap.size,1,none⟩ (.slice pD dl.length cD)).heap[w.heap.size]? = some (.cells #[.int .i64 mem,.slice pD dl.length cD,.slice pF fs.length cF] 25 (0,0)) by rw [Zg X2.out];rfl)
 have Y3:=Hq (Zb Y2.out (Zh w2 w.heap.size 1 (.slice pD dl.length cD)) (by simp))
 have G3:=Hq (Zd (b:=w.heap.size) (o:=1) (v := .slice pD dl.length cD) G2.out (Nat.le_refl _))
 have O3:=Hq (Zdx (b:=w.heap.size) (o:=1) (u := .slice pD dl.length cD) O2.out (by simp;omega))
 clear k0 k1 k2 z0 z1 z2 q2
 generalize w2.setCell ⟨w.heap.size,1,none⟩ (.slice pD dl.length cD)=w3 at *
 refine (CF.out _ G3.out).mono ?_
 rintro e w4 ⟨v4,rfl,g4,o4⟩
 obtain ⟨pF4,cF4,hv4⟩:=Zp o4
 subst hv4
 have X4:=Hq (Zb X3.out g4 (by simp))
 have Y4:=Hq (Zb Y3.out g4 (by simp))
 have G4:=Hq (Za G3.out g4)
 have O4:=Hq o4
 have D4:=Hq (O3.out.kept g4 (Classical.em _))
 have k0:=Cq _ _ 0 _ _ _ X4.out
 have k1:=Cq _ _ 1 _ _ _ X4.out
 have k2:=Cq _ _ 2 _ _ _ X4.out
 have z0:=frozen_of_row _ _ 0 _ _ X4.out
 have z1:=frozen_of_row _ _ 1 _ _ X4.out
 have z2:=frozen_of_row _ _ 2 _ _ X4.out
 have q2:=(Gs X4.out)
 clear g4 o4
 go_wp2
 have hb3:w.heap.size<w3.heap.size:=(Gs X3.out)
 have X5:=Hq (show (w4.setCell ⟨w.heap.size,2,none⟩ (.slice pF4 fs.length cF4)).heap[w.heap.size]? = some (.cells #[.int .i64 mem,.slice pD dl.length cD,.slice pF4 fs.length cF4] 25 (0,0)) by rw [Zg X4.out];rfl)
 have Y5:=Hq (Zb Y4.out (Zh w4 w.heap.size 2 (.slice pF4 fs.length cF4)) (by simp))
 have G5:=Hq (Zd (b:=w.heap.size) (o:=2) (v := .slice pF4 fs.length cF4) G4.out (Nat.le_refl _))
 have O5:=Hq (Zdx (b:=w.heap.size) (o:=2) (u := .slice pF4 fs.length cF4) O4.out hb3)
 have D5:=Hq (Zdx (b:=w.heap.size) (o:=2) (u := .slice pF4 fs.length cF4) D4.out (by simp;omega))
 have TW:=Hq (show Xbl w (w4.setCell ⟨w.heap.size,2,none⟩ (.slice pF4 fs.length cF4)) w.heap.size w.heap.size 0 mem (.slice pD dl.length cD) (.slice pF4 fs.length cF4) dl fs cv0 cv0 from
  ⟨G5.out,X5.out,Zz D5.out (by simp;omega),Zz O5.out (by omega),OL.out.1,fun j _=>rfl,fun j f v hj=>absurd hj (Nat.not_lt_zero _),fun j l v v' b hj=>absurd hj (Nat.not_lt_zero _)⟩)
 clear k0 k1 k2 z0 z1 z2 q2 hb3
 generalize w4.setCell ⟨w.heap.size,2,none⟩ (.slice pF4 fs.length cF4)=w5 at *
 go_loopw [15] (fun i wr=>∃ (k:Nat) (cv:List Value),i = .int .i64 k/\k<=fs.length/\wr.heap[w.heap.size+1]? = some (.cells #[.int .i64 0,.slice none 0 0,.slice none 0 0] 25 (0,0))/\Xbl w wr w.heap.size w.heap.size k mem (.slice pD dl.length cD) (.slice pF4 fs.length cF4) dl fs cv0 cv) (fun i _=>fs.length - (intOf i).toNat)
 case atStart=>exact ⟨0,cv0,rfl,Nat.zero_le _,Y5.out,TW.out⟩
 case round =>
  obtain ⟨k,cv,rfl,hk,hg5,hT⟩:=hrel
  have HT:=Hq hT
  have HG:=Hq hg5
  clear hT hg5
  have y0:=Cq _ _ 0 _ _ _ HT.out.box
  have y1:=Cq _ _ 1 _ _ _ HT.out.box
  have y2:=Cq _ _ 2 _ _ _ HT.out.box
  have lb:=(Gs HT.out.box)
  by_cases hlt:(k:Int)<(fs.length:Int)
  · obtain ⟨f,hf⟩:∃ f,fs[k]? = some f:=⟨_,List.getElem?_eq_getElem (by omega)⟩
    obtain ⟨v,hv⟩:∃ v,cv[k]? = some v:=⟨_,List.getElem?_eq_getElem (by rw [HT.out.cl];omega)⟩
    have hv0:cv0[k]? = some v:=by rw [<- HT.out.old k (Nat.le_refl _)];exact hv
    obtain ⟨pc,cc,rfl,hcb⟩:=OL.out.2 k f v hf hv0
    obtain ⟨gF,cap,e,hgF,hcell⟩:=Zx HT.out.fr (by omega)
    injection e with e1 e2 e3
    subst e1;subst e3
    obtain ⟨-,-,-,q3⟩:=Jj fs cv k f _ hf hv
    have c3:=hcell _ _ q3 (by omega)
    have hfz:=Ye HT.out.fr (k*4+3)
    have CC:=Hq (fun W (g:w.grownBy W none)=>Yks pc f.2.2.2.length cc (Yc f.2.2.2) W (Xi _) (Ys (Zxk hcb) g) (Zbj _) (HC.out f (List.mem_of_getElem? hf)))
    have HF:=Hq hf
    clear hcell hf hv hv0 hcb q3
    generalize hnc:f.2.2.2.length=nc at *
    have HNC:=Hq hnc
    clear hnc
    go_wp2
    go_upto_region 6 with fail
    rename_i K hK
    refine Je (n:=13) (J:=fun a0 l a1 w1=>∃ pv cv9,RJ a0 32 13 tw6 (Zoc w.heap.size gF fs.length cF4 k nc cc pc pv cv9) l a1/\WY 9 12 13 [(1,0),(4,3),(6,4),(6,5),(7,6),(8,7),(9,8),(10,1),(10,2),(11,10),(12,11),(12,9)] (wr.drew) (fun W'=>W'.cell? ⟨w.heap.size,2,none⟩=some (.slice (some ⟨gF,0,none⟩) fs.length cF4)/\W'.cell? ⟨gF,k*4+3,none⟩=some (.slice pc nc cc)/\w.heap.size<W'.heap.size/\gF<W'.heap.size) (fun W'=>wr.grownBy W' none/\W'.ownsRow wr.heap.size 49 2 (.slice pv nc cv9) nc (Yc f.2.2.2)/\W'.frozen? ⟨gF,k*4+3,none⟩=false) (fun W'=>∃ w6:World,W'=w6.setCell ⟨gF,k*4+3,none⟩ (.slice pv nc cv9)/\wr.grownBy w6 none/\w6.ownsRow wr.heap.size 49 2 (.slice pv nc cv9) nc (Yc f.2.2.2)) l w1) (by kernel_rfl) rfl (Zai (by kernel_rfl)) (fun l a1 w1 h=>by obtain ⟨_,_,_,h⟩:=h;exact h.sz) ⟨none,0,Jd rfl,Zld (⟨y2,c3,lb,hgF⟩)⟩ ?step ?fin
    case step =>
     intro l a1 w' i hJJ hi hin
     obtain ⟨pv,cv9,hJ,hW⟩:=hJJ
     have hun:l.getD i false=false:=getD_both (mem_ready.1 hi).1
     have hns:=Ybp hW hin hun
     have hb:=hW.b hns
     rcases Yew i hin with rfl|rfl|rfl|rfl|rfl|rfl|rfl|rfl|rfl|rfl|rfl|rfl|rfl
     · have e1:a1.tmps.getD 1 undef = .pointer (some ⟨w.heap.size,0,none⟩):=hJ.un 1 (fun i hi _=>Zqi 1 (by decide) i hi)
       exact Zj (Zo hW hJ rfl (by rfl) rfl (by decide) (by decide) (Zee _ (by decide)) (w':=w') (by simp [execOp,resolve,invoke,builtin,Act.eval,e1,hlt,hb.2.2.1,hb.2.2.2,go_sem,Zoc]) (Yi hW (by decide) hun (by decide) (by decide) (Zr _ hi (by kernel_rfl)))) (fun a9 w9 h9=>⟨pv,cv9,h9⟩)
     · have e18:a1.tmps.getD 18 undef = .pointer (some ⟨w.heap.size,2,none⟩):=(Zu hJ hi 0 (by kernel_rfl))
       have h0:=hb.1
       exact Zj (Zo hW hJ rfl (by rfl) rfl (by decide) (by decide) (Zee _ (by decide)) (w':=w') (by simp [execOp,resolve,invoke,builtin,Act.eval,e18,h0,hlt,hb.2.2.1,hb.2.2.2,go_sem,Zoc]) (Yi hW (by decide) hun (by decide) (by decide) (Zr _ hi (by kernel_rfl)))) (fun a9 w9 h9=>⟨pv,cv9,h9⟩)
     · have e3:a1.tmps.getD 3 undef = .int .i64 k:=hJ.un 3 (fun i hi _=>Zqi 3 (by decide) i hi)
       exact Zj (Zo hW hJ rfl (by rfl) rfl (by decide) (by decide) (Zee _ (by decide)) (w':=w') (by simp [execOp,resolve,invoke,builtin,Act.eval,e3,hlt,hb.2.2.1,hb.2.2.2,go_sem,Zoc]) (Yi hW (by decide) hun (by decide) (by decide) (Zr _ hi (by kernel_rfl)))) (fun a9 w9 h9=>⟨pv,cv9,h9⟩)
     · have e1:a1.tmps.getD 1 undef = .pointer (some ⟨w.heap.size,0,none⟩):=hJ.un 1 (fun i hi _=>Zqi 1 (by decide) i hi)
       exact Zj (Zo hW hJ rfl (by rfl) rfl (by decide) (by decide) (Zee _ (by decide)) (w':=w') (by simp [execOp,resolve,invoke,builtin,Act.eval,e1,hlt,hb.2.2.1,hb.2.2.2,go_sem,Zoc]) (Yi hW (by decide) hun (by decide) (by decide) (Zr _ hi (by kernel_rfl)))) (fun a9 w9 h9=>⟨pv,cv9,h9⟩)
     · have e21:a1.tmps.getD 21 undef = .pointer (some ⟨w.heap.size,2,none⟩):=(Zu hJ hi 3 (by kernel_rfl))
       have h0:=hb.1
       exact Zj (Zo hW hJ rfl (by rfl) rfl (by decide) (by decide) (Zee _ (by decide)) (w':=w') (by simp [execOp,resolve,invoke,builtin,Act.eval,e21,h0,hlt,hb.2.2.1,hb.2.2.2,go_sem,Zoc]) (Yi hW (by decide) hun (by decide) (by decide) (Zr _ hi (by kernel_rfl)))) (fun a9 w9 h9=>⟨pv,cv9,h9⟩)
     · have e3:a1.tmps.getD 3 undef = .int .i64 k:=hJ.un 3 (fun i hi _=>Zqi 3 (by decide) i hi)
       exact Zj (Zo hW hJ rfl (by rfl) rfl (by decide) (by decide) (Zee _ (by decide)) (w':=w') (by simp [execOp,resolve,invoke,builtin,Act.eval,e3,hlt,hb.2.2.1,hb.2.2.2,go_sem,Zoc]) (Yi hW (by decide) hun (by decide) (by decide) (Zr _ hi (by kernel_rfl)))) (fun a9 w9 h9=>⟨pv,cv9,h9⟩)
     · have e22:a1.tmps.getD 22 undef = .slice (some ⟨gF,0,none⟩) fs.length cF4:=(Zu hJ hi 4 (by kernel_rfl))
       have e23:a1.tmps.getD 23 undef = .int .i64 k:=(Zu hJ hi 5 (by kernel_rfl))
       exact Zj (Zo hW hJ rfl (by rfl) rfl (by decide) (by decide) (Zee _ (by decide)) (w':=w') (by first|(simp [execOp,resolve,invoke,builtin,Act.eval,e22,e23,hlt,hb.2.2.1,hb.2.2.2,go_sem,Zoc];done)|(simp [execOp,resolve,invoke,builtin,Act.eval,e22,e23,hlt,hb.2.2.1,hb.2.2.2,go_sem,Zoc];omega)|(simp [execOp,resolve,invoke,builtin,Act.eval,e22,e23,hlt,hb.2.2.1,hb.2.2.2,go_sem,Zoc];intro h;omega)|(simp [execOp,resolve,invoke,builtin,Act.eval,e22,e23,hlt,hb.2.2.1,hb.2.2.2,go_sem,Zoc];intros;omega)) (Yi hW (by decide) hun (by decide) (by decide) (Zr _ hi (by kernel_rfl)))) (fun a9 w9 h9=>⟨pv,cv9,h9⟩)
     · have e24:a1.tmps.getD 24 undef = .pointer (some ⟨gF,k*4,none⟩):=(Zu hJ hi 6 (by kernel_rfl))
       exact Zj (Zo hW hJ rfl (by rfl) rfl (by decide) (by decide) (Zee _ (by decide)) (w':=w') (by simp [execOp,resolve,invoke,builtin,Act.eval,e24,hlt,hb.2.2.1,hb.2.2.2,go_sem,Zoc]) (Yi hW (by decide) hun (by decide) (by decide) (Zr _ hi (by kernel_rfl)))) (fun a9 w9 h9=>⟨pv,cv9,h9⟩)
     · have e25:a1.tmps.getD 25 undef = .pointer (some ⟨gF,k*4+3,none⟩):=(Zu hJ hi 7 (by kernel_rfl))
       have h0:=hb.2.1
       exact Zj (Zo hW hJ rfl (by rfl) rfl (by decide) (by decide) (Zee _ (by decide)) (w':=w') (by simp [execOp,resolve,invoke,builtin,Act.eval,e25,h0,hlt,hb.2.2.1,hb.2.2.2,go_sem,Zoc]) (Yi hW (by decide) hun (by decide) (by decide) (Zr _ hi (by kernel_rfl)))) (fun a9 w9 h9=>⟨pv,cv9,h9⟩)
     · have e26:a1.tmps.getD 26 undef = .slice pc nc cc:=(Zu hJ hi 8 (by kernel_rfl))
       have hw0:=hW.h0 hun
       subst hw0
       refine Jb rfl (by rfl) (by simp [execOp,resolve,invoke,Act.eval,e26,go_sem]) (Calls.mono (CC.out wr.drew (Ze HT.out.g)) (fun e w2 he => ?_))
       obtain ⟨v6,rfl,g6,o6⟩:=he
       obtain ⟨pv2,cv92,hv6⟩:=Zp o6
       subst hv6
       have g7:wr.grownBy w2 none:=Za (Ze (Zc wr none)) g6
       refine ⟨_,rfl,pv2,cv92,?_,Zqb hW (by decide) hun (by decide) (Zr _ hi (by kernel_rfl)) (⟨g6.cell hb.1 (by simp),g6.cell hb.2.1 (by simp),Nat.lt_of_lt_of_le hb.2.2.1 g6.size,Nat.lt_of_lt_of_le hb.2.2.2 g6.size⟩) (⟨g7,o6,Ye (HT.out.fr.kept g7 (Classical.em _)) (k*4+3)⟩)⟩
       exact Zch (val:=Zoc w.heap.size gF fs.length cF4 k nc cc pc pv2 cv92) (Zbe hJ (Yxv l hun)) (by decide) (by decide) (Zee _ (by decide))
     · have e19:a1.tmps.getD 19 undef = .slice (some ⟨gF,0,none⟩) fs.length cF4:=(Zu hJ hi 1 (by kernel_rfl))
       have e20:a1.tmps.getD 20 undef = .int .i64 k:=(Zu hJ hi 2 (by kernel_rfl))
       exact Zj (Zo hW hJ rfl (by rfl) rfl (by decide) (by decide) (Zee _ (by decide)) (w':=w') (by first|(simp [execOp,resolve,invoke,builtin,Act.eval,e19,e20,hlt,hb.2.2.1,hb.2.2.2,go_sem,Zoc];done)|(simp [execOp,resolve,invoke,builtin,Act.eval,e19,e20,hlt,hb.2.2.1,hb.2.2.2,go_sem,Zoc];omega)|(simp [execOp,resolve,invoke,builtin,Act.eval,e19,e20,hlt,hb.2.2.1,hb.2.2.2,go_sem,Zoc];intro h;omega)|(simp [execOp,resolve,invoke,builtin,Act.eval,e19,e20,hlt,hb.2.2.1,hb.2.2.2,go_sem,Zoc];intros;omega)) (Yi hW (by decide) hun (by decide) (by decide) (Zr _ hi (by kernel_rfl)))) (fun a9 w9 h9=>⟨pv,cv9,h9⟩)
     · have e28:a1.tmps.getD 28 undef = .pointer (some ⟨gF,k*4,none⟩):=(Zu hJ hi 10 (by kernel_rfl))
       exact Zj (Zo hW hJ rfl (by rfl) rfl (by decide) (by decide) (Zee _ (by decide)) (w':=w') (by simp [execOp,resolve,invoke,builtin,Act.eval,e28,hlt,hb.2.2.1,hb.2.2.2,go_sem,Zoc]) (Yi hW (by decide) hun (by decide) (by decide) (Zr _ hi (by kernel_rfl)))) (fun a9 w9 h9=>⟨pv,cv9,h9⟩)
     · have e29:a1.tmps.getD 29 undef = .pointer (some ⟨gF,k*4+3,none⟩):=(Zu hJ hi 11 (by kernel_rfl))
       have e27:a1.tmps.getD 27 undef = .slice pv nc cv9:=(Zu hJ hi 9 (by kernel_rfl))
       have hpw:=hW.h1 (Zl hi 9 (by kernel_rfl)) hun
       have hfz9:=hpw.2.2
       have hc9:=hb.2.1
       exact Zj (Zdn hW hJ rfl rfl rfl (by decide) (by decide) (w':=w'.setCell ⟨gF,k*4+3,none⟩ (.slice pv nc cv9)) (by simp [execOp,Act.eval,e29,e27,hfz9,hc9,go_sem]) (Zlc hW (by decide) (by decide) (by decide) (fun j hj hne=>by
        rcases Yew j hj with rfl|rfl|rfl|rfl|rfl|rfl|rfl|rfl|rfl|rfl|rfl|rfl|rfl
        · exact hW.cl (1,0) (by decide) (hW.cl (10,1) (by decide) (hW.cl (11,10) (by decide) (Zl hi 11 (by kernel_rfl))))
        · exact hW.cl (10,1) (by decide) (hW.cl (11,10) (by decide) (Zl hi 11 (by kernel_rfl)))
        · exact hW.cl (10,2) (by decide) (hW.cl (11,10) (by decide) (Zl hi 11 (by kernel_rfl)))
        · exact hW.cl (4,3) (by decide) (hW.cl (6,4) (by decide) (hW.cl (7,6) (by decide) (hW.cl (8,7) (by decide) (hW.cl (9,8) (by decide) (Zl hi 9 (by kernel_rfl))))))
        · exact hW.cl (6,4) (by decide) (hW.cl (7,6) (by decide) (hW.cl (8,7) (by decide) (hW.cl (9,8) (by decide) (Zl hi 9 (by kernel_rfl)))))
        · exact hW.cl (6,5) (by decide) (hW.cl (7,6) (by decide) (hW.cl (8,7) (by decide) (hW.cl (9,8) (by decide) (Zl hi 9 (by kernel_rfl)))))
        · exact hW.cl (7,6) (by decide) (hW.cl (8,7) (by decide) (hW.cl (9,8) (by decide) (Zl hi 9 (by kernel_rfl))))
        · exact hW.cl (8,7) (by decide) (hW.cl (9,8) (by decide) (Zl hi 9 (by kernel_rfl)))
        · exact hW.cl (9,8) (by decide) (Zl hi 9 (by kernel_rfl))
        · exact Zl hi 9 (by kernel_rfl)
        · exact hW.cl (11,10) (by decide) (Zl hi 11 (by kernel_rfl))
        · exact Zl hi 11 (by kernel_rfl)
        · exact absurd rfl hne) (Zr _ hi (by kernel_rfl)) (⟨w',rfl,hpw.1,hpw.2.1⟩))) (fun a9 w9 h9=>⟨pv,cv9,h9⟩)
    intro l a1 w9 hJJ hl
    obtain ⟨pv,cv9,hJ,hW⟩:=hJJ
    obtain ⟨w6,rfl,g6,o6⟩:=hW.h2 (hl 12 (by decide))
    have hput:=Zag hJ rfl hl (fun i j h1 h2 h3=>Zee j h2 i h1 h3)
    subst hput
    have TN:=Hq (Yss HT.out HF.out (Nat.le_refl _) HT.out.g.size g6 (by rw [HNC.out];exact o6))
    have YN:=Hq (Zb (Zb HG.out g6 (by simp)) (Zh w6 gF (k*4+3) (.slice pv nc cv9)) (by intro e;exact Yp HT.out.fr HG.out (by decide) e))
    clear hJ hW hl g6 o6
    refine hK _ _ ?_
    simp only [Zay,tw6,Zoc,Act.put,List.setIfInBounds_toArray,List.set_cons_zero,List.set_cons_succ]
    clear hK K
    go_wp2
    go_roundw
    case rel=>exact ⟨k+1,_,by go_num,by omega,YN.out,TN.out⟩
    case measure=>simp [intOf];omega
  · have hkn:k=fs.length:=by omega
    subst hkn
    have b0:=Cq _ _ 0 _ _ _ HG.out
    have b1:=Cq _ _ 1 _ _ _ HG.out
    have b2:=Cq _ _ 2 _ _ _ HG.out
    have z0:=frozen_of_row _ _ 0 _ _ HG.out
    have z1:=frozen_of_row _ _ 1 _ _ HG.out
    have z2:=frozen_of_row _ _ 2 _ _ HG.out
    have lb2:=(Gs HG.out)
    have OO:=Hq (Yst HT.out)
    have GG:=Hq HT.out.g
    go_wp2
    refine bodyPost_ret (v := .agg #[.int .i64 mem,.slice pD dl.length cD,.slice pF4 fs.length cF4]) ?_ rfl ⟨_,_,cv,rfl,Zd (Zd (Zd GG.out (by omega)) (by omega)) (by omega),?_⟩
    · rw [Yq rfl]
      go_simp
    · have hb:=HG.out
      have ns:=Jh (D := .slice pD dl.length cD) (F := .slice pF4 fs.length cF4) (mem:=mem) OO.out hb
      exact ns
def Xk {α:Type} (l:List α) (b:Nat->Bool) (k:Nat):List α:=(List.range k).filterMap fun i=>if b i=true then l[i]? else none
theorem Jy {α:Type} (l:List α) (b:Nat->Bool) (k:Nat) (x:α) (h:l[k]? = some x):Xk l b (k+1)=Xk l b k++if b k=true then [x] else []:=by
 unfold Xk
 rw [List.range_succ,List.filterMap_append]
 congr 1
 cases hb:b k <;> simp [hb,h]
theorem Yk {α:Type} (l:List α) (b:Nat->Bool):∀ k,k<=l.length->(Xk l b k).length=Yn b k
 | 0,_=>by simp [Xk,Yn]
 | k+1,h=>by
   obtain ⟨x,hx⟩:∃ x,l[k]? = some x:=⟨_,List.getElem?_eq_getElem (by omega)⟩
   rw [Jy l b k x hx,List.length_append,Yk l b k (by omega),Yn]
   cases b k <;> simp
theorem Zdm (b:Nat->Bool):∀ k,Yn b k<=k
 | 0=>Nat.le_refl _
 | k+1=>by
   have:=Zdm b k
   unfold Yn
   split <;> omega
def Zbg (b:Nat->Bool) (n k:Nat):List Int:=(List.range n).map fun j=>if j<k then (Yn b j:Int) else 0
theorem Zmv (b:Nat->Bool) (n k:Nat):(Zbg b n k).length=n:=by simp [Zbg]
theorem Ziu (b:Nat->Bool) (n k:Nat) (h:k<n):((Zbg b n k).map (Value.int .i64)).set k (.int .i64 (Yn b k))=(Zbg b n (k+1)).map (Value.int .i64):=by
 apply List.ext_getElem?
 intro j
 by_cases e:j=k
 · subst e
   rw [List.getElem?_set_self (by simp [Zmv];exact h)]
   simp [Zbg,h]
 · rw [List.getElem?_set_ne (Ne.symm e)]
   by_cases hj:j<n
   · simp only [Zbg,List.map_map,List.getElem?_map,List.getElem?_range,hj,if_true]
     simp only [Option.map_some,Function.comp]
     by_cases h1:j<k
     · rw [if_pos h1,if_pos (by omega)]
     · rw [if_neg h1,if_neg (by omega)]
   · simp [Zbg,hj]
theorem Ziv (b:Nat->Bool) (n k:Nat) (h:k<n):((Zbg b n k).map (Value.int .i64))[k]? = some (.int .i64 0):=by simp [Zbg,h]
theorem Zpg (b:Nat->Bool) (n:Nat):(Zbg b n 0).map (Value.int .i64)=List.replicate n (.int .i64 0):=by
 apply List.ext_getElem?
 intro j
 by_cases hj:j<n
 · simp [Zbg,hj]
 · simp [Zbg,hj]
abbrev FnQ:=Int × Int × Int × Value
def Zkd:List FnQ->List Value
 | []=>[]
 | x::r => .int .i64 x.1 :: .int .i64 x.2.1 :: .int .i64 x.2.2.1::x.2.2.2::Zkd r
theorem Zks:∀ (l r:List FnQ),Zkd (l++r)=Zkd l++Zkd r
 | [],r=>rfl
 | x::l,r=>by simp [Zkd,Zks l r]
theorem Zpq (a l r:Int) (p:Option Addr) (n k:Nat):∀ u∈[Value.int .i64 a,Value.int .i64 l,Value.int .i64 r,Value.slice p n k],u.oneCell'=true:=by
 intro u hu;simp at hu;rcases hu with rfl|rfl|rfl|rfl <;> rfl
theorem Zni (w:World) (x y z v:Value) (t:TypeId):∀ j u,[x,y,z,v][j]? = some u->(w.alloc (.cells #[x,y,z,v] t)).cell? ((⟨w.heap.size,0,none⟩:Addr).add j)=some u:=by
 intro j u hj
 match j,hj with
 | 0,hj=>simp at hj;subst hj;simp [Addr.add]
 | 1,hj=>simp at hj;subst hj;simp [Addr.add]
 | 2,hj=>simp at hj;subst hj;simp [Addr.add]
 | 3,hj=>simp at hj;subst hj;simp [Addr.add]
def Yqs (w:World) (p:Option Addr) (l:List FnQ):Prop:=∀ (i:Nat) (x:FnQ),l[i]? = some x->∃ b o:Nat,p=some ⟨b,o,none⟩/\b<w.heap.size/\w.cell? ⟨b,o+i*4,none⟩=some (.int .i64 x.1)/\w.cell? ⟨b,o+i*4+1,none⟩=some (.int .i64 x.2.1)/\w.cell? ⟨b,o+i*4+2,none⟩=some (.int .i64 x.2.2.1)/\w.cell? ⟨b,o+i*4+3,none⟩=some x.2.2.2/\∃ (q:Option Addr) (n k:Nat),x.2.2.2 = .slice q n k
def Xbr (w:World) (p:Option Addr) (l:List Ins):Prop:=∀ (i:Nat) (x:Ins),l[i]? = some x->∃ b o:Nat,p=some ⟨b,o,none⟩/\b<w.heap.size/\w.cell? ⟨b,o+i*2,none⟩=some (.int .i64 x.1)/\w.cell? ⟨b,o+i*2+1,none⟩=some (.int .i64 x.2)
theorem Znf {w:World} {B:Nat} {p:Option Addr} {c:List Ins} (h:Xz w B p c) (hB:B<=w.heap.size):Xbr w p c:=fun i x hi=>by
 obtain ⟨b,o,e,hb,hc⟩:=h (by have:=(List.getElem?_eq_some_iff.1 hi).1;omega)
 obtain ⟨h0,h1⟩:=hc i x.1 x.2 hi
 exact ⟨b,o,e,by omega,h0,h1⟩
theorem Zes {w w':World} {p:Option Addr} {c:List Ins} (h:Xbr w p c) (g:w.grownBy w' none):Xbr w' p c:=fun i x hi=>by
 obtain ⟨b,o,e,hb,h0,h1⟩:=h i x hi
 exact ⟨b,o,e,Nat.lt_of_lt_of_le hb g.size,g.cell h0 (by simp),g.cell h1 (by simp)⟩
theorem Ydh {w w':World} {p:Option Addr} {l:List FnQ} (h:Yqs w p l) (g:w.grownBy w' none):Yqs w' p l:=fun i x hi=>by
 obtain ⟨b,o,e,hb,h0,h1,h2,h3,h4⟩:=h i x hi
 exact ⟨b,o,e,Nat.lt_of_lt_of_le hb g.size,g.cell h0 (by simp),g.cell h1 (by simp),g.cell h2 (by simp),g.cell h3 (by simp),h4⟩
def Ybo (E:TypeId) (size:Nat) (w:World) (m n:Nat) (xs:List Value) (b:Nat->Bool) (e:Ending) (w':World):Prop :=
 ∃ vo vn,e = .returned (.tuple #[vo,vn])/\w.grownBy w' none/\w'.ownsRow w.heap.size E size vo m xs/\w'.ownsRow w.heap.size 3 1 vn (n+1) ((Zbg b (n+1) (n+1)).map (Value.int .i64))
theorem Ypk (l:List Ins) (p:Option Addr) (cap:Nat) (b:Nat->Bool) (w:World) (hl:l.length<=4096) (hC:Xbr w p l) (pa pb:Addr)
 (hS:∀ W,w.grownBy W none->∀ i:Nat,i<l.length->Calls Try.prog 48 #[.int .i64 i,.pointer (some pa),.pointer (some pb)] W fun e W'=>e = .returned (.bool (b i))/\W=W') :
 Calls Try.prog 47 #[.slice p l.length cap,.func (.func 48) #[] #[.pointer (some pa),.pointer (some pb)]] w (Ybo 49 2 w (Xk l b l.length).length l.length (Yc (Xk l b l.length)) b):=by
 obtain ⟨ii,ii0,ii1,ii2,ii3⟩:=info_parts Zao
 obtain ⟨bi,bi0,bi1,bi2,bi3⟩:=info_parts Zjb
 have hni:(l.length:Int)<=4096:=by omega
 have hk1:ii.bytes*(l.length+1)<=281474976710656:=by rw [ii3];omega
 have hk3:l.length+1<=maxLen:=by unfold maxLen;omega
 have hw1:IntKind.i64.wrap ((l.length:Int)+1)=(l.length:Int)+1:=IntWalk.i64_in _ (by omega)
 have CQ:=Hq hC
 have SS:=Hq hS
 clear hC hS
 go_enter Try.func47,Try.ntmps47
 go_wp2_with (refine wpList_make_full _ rfl _ _ 32 rfl w.heap.size 3 ii (.int .i64 0) 1 Zbv ii0 ii1 ii2 .i64 .i64 _ _ (l.length+1) rfl rfl rfl rfl hk1 hk3 (Nat.le_refl _) ?_;intro w2 hr2 hg2;have R2:=Hq hr2;have G2:=Hq hg2;clear hr2 hg2)
 have RZ:=Hq (show w2.ownsRow w.heap.size 3 1 (.slice (some ⟨w.heap.size,0,none⟩) (l.length+1) (l.length+1)) (l.length+1) ((Zbg b (l.length+1) 0).map (Value.int .i64)) by
  have:=R2.out
  rw [show (madeCells (Value.int .i64 0).cells ((l.length+1)*1)).toList=(Zbg b (l.length+1) 0).map (Value.int .i64) by rw [Zpg,Nat.mul_one];exact toList_madeCells_one _ _] at this
  exact this)
 clear R2
 go_loopw [6,16] (fun o i wr=>∃ k:Nat,i = .int .i64 k/\k<=l.length/\w.grownBy wr none/\wr.ownsRow w.heap.size 49 2 o (Yn b k) (Yc (Xk l b k))/\wr.ownsRow w.heap.size 3 1 (.slice (some ⟨w.heap.size,0,none⟩) (l.length+1) (l.length+1)) (l.length+1) ((Zbg b (l.length+1) k).map (Value.int .i64))) (fun _ i _=>l.length - (intOf i).toNat)
 case atStart=>exact ⟨0,rfl,Nat.zero_le _,G2.out,World.ownsRow_nil _ _ _ _,RZ.out⟩
 case round =>
  obtain ⟨k,rfl,hk,hg,ho,hr⟩:=hrel
  obtain ⟨po,ko,rfl⟩:=Zp ho
  have HG:=Hq hg
  have HO:=Hq ho
  have HR:=Hq hr
  have lN:=(hr.lt w.heap.size rfl).2
  have hst:=Zdm b k
  by_cases hlt:(k:Int)<(l.length:Int)
  · have hk2:k<l.length:=by omega
    obtain ⟨⟨x0,x1⟩,hx⟩:∃ x,l[k]? = some x:=⟨_,List.getElem?_eq_getElem hk2⟩
    obtain ⟨b1,o1,rfl,hb1,cA,cB⟩:=Zes CQ.out hg k _ hx
    simp only [] at cA cB
    obtain ⟨gN,cN,eN,-,hcN⟩:=Zx hr (by omega)
    injection eN with e1 e2 e3
    injection e1 with e1;injection e1 with e1 _ _;subst e1
    have cN:=hcN k _ (Ziv b _ k (by omega)) (by omega)
    have zN:=Ye hr k
    have hx':=Hq hx
    have KS:=Hq (Jy l b k _ hx)
    have hq1:(k:Int)<(l.length:Int)+1:=by omega
    clear hg ho hr hcN e2 e3 hx
    go_wp2_with fail
    have XB:=Hq (show ((wr.setCell ⟨w.heap.size,k,none⟩ (.int .i64 (Yn b k))).alloc (.cells #[.int .i64 x0,.int .i64 x1] 49)).heap[wr.heap.size]? = some (.cells #[.int .i64 x0,.int .i64 x1] 49 (0,0)) by
     have:=heap_alloc_new (wr.setCell ⟨w.heap.size,k,none⟩ (.int .i64 (Yn b k))) (.cells #[.int .i64 x0,.int .i64 x1] 49)
     rw [World.size_setCell] at this
     exact this)
    have GA:=Hq (Za (Zd (b:=w.heap.size) (o:=k) (v := .int .i64 (Yn b k)) HG.out (Nat.le_refl _)) (Ga _ (.cells #[.int .i64 x0,.int .i64 x1] 49) none))
    have O1:=Hq (((HO.out.kept (Zh wr w.heap.size k (.int .i64 (Yn b k))) (Xq HO.out HR.out (by decide))).alloc (.cells #[.int .i64 x0,.int .i64 x1] 49)))
    have R1:=Hq (show ((wr.setCell ⟨w.heap.size,k,none⟩ (.int .i64 (Yn b k))).alloc (.cells #[.int .i64 x0,.int .i64 x1] 49)).ownsRow w.heap.size 3 1 (.slice (some ⟨w.heap.size,0,none⟩) (l.length+1) (l.length+1)) (l.length+1) ((Zbg b (l.length+1) (k+1)).map (Value.int .i64)) by
     have:=(HR.out.stored k (.int .i64 (Yn b k))).1.alloc (.cells #[.int .i64 x0,.int .i64 x1] 49)
     rw [Ziu b _ k (by omega)] at this
     exact this)
    generalize (wr.setCell ⟨w.heap.size,k,none⟩ (.int .i64 (Yn b k))).alloc (.cells #[.int .i64 x0,.int .i64 x1] 49)=W4 at *
    refine (SS.out W4 GA.out k hk2).mono ?_
    rintro e w5 ⟨rfl,rfl⟩
    have l4:=(Gs XB.out)
    have cA4:=Cq _ _ 0 _ _ _ XB.out
    have cB4:=Cq _ _ 1 _ _ _ XB.out
    have ST:=Hq (show Yn b (k+1)=Yn b k+if b k=true then 1 else 0 from rfl)
    have hc3:Yn b k+1<=maxLen:=by unfold maxLen;omega
    have hc4:(Yn b k+1)*16<=140737488355328:=by omega
    have hbl:=(R1.out.lt w.heap.size rfl).2
    clear cN zN cA cB
    cases hb:b k with
    | true =>
      rw [hb] at KS ST
      go_wp2_with (at_builtin;refine wpList_append_own_at _ rfl _ _ 50 rfl w.heap.size 49 bi (.agg #[.int .i64 0,.int .i64 0]) 2 16 Zbw bi0 bi1 bi2 bi3 rfl (by decide) (.slice po (Yn b k) ko) _ _ rfl (O1.out.alloc _) ⟨W4.heap.size,0,none⟩ 1 1 [.int .i64 x0,.int .i64 x1] rfl rfl (Zwv W4 _ _ _) (Zqf _ _ _) hc3 hc4 (by simp;omega) ?_;intro v9 w9 hown9 hgr9 hnil9 hat9;obtain ⟨p9,k9,hv9⟩:=Zp hown9;subst hv9;have O9:=Hq hown9;have G9:=Hq hgr9;clear hown9 hgr9 hnil9 hat9)
      go_roundw
      case rel =>
       refine ⟨k+1,by go_num,by omega,Yw (Za GA.out (Ga _ _ _)) G9.out (fun q hq=>(O1.out.lt q hq).1),?_,(R1.out.alloc _).kept G9.out (Xq R1.out O1.out (by decide))⟩
       have h9:=O9.out
       rw [KS.out,ST.out]
       simp only [if_true,Jv,Yc]
       exact h9
      case measure=>simp [intOf];omega
    | false =>
      rw [hb] at KS ST
      go_wp2
      go_roundw
      case rel =>
       refine ⟨k+1,by go_num,by omega,GA.out,?_,R1.out⟩
       have h9:=O1.out
       rw [KS.out,ST.out]
       simpa using h9
      case measure=>simp [intOf];omega
  · have hkn:k=l.length:=by omega
    subst hkn
    obtain ⟨gN,cN,eN,-,hcN⟩:=Zx hr (by omega)
    injection eN with e1 e2 e3
    injection e1 with e1;injection e1 with e1 _ _;subst e1
    have cN:=hcN l.length _ (Ziv b _ l.length (by omega)) (by omega)
    have zN:=Ye hr l.length
    have hq1:(l.length:Int)<(l.length:Int)+1:=by omega
    clear hg ho hr hcN e2 e3
    go_wp2
    go_ret2
    refine ⟨_,_,rfl,Zd HG.out (Nat.le_refl _),?_,?_⟩
    · have:=HO.out.kept (Zh wr w.heap.size l.length (.int .i64 (Yn b l.length))) (Xq HO.out HR.out (by decide))
      rw [<- Yk l b l.length (Nat.le_refl _)] at this
      rw [Yk l b l.length (Nat.le_refl _)]
      rw [Yk l b l.length (Nat.le_refl _)] at this
      exact this
    · have:=(HR.out.stored l.length (.int .i64 (Yn b l.length))).1
      rw [Ziu b _ l.length (by omega)] at this
      exact this
theorem Ypl (l:List FnQ) (p:Option Addr) (cap:Nat) (b:Nat->Bool) (w:World) (hl:l.length<=4096) (hC:Yqs w p l) (pa:Addr)
 (hS:∀ W,w.grownBy W none->∀ i:Nat,i<l.length->Calls Try.prog 51 #[.int .i64 i,.pointer (some pa)] W fun e W'=>e = .returned (.bool (b i))/\W=W') :
 Calls Try.prog 50 #[.slice p l.length cap,.func (.func 51) #[] #[.pointer (some pa)]] w (Ybo 52 4 w (Xk l b l.length).length l.length (Zkd (Xk l b l.length)) b):=by
 obtain ⟨ii,ii0,ii1,ii2,ii3⟩:=info_parts Zao
 obtain ⟨bi,bi0,bi1,bi2,bi3⟩:=info_parts Zlr
 have hni:(l.length:Int)<=4096:=by omega
 have hk1:ii.bytes*(l.length+1)<=281474976710656:=by rw [ii3];omega
 have hk3:l.length+1<=maxLen:=by unfold maxLen;omega
 have hw1:IntKind.i64.wrap ((l.length:Int)+1)=(l.length:Int)+1:=IntWalk.i64_in _ (by omega)
 have CQ:=Hq hC
 have SS:=Hq hS
 clear hC hS
 go_enter Try.func50,Try.ntmps50
 go_wp2_with (refine wpList_make_full _ rfl _ _ 32 rfl w.heap.size 3 ii (.int .i64 0) 1 Zbv ii0 ii1 ii2 .i64 .i64 _ _ (l.length+1) rfl rfl rfl rfl hk1 hk3 (Nat.le_refl _) ?_;intro w2 hr2 hg2;have R2:=Hq hr2;have G2:=Hq hg2;clear hr2 hg2)
 have RZ:=Hq (show w2.ownsRow w.heap.size 3 1 (.slice (some ⟨w.heap.size,0,none⟩) (l.length+1) (l.length+1)) (l.length+1) ((Zbg b (l.length+1) 0).map (Value.int .i64)) by
  have:=R2.out
  rw [show (madeCells (Value.int .i64 0).cells ((l.length+1)*1)).toList=(Zbg b (l.length+1) 0).map (Value.int .i64) by rw [Zpg,Nat.mul_one];exact toList_madeCells_one _ _] at this
  exact this)
 clear R2
 go_loopw [6,16] (fun o i wr=>∃ k:Nat,i = .int .i64 k/\k<=l.length/\w.grownBy wr none/\wr.ownsRow w.heap.size 52 4 o (Yn b k) (Zkd (Xk l b k))/\wr.ownsRow w.heap.size 3 1 (.slice (some ⟨w.heap.size,0,none⟩) (l.length+1) (l.length+1)) (l.length+1) ((Zbg b (l.length+1) k).map (Value.int .i64))) (fun _ i _=>l.length - (intOf i).toNat)
 case atStart=>exact ⟨0,rfl,Nat.zero_le _,G2.out,World.ownsRow_nil _ _ _ _,RZ.out⟩
 case round =>
  obtain ⟨k,rfl,hk,hg,ho,hr⟩:=hrel
  obtain ⟨po,ko,rfl⟩:=Zp ho
  have HG:=Hq hg
  have HO:=Hq ho
  have HR:=Hq hr
  have lN:=(hr.lt w.heap.size rfl).2
  have hst:=Zdm b k
  by_cases hlt:(k:Int)<(l.length:Int)
  · have hk2:k<l.length:=by omega
    obtain ⟨⟨x0,x1,x2,xv⟩,hx⟩:∃ x,l[k]? = some x:=⟨_,List.getElem?_eq_getElem hk2⟩
    obtain ⟨b1,o1,rfl,hb1,cA,cB,cC,cD,xq,xn,xk,xe⟩:=Ydh CQ.out hg k _ hx
    simp only [] at cA cB cC cD xe;subst xe
    obtain ⟨gN,cN,eN,-,hcN⟩:=Zx hr (by omega)
    injection eN with e1 e2 e3
    injection e1 with e1;injection e1 with e1 _ _;subst e1
    have cN:=hcN k _ (Ziv b _ k (by omega)) (by omega)
    have zN:=Ye hr k
    have hx':=Hq hx
    have KS:=Hq (Jy l b k _ hx)
    have hq1:(k:Int)<(l.length:Int)+1:=by omega
    clear hg ho hr hcN e2 e3 hx
    go_wp2_with fail
    have XB:=Hq (show ((wr.setCell ⟨w.heap.size,k,none⟩ (.int .i64 (Yn b k))).alloc (.cells #[.int .i64 x0,.int .i64 x1,.int .i64 x2,.slice xq xn xk] 52)).heap[wr.heap.size]? = some (.cells #[.int .i64 x0,.int .i64 x1,.int .i64 x2,.slice xq xn xk] 52 (0,0)) by
     have:=heap_alloc_new (wr.setCell ⟨w.heap.size,k,none⟩ (.int .i64 (Yn b k))) (.cells #[.int .i64 x0,.int .i64 x1,.int .i64 x2,.slice xq xn xk] 52)
     rw [World.size_setCell] at this
     exact this)
    have GA:=Hq (Za (Zd (b:=w.heap.size) (o:=k) (v := .int .i64 (Yn b k)) HG.out (Nat.le_refl _)) (Ga _ (.cells #[.int .i64 x0,.int .i64 x1,.int .i64 x2,.slice xq xn xk] 52) none))
    have O1:=Hq (((HO.out.kept (Zh wr w.heap.size k (.int .i64 (Yn b k))) (Xq HO.out HR.out (by decide))).alloc (.cells #[.int .i64 x0,.int .i64 x1,.int .i64 x2,.slice xq xn xk] 52)))
    have R1:=Hq (show ((wr.setCell ⟨w.heap.size,k,none⟩ (.int .i64 (Yn b k))).alloc (.cells #[.int .i64 x0,.int .i64 x1,.int .i64 x2,.slice xq xn xk] 52)).ownsRow w.heap.size 3 1 (.slice (some ⟨w.heap.size,0,none⟩) (l.length+1) (l.length+1)) (l.length+1) ((Zbg b (l.length+1) (k+1)).map (Value.int .i64)) by
     have:=(HR.out.stored k (.int .i64 (Yn b k))).1.alloc (.cells #[.int .i64 x0,.int .i64 x1,.int .i64 x2,.slice xq xn xk] 52)
     rw [Ziu b _ k (by omega)] at this
     exact this)
    generalize (wr.setCell ⟨w.heap.size,k,none⟩ (.int .i64 (Yn b k))).alloc (.cells #[.int .i64 x0,.int .i64 x1,.int .i64 x2,.slice xq xn xk] 52)=W4 at *
    refine (SS.out W4 GA.out k hk2).mono ?_
    rintro e w5 ⟨rfl,rfl⟩
    have l4:=(Gs XB.out)
    have cA4:=Cq _ _ 0 _ _ _ XB.out
    have cB4:=Cq _ _ 1 _ _ _ XB.out
    have cC4:=Cq _ _ 2 _ _ _ XB.out
    have cD4:=Cq _ _ 3 _ _ _ XB.out
    have ST:=Hq (show Yn b (k+1)=Yn b k+if b k=true then 1 else 0 from rfl)
    have hc3:Yn b k+1<=maxLen:=by unfold maxLen;omega
    have hc4:(Yn b k+1)*48<=140737488355328:=by omega
    have hbl:=(R1.out.lt w.heap.size rfl).2
    clear cN zN cA cB cC cD
    cases hb:b k with
    | true =>
      rw [hb] at KS ST
      go_wp2_with (at_builtin;refine wpList_append_own_at _ rfl _ _ 23 rfl w.heap.size 52 bi (.agg #[.int .i64 0,.int .i64 0,.int .i64 0,.slice none 0 0]) 4 48 Zhv bi0 bi1 bi2 bi3 rfl (by decide) (.slice po (Yn b k) ko) _ _ rfl (O1.out.alloc _) ⟨W4.heap.size,0,none⟩ 1 1 [.int .i64 x0,.int .i64 x1,.int .i64 x2,.slice xq xn xk] rfl rfl (Zni W4 _ _ _ _ _) (Zpq _ _ _ _ _ _) hc3 hc4 (by simp;omega) ?_;intro v9 w9 hown9 hgr9 hnil9 hat9;obtain ⟨p9,k9,hv9⟩:=Zp hown9;subst hv9;have O9:=Hq hown9;have G9:=Hq hgr9;clear hown9 hgr9 hnil9 hat9)
      go_roundw
      case rel =>
       refine ⟨k+1,by go_num,by omega,Yw (Za GA.out (Ga _ _ _)) G9.out (fun q hq=>(O1.out.lt q hq).1),?_,(R1.out.alloc _).kept G9.out (Xq R1.out O1.out (by decide))⟩
       have h9:=O9.out
       rw [KS.out,ST.out]
       simp only [if_true,Zks,Zkd]
       exact h9
      case measure=>simp [intOf];omega
    | false =>
      rw [hb] at KS ST
      go_wp2
      go_roundw
      case rel =>
       refine ⟨k+1,by go_num,by omega,GA.out,?_,R1.out⟩
       have h9:=O1.out
       rw [KS.out,ST.out]
       simpa using h9
      case measure=>simp [intOf];omega
  · have hkn:k=l.length:=by omega
    subst hkn
    obtain ⟨gN,cN,eN,-,hcN⟩:=Zx hr (by omega)
    injection eN with e1 e2 e3
    injection e1 with e1;injection e1 with e1 _ _;subst e1
    have cN:=hcN l.length _ (Ziv b _ l.length (by omega)) (by omega)
    have zN:=Ye hr l.length
    have hq1:(l.length:Int)<(l.length:Int)+1:=by omega
    clear hg ho hr hcN e2 e3
    go_wp2
    go_ret2
    refine ⟨_,_,rfl,Zd HG.out (Nat.le_refl _),?_,?_⟩
    · have:=HO.out.kept (Zh wr w.heap.size l.length (.int .i64 (Yn b l.length))) (Xq HO.out HR.out (by decide))
      rw [<- Yk l b l.length (Nat.le_refl _)] at this
      rw [Yk l b l.length (Nat.le_refl _)]
      rw [Yk l b l.length (Nat.le_refl _)] at this
      exact this
    · have:=(HR.out.stored l.length (.int .i64 (Yn b l.length))).1
      rw [Ziu b _ l.length (by omega)] at this
      exact this
theorem Ygt {w:World} {base:Nat} {e:TypeId} {n:Nat} {v:Value} {xs:List Value} (h:w.ownsRow base e 1 v n xs) (h0:0<n):∃ g cap,v = .slice (some ⟨g,0,none⟩) n cap/\g<w.heap.size/\∀ j x,xs[j]? = some x->j<n->w.cell? ⟨g,j,none⟩=some x:=by
 obtain ⟨g,cap,e,hg,hc⟩:=Zx h h0
 exact ⟨g,cap,e,hg,fun j x hx hj=>hc j x hx (by omega)⟩
theorem Yrh {P:Nat->Prop} {w w':World} {b n:Nat} {t:TypeId} {f:Nat->Value} (h:w.rowIs b t n f) (g:Sp P w w') (hp:¬ P b):w'.rowIs b t n f:=h.of_block (g.block b h.lt hp)
theorem Zzm {w w':World} {b n:Nat} {t:TypeId} {f:Nat->Value} {row:Option Nat} (h:w.rowIs b t n f) (g:w.grownBy w' row) (hr:row≠some b):w'.rowIs b t n f :=
 h.of_block (g.block b h.lt (fun e=>hr e.symm))
theorem Zih {P:Nat->Prop} {w wr:World} {b i:Nat} {v:Value} (h:Sp P w wr) (hb:P b):Sp P w (wr.setCell ⟨b,i,none⟩ v) :=
 Yo h (Yf (P:=P) (Zh wr b i v) fun k _ e=>by injection e with e;exact e ▸ hb) (fun _ _ h=>h)
theorem Zwu (w:World) (b o:Nat) (u0 x y:Value) (t:TypeId):∀ j u,[x,y][j]? = some u->((w.setCell ⟨b,o,none⟩ u0).alloc (.cells #[x,y] t)).cell? ((⟨w.heap.size,0,none⟩:Addr).add j)=some u:=by
 have h:=Zwv (w.setCell ⟨b,o,none⟩ u0) x y t
 rw [World.size_setCell] at h
 exact h
theorem Yjo (x y z t:Int):∀ u∈[Value.int .i64 x,Value.int .i64 y,Value.int .i64 z,Value.int .i64 t],u.oneCell'=true:=by
 intro u hu;simp at hu;rcases hu with rfl|rfl|rfl|rfl <;> rfl
theorem Zyr {P:Program} {w:World} (base:Nat) (t ty e:TypeId) (i:TypeInfo) (z:Value) (size bytes:Nat) (ht:P.underlying t=some (.slice e)) (hi:P.info? e=some i) (hz:i.zero=some z)
 (hsize:i.size=size) (hby:i.bytes=bytes) (hzs:z.cells.size=size) (hsz:0<size)
 (v:Value) (n:Nat) (xs:List Value) (hown:w.ownsRow base e size v n xs)
 (a:Addr) (m c:Nat) (news:List Value) (hl:news.length=m*size) (hnews:∀ j u,news[j]? = some u->w.cell? (a.add j)=some u) (h1:∀ u∈news,u.oneCell'=true)
 (h63:n+m<=maxLen) (hbytes:(n+m)*bytes<=140737488355328) (hm:0<m) (bn:Nat) (hbn:bn<=w.heap.size) (hb:base<=bn) :
 ∃ v' w',(Builtin.append_ #[t,t] ty #[v,.slice (some a) m c]).run P w = .ok v' w' /\
   ((v'.ownBlock=v.ownBlock/\v.ownBlock≠none/\w.grownBy w' v.ownBlock/\w'.ownsRow base e size v' (n+m) (xs++news)/\w'.ownsRow base e size v n xs) \/
     (v'.ownBlock=some w.heap.size/\w.grownBy w' none/\w'.ownsRow bn e size v' (n+m) (xs++news))):=by
 obtain ⟨v',w',hr,h2,h3,h4⟩:=run_append_own (P:=P) w base t ty e i z size bytes ht hi hz hsize hby hzs hsz v n xs hown a m c news hl hnews h1 h63 hbytes (Nat.le_trans hb hbn)
 subst hsize
 subst hby
 rcases hown.2 with ⟨rfl,rfl⟩|⟨g,cap,cur,rfl,hbg,hg,hnc,hcm,hcs,htake⟩
 · have hx:xs=[]:=List.eq_nil_of_length_eq_zero (by simpa using hown.1)
   subst hx
   have hr2:=run_append_nil (P:=P) w t ty e i z ht hi hz a m c news hl hnews (by omega) (by unfold maxLen at h63;omega) (by have hb:=hbytes;simp only [Nat.zero_add] at hb;omega)
   rw [hr] at hr2
   injection hr2 with e1 e2
   refine ⟨v',w',hr,Or.inr ⟨by rw [e1];rfl,h3,?_⟩⟩
   have hv:v'.ownBlock=some w.heap.size:=by rw [e1];rfl
   rcases h2.2 with ⟨h5,_⟩|⟨g',c',u',h5,h6,h7,h8⟩
   · rw [h5] at hv;cases hv
   · refine ⟨h2.1,Or.inr ⟨g',c',u',h5,?_,h7,h8⟩⟩
     rw [h5] at hv
     injection hv with hv
     simp only at hv
     omega
 · by_cases hroom:n+m<=cap
   · have hfit:n*i.size+news.length<=cur.size:=by rw [hl,hcs,<- Nat.add_mul];exact Nat.mul_le_mul_right _ hroom
     have hr2:=run_append_room (P:=P) w t ty e i ht hi g n cap cur hg a m c news hl hnews h1 hroom hfit
     rw [hr] at hr2
     injection hr2 with e1 e2
     refine ⟨v',w',hr,Or.inl ⟨by rw [e1];rfl,by simp [Value.ownBlock],h3,h2,hown.1,Or.inr ⟨g,cap,_,rfl,hbg,by rw [e2];exact setRow_heap w g cur _ e _ hg,hnc,hcm,?_,?_⟩⟩⟩
     · simp only [List.size_toArray,List.length_append,List.length_take,List.length_drop,Array.length_toList]
       omega
     · simp only [List.append_assoc]
       rw [htake]
       have:n*i.size=xs.length:=hown.1.symm
       rw [this]
       exact List.take_left
   · have holds:∀ j u,xs[j]? = some u->w.cell? ((⟨g,0,none⟩:Addr).add j)=some u:=hown.cells (g:=g) rfl
     have hr2:=run_append_grow (P:=P) w t ty e i z ht hi hz ⟨g,0,none⟩ n cap xs hown.1 holds a m c news hl hnews (by omega) (by unfold maxLen at h63;omega) (growslice_fits (by omega) hbytes)
     rw [hr] at hr2
     injection hr2 with e1 e2
     have hv:v'.ownBlock=some w.heap.size:=by rw [e1];rfl
     refine ⟨v',w',hr,Or.inr ⟨hv,?_,?_⟩⟩
     · rw [e2]
       exact Za (Ze (Zc w none)) (Ga w.drew _ none)
     · rcases h2.2 with ⟨h5,_⟩|⟨g',c',u',h5,h6,h7,h8⟩
       · rw [h5] at hv;cases hv
       · refine ⟨h2.1,Or.inr ⟨g',c',u',h5,?_,h7,h8⟩⟩
         rw [h5] at hv
         injection hv with hv
         simp only at hv
         omega
theorem Zhz {P:Program} {w:World} {ops:Array Oper} {rest:List Oper} {o:Oper} {a:Act} {Q:Exit->Act->World->Prop} (hgd:o.guard=none) (s x:Operand) (t:TypeId)
 (ho:o.op = .call { callee := .builtin .append,args := #[s,x],argTypes := #[t,t] })
 (base:Nat) (e:TypeId) (i:TypeInfo) (z:Value) (size bytes:Nat) (ht:P.underlying t=some (.slice e)) (hi:P.info? e=some i) (hz:i.zero=some z)
 (hsize:i.size=size) (hby:i.bytes=bytes) (hzs:z.cells.size=size) (hsz:0<size)
 (v:Value) (n:Nat) (xs:List Value) (hs:a.eval s=v) (hown:w.ownsRow base e size v n xs)
 (ad:Addr) (m c:Nat) (news:List Value) (hx:a.eval x = .slice (some ad) m c) (hl:news.length=m*size) (hnews:∀ j u,news[j]? = some u->w.cell? (ad.add j)=some u) (h1:∀ u∈news,u.oneCell'=true)
 (h63:n+m<=maxLen) (hbytes:(n+m)*bytes<=140737488355328) (hm:0<m) (bn:Nat) (hbn:bn<=w.heap.size) (hb:base<=bn)
 (h:∀ v' w',((v'.ownBlock=v.ownBlock/\v.ownBlock≠none/\w.grownBy w' v.ownBlock/\w'.ownsRow base e size v' (n+m) (xs++news)/\w'.ownsRow base e size v n xs) \/
   (v'.ownBlock=some w.heap.size/\w.grownBy w' none/\w'.ownsRow bn e size v' (n+m) (xs++news)))->wpList P ops Q rest (a.put o.dst v') w') :
 wpList P ops Q (o::rest) a w:=by
 refine wpList_plain hgd fun K hK => ?_
 obtain ⟨v',w',hr,h2⟩:=Zyr (P:=P) (w:=w) base t o.type e i z size bytes ht hi hz hsize hby hzs hsz v n xs hown ad m c news hl hnews h1 h63 hbytes hm bn hbn hb
 unfold Oper.wp execOp
 simp only [ho,resolve,invoke,builtin,Sem.run_bind,Sem.run_pure,Result.andThen_ok,List.map_toArray,List.map_cons,List.map_nil,hs,hx,hr]
 exact hK _ _ (h v' w' h2)
abbrev FnV:=Int × Int × Int × Value
def Zcr:List FnV->List Value
 | []=>[]
 | x::r => .int .i64 x.1 :: .int .i64 x.2.1 :: .int .i64 x.2.2.1::x.2.2.2::Zcr r
theorem Zkt:∀ (l r:List FnV),Zcr (l++r)=Zcr l++Zcr r
 | [],r=>rfl
 | x::l,r=>by simp [Zcr,Zkt l r]
theorem Zvi:∀ (l:List FnV) (i:Nat) (x:FnV),l[i]? = some x->(Zcr l)[i*4]? = some (.int .i64 x.1)/\(Zcr l)[i*4+1]? = some (.int .i64 x.2.1)/\(Zcr l)[i*4+2]? = some (.int .i64 x.2.2.1)/\(Zcr l)[i*4+3]? = some x.2.2.2
 | [],i,x,h=>by simp at h
 | y::r,0,x,h=>by simp at h;subst h;simp [Zcr]
 | y::r,i+1,x,h=>by
   obtain ⟨h1,h2,h3,h4⟩:=Zvi r i x (by simpa using h)
   have e:(i+1)*4=i*4+1+1+1+1:=by omega
   rw [e]
   simp only [Zcr]
   exact ⟨by simpa using h1,by simpa using h2,by simpa using h3,by simpa using h4⟩
theorem Zvh:∀ (l:List FnV) (i:Nat) (x:FnV),((((Zcr l).set (i*4) (.int .i64 x.1)).set (i*4+1) (.int .i64 x.2.1)).set (i*4+2) (.int .i64 x.2.2.1)).set (i*4+3) x.2.2.2=Zcr (l.set i x)
 | [],i,x=>by simp [Zcr]
 | y::r,0,x=>by simp [Zcr]
 | y::r,i+1,x=>by
   have ih:=Zvh r i x
   have e:(i+1)*4=i*4+1+1+1+1:=by omega
   rw [e]
   simp only [Zcr,List.set_cons_succ,ih]
theorem Zsm:∀ (l:List (Int × Int)) (i:Nat) (x y:Int),((Yc l).set (i*2) (.int .i64 x)).set (i*2+1) (.int .i64 y)=Yc (l.set i (x,y))
 | [],i,x,y=>by simp [Yc]
 | z::r,0,x,y=>by simp [Yc]
 | z::r,i+1,x,y=>by
   have ih:=Zsm r i x y
   have e:(i+1)*2=i*2+1+1:=by omega
   rw [e]
   simp only [Yc,List.set_cons_succ,ih]
structure Pr1 (w:World) (D:Value) (dl:List Int) (F:Value) (fl:List FnV) (cc:Nat->List (Int × Int)):Prop where
 dt:w.ownsRow 0 5 1 D dl.length (dl.map (Value.int .u8))
 fr:w.ownsRow 0 52 4 F fl.length (Zcr fl)
 each:∀ (k:Nat) (x:FnV),fl[k]? = some x->w.ownsRow 0 49 2 x.2.2.2 (cc k).length (Yc (cc k))
 dis:∀ (k l:Nat) (x y:FnV) (b:Nat),k≠l->fl[k]? = some x->fl[l]? = some y->x.2.2.2.ownBlock=some b->y.2.2.2.ownBlock≠some b
def PB1 (D F:Value) (fl:List FnV) (k:Nat):Prop:=D.ownBlock=some k\/F.ownBlock=some k\/∃ x∈fl,x.2.2.2.ownBlock=some k
theorem Ygr {P:Nat->Prop} {w w':World} {D F:Value} {dl:List Int} {fl:List FnV} {cc:Nat->List (Int × Int)} (h:Pr1 w D dl F fl cc) (g:Sp P w w') (hp:∀ k,PB1 D F fl k->¬ P k):Pr1 w' D dl F fl cc :=
 ⟨Zdo h.dt g fun k hk=>hp k (Or.inl hk),Zdo h.fr g fun k hk=>hp k (Or.inr (Or.inl hk)),fun k x hx=>Zdo (h.each k x hx) g fun b hb=>hp b (Or.inr (Or.inr ⟨x,List.mem_of_getElem? hx,hb⟩)),h.dis⟩
theorem Zll {w w':World} {D F:Value} {dl:List Int} {fl:List FnV} {cc:Nat->List (Int × Int)} (h:Pr1 w D dl F fl cc) (g:w.grownBy w' none):Pr1 w' D dl F fl cc :=
 Ygr (P:=fun _=>False) h (Yf g (by simp)) (fun _ _ h=>h)
theorem Yza {w:World} {D F:Value} {dl:List Int} {fl:List FnV} {cc:Nat->List (Int × Int)} (h:Pr1 w D dl F fl cc) {k:Nat} (hk:PB1 D F fl k):k<w.heap.size:=by
 rcases hk with e|e|⟨x,hx,e⟩
 · exact (h.dt.lt k e).2
 · exact (h.fr.lt k e).2
 · obtain ⟨i,hi⟩:=List.mem_iff_getElem?.1 hx
   exact ((h.each i x hi).lt k e).2
theorem Zbb {w:World} {t t':TypeId} {size size' n n':Nat} {v v':Value} {xs xs':List Value} (h:w.ownsRow 0 t size v n xs) (h':w.ownsRow 0 t' size' v' n' xs') (hne:t≠t'):v.ownBlock=none\/v.ownBlock≠v'.ownBlock:=by
 cases e:v.ownBlock with
 | none=>exact Or.inl rfl
 | some k=>exact Or.inr fun e2=>Yz h h' hne e e2.symm
theorem Ynn {w:World} {D F:Value} {dl:List Int} {fl:List FnV} {cc:Nat->List (Int × Int)} {k g n c j:Nat} {a l r x y:Int} (h:Pr1 w D dl F fl cc) (hk:fl[k]? = some (a,l,r,.slice (some ⟨g,0,none⟩) n c)):Pr1 ((w.setCell ⟨g,j*2,none⟩ (.int .i64 x)).setCell ⟨g,j*2+1,none⟩ (.int .i64 y)) D dl F fl (fun m=>if m=k then (cc k).set j (x,y) else cc m):=by
 have ho:=h.each k _ hk
 have hn:n=(cc k).length:=by
  obtain ⟨p,c',e⟩:=Zp ho
  injection e
 subst hn
 obtain ⟨s1,s2⟩:=ho.stored (j*2) (.int .i64 x)
 obtain ⟨s3,s4⟩:=s1.stored (j*2+1) (.int .i64 y)
 have g2:w.grownBy ((w.setCell ⟨g,j*2,none⟩ (.int .i64 x)).setCell ⟨g,j*2+1,none⟩ (.int .i64 y)) (Value.slice (some ⟨g,0,none⟩) (cc k).length c).ownBlock:=Za s2 s4
 refine ⟨h.dt.kept g2 (Zbb h.dt ho (by decide)),h.fr.kept g2 (Zbb h.fr ho (by decide)),fun m z hm => ?_,h.dis⟩
 by_cases e:m=k
 · subst e
   rw [hk] at hm;injection hm with hm;subst hm
   rw [if_pos rfl,List.length_set,<- Zsm]
   exact s3
 · rw [if_neg e]
   refine (h.each m z hm).kept g2 ?_
   cases e1:z.2.2.2.ownBlock with
   | none=>exact Or.inl rfl
   | some b=>exact Or.inr fun e2=>h.dis m k z _ b e hm hk e1 e2.symm
structure Yqv (w:World) (fl:List FnV) (k s:Nat) (old v:Value) (c:List (Int × Int)):Prop where
 own:w.ownsRow 0 49 2 v c.length (Yc c)
 loc:∀ b,v.ownBlock=some b->old.ownBlock=some b\/s<=b
 dis:∀ (m:Nat) (x:FnV) (b:Nat),m≠k->fl[m]? = some x->x.2.2.2.ownBlock=some b->v.ownBlock≠some b
theorem Yue {w w':World} {D F:Value} {dl:List Int} {fl:List FnV} {cc:Nat->List (Int × Int)} {k s:Nat} {a l r:Int} {old v':Value} {zs:List (Int × Int)} {o:Obj} (h:Pr1 w D dl F fl cc) (hk:fl[k]? = some (a,l,r,old)) (hs:s<=w.heap.size)
 (hr:(v'.ownBlock=old.ownBlock/\old.ownBlock≠none/\(w.alloc o).grownBy w' old.ownBlock/\w'.ownsRow 0 49 2 v' ((cc k).length+zs.length) (Yc (cc k)++Yc zs)/\w'.ownsRow 0 49 2 old (cc k).length (Yc (cc k))) \/
     (v'.ownBlock=some (w.alloc o).heap.size/\(w.alloc o).grownBy w' none/\w'.ownsRow 0 49 2 v' ((cc k).length+zs.length) (Yc (cc k)++Yc zs))) :
 Pr1 w' D dl F fl cc/\Yqv w' fl k s old v' (cc k++zs)/\(w.alloc o).grownBy w' old.ownBlock:=by
 have hA:=Zll h (Ga w o none)
 have ho:=hA.each k _ hk
 have e1:Yc (cc k)++Yc zs=Yc (cc k++zs):=by rw [Jv]
 rw [e1] at hr
 have el:(cc k).length+zs.length=(cc k++zs).length:=by simp
 rw [el] at hr
 rcases hr with ⟨r1,r2,r3,r4,r5⟩|⟨r1,r2,r3⟩
 · refine ⟨⟨hA.dt.kept r3 (Zbb hA.dt ho (by decide)),hA.fr.kept r3 (Zbb hA.fr ho (by decide)),fun m z hm => ?_,hA.dis⟩,⟨r4,fun b hb=>Or.inl (by rw [<- r1];exact hb),fun m z b hm hz hb => ?_⟩,r3⟩
   · by_cases e:m=k
     · subst e
       rw [hk] at hm;injection hm with hm;subst hm
       exact r5
     · refine (hA.each m z hm).kept r3 ?_
       cases e1:z.2.2.2.ownBlock with
       | none=>exact Or.inl rfl
       | some b=>exact Or.inr fun e2=>hA.dis m k z _ b e hm hk e1 e2.symm
   · rw [r1]
     exact h.dis m k z _ b hm hz hk hb
 · refine ⟨Zll hA r2,⟨r3,fun b hb => ?_,fun m z b hm hz hb => ?_⟩,?_⟩
   · rw [r1] at hb;injection hb with hb
     rw [World.size_alloc] at hb
     exact Or.inr (by omega)
   · rw [r1]
     intro e;injection e with e
     have:=((h.each m z hz).lt b hb).2
     rw [World.size_alloc] at e
     omega
   · exact Zfu r2
theorem Yud {w:World} {D F:Value} {dl:List Int} {fl:List FnV} {cc:Nat->List (Int × Int)} {k gF nF cF s:Nat} {old v':Value} {a' l' r':Int} {c':List (Int × Int)} (h:Pr1 w D dl F fl cc) (hF:F = .slice (some ⟨gF,0,none⟩) nF cF) (hX:Yqv w fl k s old v' c') :
 Pr1 ((((w.setCell ⟨gF,k*4,none⟩ (.int .i64 a')).setCell ⟨gF,k*4+1,none⟩ (.int .i64 l')).setCell ⟨gF,k*4+2,none⟩ (.int .i64 r')).setCell ⟨gF,k*4+3,none⟩ v') D dl F (fl.set k (a',l',r',v')) (fun m=>if m=k then c' else cc m):=by
 subst hF
 have ho:=h.fr
 have hn:nF=fl.length:=by
  obtain ⟨p,c2,e⟩:=Zp ho
  injection e
 subst hn
 obtain ⟨s1,g1⟩:=ho.stored (k*4) (.int .i64 a')
 obtain ⟨s2,g2⟩:=s1.stored (k*4+1) (.int .i64 l')
 obtain ⟨s3,g3⟩:=s2.stored (k*4+2) (.int .i64 r')
 obtain ⟨s4,g4⟩:=s3.stored (k*4+3) v'
 have g:w.grownBy ((((w.setCell ⟨gF,k*4,none⟩ (.int .i64 a')).setCell ⟨gF,k*4+1,none⟩ (.int .i64 l')).setCell ⟨gF,k*4+2,none⟩ (.int .i64 r')).setCell ⟨gF,k*4+3,none⟩ v') (Value.slice (some ⟨gF,0,none⟩) fl.length cF).ownBlock:=Za (Za (Za g1 g2) g3) g4
 have hset:∀ (m:Nat) (z:FnV),(fl.set k (a',l',r',v'))[m]? = some z->(m=k/\z=(a',l',r',v'))\/(m≠k/\fl[m]? = some z):=fun m z hz=>by
  rw [List.getElem?_set] at hz
  by_cases e:k=m
  · rw [if_pos e] at hz
    by_cases hl:k<fl.length
    · rw [if_pos hl] at hz;injection hz with hz;exact Or.inl ⟨e.symm,hz.symm⟩
    · rw [if_neg hl] at hz;cases hz
  · rw [if_neg e] at hz;exact Or.inr ⟨fun e2=>e e2.symm,hz⟩
 refine ⟨h.dt.kept g (Zbb h.dt ho (by decide)),?_,fun m z hm => ?_,fun m n2 z y b hmn hz hy hb => ?_⟩
 · rw [List.length_set,<- Zvh];exact s4
 · rcases hset m z hm with ⟨rfl,rfl⟩|⟨e,hm2⟩
   · rw [if_pos rfl]
     exact hX.own.kept g (Zbb hX.own ho (by decide))
   · rw [if_neg e]
     exact (h.each m z hm2).kept g (Zbb (h.each m z hm2) ho (by decide))
 · rcases hset m z hz with ⟨rfl,rfl⟩|⟨e,hz2⟩
   · rcases hset n2 y hy with ⟨rfl,rfl⟩|⟨e,hy2⟩
     · exact absurd rfl hmn
     · intro e2
       exact hX.dis n2 y b e hy2 e2 hb
   · rcases hset n2 y hy with ⟨rfl,rfl⟩|⟨e3,hy2⟩
     · exact hX.dis m z b e hz2 hb
     · exact h.dis m n2 z y b hmn hz2 hy2 hb
theorem Ynl {w:World} {D F:Value} {dl:List Int} {fl:List FnV} {cc:Nat->List (Int × Int)} {j g n c:Nat} {x:Int} (h:Pr1 w D dl F fl cc) (hD:D = .slice (some ⟨g,0,none⟩) n c):Pr1 (w.setCell ⟨g,j,none⟩ (.int .u8 x)) D (dl.set j x) F fl cc:=by
 subst hD
 have ho:=h.dt
 have hn:n=dl.length:=by
  obtain ⟨p,c2,e⟩:=Zp ho
  injection e
 subst hn
 obtain ⟨s1,g1⟩:=ho.stored j (.int .u8 x)
 refine ⟨by rw [List.length_set,List.map_set];exact s1,h.fr.kept g1 (Zbb h.fr ho (by decide)),fun m z hm=>(h.each m z hm).kept g1 (Zbb (h.each m z hm) ho (by decide)),h.dis⟩
theorem Ynk {w w':World} {D F v':Value} {dl:List Int} {fl:List FnV} {cc:Nat->List (Int × Int)} {a l r:Int} {o:Obj} (h:Pr1 w D dl F fl cc) (g:(w.alloc o).grownBy w' F.ownBlock) (own:w'.ownsRow 0 52 4 v' (fl.length+1) (Zcr fl++[.int .i64 a,.int .i64 l,.int .i64 r,.slice none 0 0])) :
 Pr1 w' D dl v' (fl++[(a,l,r,.slice none 0 0)]) (fun m=>if m<fl.length then cc m else []):=by
 have hA:=Zll h (Ga w o none)
 have hget:∀ (m:Nat) (z:FnV),(fl++[(a,l,r,.slice none 0 0)])[m]? = some z->(m<fl.length/\fl[m]? = some z)\/(m=fl.length/\z=(a,l,r,.slice none 0 0)):=fun m z hz=>by
  by_cases e:m<fl.length
  · rw [List.getElem?_append_left e] at hz;exact Or.inl ⟨e,hz⟩
  · have hm:m=fl.length:=by have:=(List.getElem?_eq_some_iff.1 hz).1;simp at this;omega
    subst hm
    rw [List.getElem?_append_right (Nat.le_refl _)] at hz
    simp at hz
    exact Or.inr ⟨rfl,hz.symm⟩
 refine ⟨hA.dt.kept g (Zbb hA.dt hA.fr (by decide)),?_,fun m z hm => ?_,fun m n z y b hmn hz hy hb => ?_⟩
 · rw [List.length_append,Zkt];exact own
 · rcases hget m z hm with ⟨e,hm2⟩|⟨e,rfl⟩
   · rw [if_pos e]
     exact (hA.each m z hm2).kept g (Zbb (hA.each m z hm2) hA.fr (by decide))
   · rw [if_neg (by omega)]
     exact World.ownsRow_nil _ _ _ _
 · rcases hget m z hz with ⟨e,hz2⟩|⟨e,rfl⟩
   · rcases hget n y hy with ⟨e3,hy2⟩|⟨e3,rfl⟩
     · exact h.dis m n z y b hmn hz2 hy2 hb
     · simp [Value.ownBlock]
   · cases hb
theorem Ynm {w w':World} {D F v':Value} {dl:List Int} {fl:List FnV} {cc:Nat->List (Int × Int)} {zs:List Int} {o:Obj} (h:Pr1 w D dl F fl cc) (g:(w.alloc o).grownBy w' D.ownBlock) (own:w'.ownsRow 0 5 1 v' (dl.length+zs.length) (dl.map (Value.int .u8)++zs.map (Value.int .u8))) :
 Pr1 w' v' (dl++zs) F fl cc:=by
 have hA:=Zll h (Ga w o none)
 refine ⟨by rw [List.length_append,List.map_append];exact own,hA.fr.kept g (Zbb hA.fr hA.dt (by decide)),fun m z hm=>(hA.each m z hm).kept g (Zbb (hA.each m z hm) hA.dt (by decide)),h.dis⟩
theorem Zrc {w:World} {D F:Value} {dl:List Int} {fl:List FnV} {cc:Nat->List (Int × Int)} {k:Nat} {x:FnV} (h:Pr1 w D dl F fl cc) (hk:fl[k]? = some x):∃ gF cF,F = .slice (some ⟨gF,0,none⟩) fl.length cF/\gF<w.heap.size/\w.cell? ⟨gF,k*4,none⟩=some (.int .i64 x.1)/\w.cell? ⟨gF,k*4+1,none⟩=some (.int .i64 x.2.1)/\w.cell? ⟨gF,k*4+2,none⟩=some (.int .i64 x.2.2.1)/\w.cell? ⟨gF,k*4+3,none⟩=some x.2.2.2/\∀ j,w.frozen? ⟨gF,j,none⟩=false:=by
 have hl:=(List.getElem?_eq_some_iff.1 hk).1
 obtain ⟨gF,cF,e,hg,hc⟩:=Zx h.fr (by omega)
 obtain ⟨q0,q1,q2,q3⟩:=Zvi fl k x hk
 refine ⟨gF,cF,e,hg,hc _ _ q0 (by omega),hc _ _ q1 (by omega),hc _ _ q2 (by omega),hc _ _ q3 (by omega),fun j => ?_⟩
 rcases h.fr.2 with ⟨e2,_⟩|⟨g2,cap2,cur2,e2,_,hgg,_⟩
 · rw [e] at e2;cases e2
 · rw [e] at e2
   injection e2 with d1 d2 d3
   injection d1 with d1;injection d1 with d1
   subst d1
   exact frozen_of_row w _ _ _ _ hgg
end Go.Proofs.Ythlkflagancdfaa.OT
