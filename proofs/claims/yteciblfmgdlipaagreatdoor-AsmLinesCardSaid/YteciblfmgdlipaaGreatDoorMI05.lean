/-
  Part of a proof: contracts of functions and lemmas, each stated by its own theorem. Conditions: as each theorem states.
-/
import Derived.Test.YteciblfmgdlipaaGreatDoorMI01
import Derived.Test.YteciblfmgdlipaaGreatDoorMI04
import Derived.Test.YteciblfmgdlipaaGreatDoorMI02
import Derived.Deep.QuietTactic
import Derived.BigQuiet
set_option linter.unusedSimpArgs false
set_option linter.unusedVariables false
set_option maxRecDepth 100000
set_option maxHeartbeats 16000000
namespace Go.Proofs.YteciblfmgdlipaaGreatDoor.CK
open Go.RowKit Go.Great
theorem Zwj {a:Act} {N d:Nat} {v:Value} (hs:a.tmps.size=N) (hd:d<N) (e:Nat):tm (a.put (some d) v) e=if e=d then v else tm a e:=by
 unfold tm Act.put
 by_cases h:e=d
 · subst h;simp [hs,hd]
 · rw [if_neg h];simp [Array.getD_eq_getD_getElem?,Array.getElem?_setIfInBounds_ne (Ne.symm h)]
theorem Zts {a:Act} {N:Nat} {d:Option Tmp} {v:Value} (hs:a.tmps.size=N):(a.put d v).tmps.size=N:=by cases d <;> simp [Act.put,hs]
structure RJ (a0:Act) (N n:Nat) (dst:Nat->Nat) (val:Nat->Value) (l:Array Bool) (a:Act):Prop where
 sz:l.size=n
 ts:a.tmps.size=N
 df:a.defers=a0.defers
 sl:∀ i,i<n->l.getD i false=true->dst i<N->tm a (dst i)=val i
 un:∀ j,(∀ i,i<n->l.getD i false=true->dst i≠j)->tm a j=tm a0 j
theorem Yg {a0 a:Act} {N n i:Nat} {dst:Nat->Nat} {val:Nat->Value} {l:Array Bool} (h:RJ a0 N n dst val l a) (hi:i<n) (hd:dst i<N) (hne:∀ j,j<n->j≠i->dst j≠dst i) :
 RJ a0 N n dst val (l.setIfInBounds i true) (a.put (some (dst i)) (val i)):=by
 have hgs:∀ j,(l.setIfInBounds i true).getD j false=if j=i then true else l.getD j false:=fun j=>Zdm l i j (by rw [h.sz];exact hi)
 have T:∀ e,tm (a.put (some (dst i)) (val i)) e=if e=dst i then val i else tm a e:=fun e=>Zwj h.ts hd e
 refine ⟨by simp [h.sz],Zts h.ts,h.df,fun j hj hl hdj => ?_,fun j hj => ?_⟩
 · rw [hgs] at hl
   by_cases hji:j=i
   · subst hji;rw [T,if_pos rfl]
   · rw [if_neg hji] at hl
     rw [T,if_neg (hne j hj hji)]
     exact h.sl j hj hl hdj
 · have h1:=hj i hi (by rw [hgs,if_pos rfl])
   rw [T,if_neg (Ne.symm h1)]
   refine h.un j fun i' hi' hl'=>hj i' hi' ?_
   rw [hgs]
   by_cases e:i'=i
   · rw [if_pos e]
   · rw [if_neg e];exact hl'
theorem Yre {a0 a:Act} {N n i:Nat} {dst:Nat->Nat} {val:Nat->Value} {l:Array Bool} (h:RJ a0 N n dst val l a) (hi:i<n) (hd:N<=dst i):RJ a0 N n dst val (l.setIfInBounds i true) a:=by
 have hgs:∀ j,(l.setIfInBounds i true).getD j false=if j=i then true else l.getD j false:=fun j=>Zdm l i j (by rw [h.sz];exact hi)
 refine ⟨by simp [h.sz],h.ts,h.df,fun j hj hl hdj => ?_,fun j hj => ?_⟩
 · rw [hgs] at hl
   by_cases hji:j=i
   · subst hji;omega
   · rw [if_neg hji] at hl;exact h.sl j hj hl hdj
 · refine h.un j fun i' hi' hl'=>hj i' hi' ?_
   rw [hgs]
   by_cases e:i'=i
   · rw [if_pos e]
   · rw [if_neg e];exact hl'
theorem Yc {a0:Act} {N n:Nat} {dst:Nat->Nat} {val:Nat->Value} (hs:a0.tmps.size=N):RJ a0 N n dst val (Array.replicate n false) a0 :=
 ⟨by simp,hs,rfl,fun i hi hl _=>(by rw [getD_replicate_false] at hl;cases hl),fun j _=>rfl⟩
theorem Zyo {a b:Act} (hs:a.tmps.size=b.tmps.size) (hd:a.defers=b.defers) (ht:∀ j,j<a.tmps.size->tm a j=tm b j):a=b:=by
 obtain ⟨ta,da⟩:=a
 obtain ⟨tb,db⟩:=b
 simp only at hs hd
 subst hd
 congr 1
 refine Array.ext hs fun j h1 h2 => ?_
 have:=ht j h1
 simpa [tm,h1,h2] using this
theorem Yur {a0 a aF:Act} {N n:Nat} {dst:Nat->Nat} {val:Nat->Value} {l:Array Bool} (h:RJ a0 N n dst val l a) (hl:∀ j,j<n->l.getD j false=true) (hs:aF.tmps.size=N) (hd:aF.defers=a0.defers)
 (hv:∀ i,i<n->dst i<N->tm aF (dst i)=val i) (hu:∀ j,(∀ i,i<n->dst i≠j)->tm aF j=tm a0 j):a=aF:=by
 refine Zyo (h.ts.trans hs.symm) (h.df.trans hd.symm) fun j hj => ?_
 by_cases he:∃ i,i<n/\dst i=j
 · obtain ⟨i,hi,rfl⟩:=he
   have hN:dst i<N:=by rw [<- h.ts];exact hj
   rw [h.sl i hi (hl i hi) hN,hv i hi hN]
 · have hne:∀ i,i<n->dst i≠j:=fun i hi e=>he ⟨i,hi,e⟩
   rw [h.un j (fun i hi _=>hne i hi),hu j hne]
def Ja (a0:Act) (dst:Nat->Nat) (val:Nat->Value):Nat->Act
 | 0=>a0
 | n+1=>(Ja a0 dst val n).put (some (dst n)) (val n)
theorem Zho {a0:Act} {N:Nat} {dst:Nat->Nat} {val:Nat->Value} (hs:a0.tmps.size=N):∀ n,(Ja a0 dst val n).tmps.size=N
 | 0=>hs
 | n+1=>Zts (Zho hs n)
theorem Zlz {a0:Act} {dst:Nat->Nat} {val:Nat->Value}:∀ n,(Ja a0 dst val n).defers=a0.defers
 | 0=>rfl
 | n+1=>Zlz n
theorem Zzl {a0:Act} {N:Nat} {dst:Nat->Nat} {val:Nat->Value} (hs:a0.tmps.size=N):∀ n,(∀ i j,i<n->j<n->i≠j->dst i≠dst j)->∀ i,i<n->dst i<N->tm (Ja a0 dst val n) (dst i)=val i
 | 0,_,i,hi,_=>by omega
 | n+1,hne,i,hi,hd=>by
   rw [Ja]
   by_cases e:i=n
   · subst e;rw [Zwj (Zho hs i) hd,if_pos rfl]
   · have h1:=Zzl (a0:=a0) (val:=val) hs n (fun i j h1 h2=>hne i j (by omega) (by omega)) i (by omega) hd
     by_cases hn:dst n<N
     · rw [Zwj (Zho hs n) hn,if_neg (hne i n (by omega) (by omega) e)];exact h1
     · have:∀ v,tm ((Ja a0 dst val n).put (some (dst n)) v) (dst i)=tm (Ja a0 dst val n) (dst i):=by
        intro v
        unfold tm Act.put
        simp [Array.getD_eq_getD_getElem?,Array.getElem?_setIfInBounds_ne (hne n i (by omega) (by omega) (Ne.symm e))]
       rw [this];exact h1
theorem Ztz {a0:Act} {dst:Nat->Nat} {val:Nat->Value}:∀ n j,(∀ i,i<n->dst i≠j)->tm (Ja a0 dst val n) j=tm a0 j
 | 0,_,_=>rfl
 | n+1,j,h=>by
   rw [Ja]
   have:tm ((Ja a0 dst val n).put (some (dst n)) (val n)) j=tm (Ja a0 dst val n) j:=by
    unfold tm Act.put
    simp [Array.getD_eq_getD_getElem?,Array.getElem?_setIfInBounds_ne (h n (by omega))]
   rw [this]
   exact Ztz n j (fun i hi=>h i (by omega))
theorem Ys {a0 a:Act} {N n:Nat} {dst:Nat->Nat} {val:Nat->Value} {l:Array Bool} (h:RJ a0 N n dst val l a) (h0:a0.tmps.size=N) (hl:∀ j,j<n->l.getD j false=true) (hne:∀ i j,i<n->j<n->i≠j->dst i≠dst j):a=Ja a0 dst val n :=
 Yur h hl (Zho h0 n) (Zlz n) (Zzl h0 n hne) (Ztz n)
theorem Yqw {a:Act} {d:Nat} (hs:d<a.tmps.size):a.tmps[d]? = some (a.tmps.getD d undef):=by
 rw [Array.getElem?_eq_getElem hs];simp [hs]
theorem Zii {ops:Array Oper} {o:Oper} {a:Act} {k d:Nat} {b:Bool} (hg:o.guard=some (k,b)) (hk:(ops[k]?).bind (·.dst)=some d) (hs:d<a.tmps.size) (hv:a.tmps.getD d undef = .bool b):Region.wanted o (yielded ops a.tmps)=true:=by
 have h1:=Yqw hs
 rw [hv] at h1
 unfold Region.wanted
 rw [hg]
 simp [yielded,hk,h1]
theorem Ywx {ops:Array Oper} {a0 a:Act} {N n i:Nat} {dst:Nat->Nat} {val:Nat->Value} {l:Array Bool} (h:RJ a0 N n dst val l a) (hi:i∈Region.ready .any ops l) (j:Nat) (hc:(decide (j<n) && decide (dst j<N) && ((ops[i]?).any fun o=>o.after.any fun e=>e.on == j && Region.binds .any e))=true):a.tmps.getD (dst j) undef=val j:=by
 simp only [Bool.and_eq_true,decide_eq_true_eq] at hc
 exact h.sl j hc.1.1 (Zq hi j hc.2) hc.1.2
theorem Yj {a0 a:Act} {N n:Nat} {dst:Nat->Nat} {val val':Nat->Value} {l:Array Bool} (h:RJ a0 N n dst val l a) (hv:∀ i,i<n->l.getD i false=true->dst i<N->val' i=val i):RJ a0 N n dst val' l a :=
 ⟨h.sz,h.ts,h.df,fun i hi hl hd=>by rw [hv i hi hl hd];exact h.sl i hi hl hd,h.un⟩
section
variable {ops:Array Oper} {Q:Exit->Act->World->Prop} {a0 a:Act} {N n i:Nat} {dst:Nat->Nat} {val:Nat->Value} {l:Array Bool} {w w':World} {WS:Array Bool->World->Prop} {o:Oper}
theorem Jo (hJ:RJ a0 N n dst val l a) (ho:ops[i]? = some o) (hg:o.guard=none) (hdst:o.dst=none) (hi:i<n) (hd:N<=dst i) (hrun:(execOp a.eval o).run Tryz.prog w = .ok .skip w') (hW:WS (l.setIfInBounds i true) w') :
 wpOp Tryz.prog ops Q i (fun a' w''=>RJ a0 N n dst val (l.setIfInBounds i true) a'/\WS (l.setIfInBounds i true) w'') a w :=
 Yed ho hg hdst hrun ⟨Yre hJ hi hd,hW⟩
theorem Ywy (hJ:RJ a0 N n dst val l a) (ho:ops[i]? = some o) (hw:Region.wanted o (yielded ops a.tmps)=true) (hdst:o.dst=some (dst i)) (hi:i<n) (hd:dst i<N) (hne:∀ j,j<n->j≠i->dst j≠dst i) (hrun:(execOp a.eval o).run Tryz.prog w = .ok (.value (val i)) w') (hW:WS (l.setIfInBounds i true) w') :
 wpOp Tryz.prog ops Q i (fun a' w''=>RJ a0 N n dst val (l.setIfInBounds i true) a'/\WS (l.setIfInBounds i true) w'') a w:=by
 unfold wpOp
 simp only [ho]
 rw [if_pos hw]
 refine Or.inl ?_
 unfold Oper.wp
 rw [hrun,Oper.upon_value,hdst]
 exact ⟨Yg hJ hi hd hne,hW⟩
theorem Zc {K K':Act->World->Prop} (h:wpOp Tryz.prog ops Q i K a w) (hk:∀ a' w',K a' w'->K' a' w'):wpOp Tryz.prog ops Q i K' a w:=wpOp_mono hk h
end
theorem Zyn {ops:Array Oper} (hdag:∀ (j:Nat) (o:Oper),ops[j]? = some o->∀ e∈o.after,Region.binds .any e=true->e.on<j) {l:Array Bool} (h:Region.ready .any ops l=[]) (hsz:l.size=ops.size):∀ j,j<ops.size->l.getD j false=true:=by
 intro j
 induction j using Nat.strongRecOn with
 | _ j ih =>
   intro hj
   by_cases hl:l.getD j false=true
   · exact hl
   · exfalso
     have hlt:j<l.size:=by omega
     have h1:l.getD j true=false:=by
      simp only [Array.getD,hlt,dif_pos] at hl ⊢
      simpa using hl
     have:j∈Region.ready .any ops l:=mem_ready.2 ⟨h1,ops[j],by simp [hj],fun e he hb=>ih e.on (hdag j ops[j] (by simp [hj]) e he hb) (Nat.lt_trans (hdag j ops[j] (by simp [hj]) e he hb) hj)⟩
     rw [h] at this
     cases this
theorem Yt {ops:Array Oper} (h:((List.range ops.size).all fun j=>(ops[j]?).all fun o=>o.after.all fun e => !(Region.binds .any e) || decide (e.on<j))=true):∀ (j:Nat) (o:Oper),ops[j]? = some o->∀ e∈o.after,Region.binds .any e=true->e.on<j:=by
 intro j o ho e he hb
 have hj:j<ops.size:=(Gs ho)
 have h1:=List.all_eq_true.1 h j (List.mem_range.2 hj)
 rw [ho] at h1
 have h2:=Array.all_eq_true'.1 (show o.after.all (fun e => !(Region.binds .any e) || decide (e.on<j))=true from h1) e he
 rw [hb] at h2
 exact of_decide_eq_true (by simpa using h2)
theorem Yd {id:Nat} {ops:Array Oper} {Q:Exit->Act->World->Prop} {a0:Act} {w:World} {n:Nat} (J:Act->Array Bool->Act->World->Prop)
 (hm:Tryz.prog.follows .mixedOrders=true) (hn:ops.size=n) (hdag:∀ (j:Nat) (o:Oper),ops[j]? = some o->∀ e∈o.after,Region.binds .any e=true->e.on<j) (hsz:∀ l a w,J a0 l a w->l.size=n) (hW:J a0 (Array.replicate n false) a0 w.drew)
 (step:∀ l a w i,J a0 l a w->i∈Region.ready .any ops l->i<n->wpOp Tryz.prog ops Q i (fun a' w'=>J a0 (l.setIfInBounds i true) a' w') a w)
 (fin:∀ l a w,J a0 l a w->(∀ j,j<n->l.getD j false=true)->Q .normal a w):(Code.region id ops true).wp Tryz.prog Q a0 w:=by
 subst hn
 refine wp_region_any hm ?_
 refine Znb (J a0) (fun l a w i hJ hi=>step l a w i hJ hi ?_) (fun l a w hJ hr=>fin l a w hJ (Zyn hdag hr (hsz l a w hJ))) _ _ _ _ hW (by simp)
 obtain ⟨_,o,ho,_⟩:=mem_ready.1 hi
 exact (Gs ho)
theorem Ya {ops:Array Oper} {Q:Exit->Act->World->Prop} {a:Act} {i:Nat} {w:World} {o:Oper} {K:Act->World->Prop} (ho:ops[i]? = some o) (hw:Region.wanted o (yielded ops a.tmps)=true) {f:FuncId} {args:Array Value} (hrun:(execOp a.eval o).run Tryz.prog w = .ok (.enter f args) w)
 (hc:Calls Tryz.prog f args w fun e w''=>∃ v,e = .returned v/\K (a.put o.dst v) w''):wpOp Tryz.prog ops Q i K a w:=by
 unfold wpOp
 simp only [ho]
 rw [if_pos hw]
 refine Or.inl ?_
 unfold Oper.wp
 rw [hrun]
 simp only [Oper.upon]
 refine hc.mono fun e w' he => ?_
 obtain ⟨v,rfl,hK⟩:=he
 exact hK
theorem Yxq {D:List (Nat × Nat)} {n i:Nat} {l:Array Bool} (hs:l.size=n) (hin:i<n) (hx:∀ p∈D,l.getD p.1 false=true->l.getD p.2 false=true) (hp:∀ p∈D,p.1=i->l.getD p.2 false=true) :
 ∀ p∈D,(l.setIfInBounds i true).getD p.1 false=true->(l.setIfInBounds i true).getD p.2 false=true:=fun p hpD e=>by
 rw [Zdm l i _ (by omega)] at e ⊢
 by_cases h2:p.2=i
 · rw [if_pos h2]
 · rw [if_neg h2]
   by_cases h1:p.1=i
   · exact hp p hpD h1
   · rw [if_neg h1] at e;exact hx p hpD e
theorem Zg {ops:Array Oper} {l:Array Bool} {i:Nat} (D:List (Nat × Nat)) (hi:i∈Region.ready .any ops l) (h:(D.all fun p=>p.1 != i || ((ops[i]?).any fun o=>o.after.any fun e=>e.on == p.2 && Region.binds .any e))=true):∀ p∈D,p.1=i->l.getD p.2 false=true:=fun p hp e=>by
 have h1:=List.all_eq_true.1 h p hp
 rw [e] at h1
 simp only [bne_self_eq_false,Bool.false_or] at h1
 exact Zq hi p.2 h1
theorem Zt {ops:Array Oper} {Q:Exit->Act->World->Prop} {a:Act} {i:Nat} {w w':World} {o:Oper} {K:Act->World->Prop} {v:Value} (ho:ops[i]? = some o) (hw:Region.wanted o (yielded ops a.tmps)=true) (hrun:(execOp a.eval o).run Tryz.prog w = .ok (.value v) w')
 (hK:K (a.put o.dst v) w'):wpOp Tryz.prog ops Q i K a w:=by
 unfold wpOp
 simp only [ho]
 rw [if_pos hw]
 refine Or.inl ?_
 unfold Oper.wp
 rw [hrun,Oper.upon_value]
 exact hK
structure Zas (s n c0:Nat) (D C:List (Nat × Nat)) (B B0:World->Prop) (F:Nat->World->Prop) (R:World->Prop) (l:Array Bool) (w:World):Prop where
 sz:l.size=n
 g:l.getD s false=false->B w
 u:l.getD c0 false=false->B0 w
 f:l.getD s false=false->∀ i,i<n->l.getD i false=true->(∀ p∈C,p.1=i->l.getD p.2 false=false)->F i w
 q:l.getD s false=true->R w
 x:l.getD s false=true->∀ j,j<n->l.getD j false=true
 cl:∀ p∈D,l.getD p.1 false=true->l.getD p.2 false=true
section
variable {s n c0 i:Nat} {D C:List (Nat × Nat)} {w w':World} {B B0:World->Prop} {F F':Nat->World->Prop} {R R':World->Prop} {l:Array Bool}
theorem Zu (hb:B w) (h0:B0 w):Zas s n c0 D C B B0 F R (Array.replicate n false) w :=
 ⟨by simp,fun _=>hb,fun _=>h0,fun _ i _ h=>(by rw [getD_replicate_false] at h;cases h),fun h=>(by rw [getD_replicate_false] at h;cases h),fun h=>(by rw [getD_replicate_false] at h;cases h),fun p _ h=>(by rw [getD_replicate_false] at h;cases h)⟩
theorem Xe (h:Zas s n c0 D C B B0 F R l w) (hin:i<n) (hun:l.getD i false=false):l.getD s false=false:=by
 cases e:l.getD s false with
 | false=>rfl
 | true=>rw [h.x e i hin] at hun;cases hun
theorem Ju (h:Zas n n c0 D C B B0 F R l w):l.getD n false=false:=by
 have:=h.sz
 rw [Array.getD_eq_getD_getElem?,Array.getElem?_eq_none (by omega)];rfl
theorem Zo (h:Zas s n c0 D C B B0 F R l w) (hin:i<n) (hun:l.getD i false=false) (hs:i≠s) (hp:∀ p∈D,p.1=i->l.getD p.2 false=true) (g:B w') (h0:i≠c0->l.getD c0 false=false->B0 w->B0 w') (hk:∀ j,j<n->j≠i->l.getD j false=true->(∀ p∈C,p.1=j->p.2≠i/\l.getD p.2 false=false)->F j w->F' j w') (hF:F' i w'):Zas s n c0 D C B B0 F' R' (l.setIfInBounds i true) w':=by
 have gs:(l.setIfInBounds i true).getD s false=l.getD s false:=by rw [Zdm l i s (by rw [h.sz];exact hin),if_neg (Ne.symm hs)]
 have ns:=Xe h hin hun
 refine ⟨by simp [h.sz],fun _=>g,fun e => ?_,fun _ j hj e hc => ?_,fun e => ?_,fun e => ?_,Yxq h.sz hin h.cl hp⟩
 · rw [Zdm l i c0 (by rw [h.sz];exact hin)] at e
   by_cases c:c0=i
   · rw [if_pos c] at e;cases e
   · rw [if_neg c] at e;exact h0 (Ne.symm c) e (h.u e)
 · have hc':∀ p∈C,p.1=j->p.2≠i/\l.getD p.2 false=false:=fun p hp e1=>by
    have h1:=hc p hp e1
    rw [Zdm l i p.2 (by rw [h.sz];exact hin)] at h1
    by_cases e2:p.2=i
    · rw [if_pos e2] at h1;cases h1
    · rw [if_neg e2] at h1;exact ⟨e2,h1⟩
   rw [Zdm l i j (by rw [h.sz];exact hin)] at e
   by_cases c:j=i
   · subst c;exact hF
   · rw [if_neg c] at e;exact hk j hj c e hc' (h.f ns j hj e fun p hp e1=>(hc' p hp e1).2)
 · rw [gs,ns] at e;cases e
 · rw [gs,ns] at e;cases e
theorem Ykc (h:Zas s n c0 D C B B0 F R l w) (hin:i<n) (hun:l.getD i false=false) (hs:i≠s) (hp:∀ p∈D,p.1=i->l.getD p.2 false=true) (hF:F i w):Zas s n c0 D C B B0 F R (l.setIfInBounds i true) w :=
 Zo h hin hun hs hp (h.g (Xe h hin hun)) (fun _ _ h0=>h0) (fun j _ _ _ _ hj=>hj) hF
theorem Xa (h:Zas s n c0 D C B B0 F R l w) (hin:s<n) (hc0:c0<n) (hall:∀ j,j<n->j≠s->l.getD j false=true) (hp:∀ p∈D,p.1=s->l.getD p.2 false=true) (hq:R w'):Zas s n c0 D C B B0 F R (l.setIfInBounds s true) w':=by
 have gj:∀ j,j<n->(l.setIfInBounds s true).getD j false=true:=fun j hj=>by
  rw [Zdm l s j (by rw [h.sz];exact hin)]
  by_cases e:j=s
  · rw [if_pos e]
  · rw [if_neg e];exact hall j hj e
 refine ⟨by simp [h.sz],fun e => ?_,fun e => ?_,fun e => ?_,fun _=>hq,fun _=>gj,Yxq h.sz hin h.cl hp⟩
 · rw [gj s hin] at e;cases e
 · rw [gj c0 hc0] at e;cases e
 · rw [gj s hin] at e;cases e
end
section
variable {ops:Array Oper} {Q:Exit->Act->World->Prop} {a0 a:Act} {s n c0 i N:Nat} {dst:Nat->Nat} {val:Nat->Value} {D C:List (Nat × Nat)} {B B0:World->Prop} {F:Nat->World->Prop} {R:World->Prop} {l:Array Bool} {w':World} {o:Oper}
theorem Zqe (hJ:RJ a0 N n dst val l a) (hW:Zas s n c0 D C B B0 F R l w') (hR:i∈Region.ready .any ops l) (hun:l.getD i false=false) (ho:ops[i]? = some o) (hw:Region.wanted o (yielded ops a.tmps)=true) (hdst:o.dst=some (dst i)) (hi:i<n) (hd:dst i<N) (hne:∀ j,j<n->j≠i->dst j≠dst i) (hrun:(execOp a.eval o).run Tryz.prog w' = .ok (.value (val i)) w')
 (h:i≠s/\(D.all fun p=>p.1 != i || ((ops[i]?).any fun o=>o.after.any fun e=>e.on == p.2 && Region.binds .any e))=true/\F i w') :
 wpOp Tryz.prog ops Q i (fun a' w''=>RJ a0 N n dst val (l.setIfInBounds i true) a'/\Zas s n c0 D C B B0 F R (l.setIfInBounds i true) w'') a w' :=
 Ywy (WS:=fun l w=>Zas s n c0 D C B B0 F R l w) hJ ho hw hdst hi hd hne hrun (Ykc hW hi hun h.1 (Zg D hR h.2.1) h.2.2)
end
theorem Zat {l:Array Bool} {C:List (Nat × Nat)} {i:Nat} (h:i ∉ C.map Prod.fst):∀ p∈C,p.1=i->l.getD p.2 false=false:=fun p hp e=>absurd (List.mem_map.2 ⟨p,hp,e⟩) h
theorem Jg {l:Array Bool} {C:List (Nat × Nat)} {i c:Nat} (h:∀ p∈C,p.1=i->p.2=c) (hun:l.getD c false=false):∀ p∈C,p.1=i->l.getD p.2 false=false:=fun p hp e=>by rw [h p hp e];exact hun
theorem Zk {l:Array Bool} {c:Nat} {P:Prop} (h:l.getD c false=true) (hun:l.getD c false=false):P:=by rw [hun] at h;cases h
section
def rch (D:List (Nat × Nat)):Nat->Nat->Nat->Bool
 | 0,a,b=>a == b
 | f+1,a,b=>a == b || D.any fun p=>p.1 == a && rch D f p.2 b
theorem Ypf {D:List (Nat × Nat)} {l:Array Bool} (hcl:∀ p∈D,l.getD (Prod.fst p) false=true->l.getD (Prod.snd p) false=true):∀ (f a b:Nat),l.getD a false=true->rch D f a b=true->l.getD b false=true
 | 0,a,b,ha,h=>by
   have:a=b:=by simpa [rch] using h
   exact this ▸ ha
 | f+1,a,b,ha,h=>by
   unfold rch at h
   rw [Bool.or_eq_true] at h
   rcases h with h|h
   · have:a=b:=by simpa using h
     exact this ▸ ha
   · obtain ⟨p,hp,h⟩:=List.any_eq_true.1 h
     rw [Bool.and_eq_true] at h
     obtain ⟨h1,h2⟩:=h
     have e:p.1=a:=by simpa using h1
     exact Ypf hcl f p.2 b (hcl p hp (by rw [e];exact ha)) h2
theorem Jp {ops:Array Oper} {l:Array Bool} {s n:Nat} {D:List (Nat × Nat)} (hi:s∈Region.ready .any ops l) (hcl:∀ p∈D,l.getD (Prod.fst p) false=true->l.getD (Prod.snd p) false=true)
 (h:(List.range n).all (fun j=>j == s || (List.range n).any fun k=>((ops[s]?).any fun o=>o.after.any fun e=>e.on == k && Region.binds .any e) && rch D n k j)=true):∀ j,j<n->j≠s->l.getD j false=true:=by
 intro j hj hne
 have h1:=List.all_eq_true.1 h j (List.mem_range.2 hj)
 rw [Bool.or_eq_true] at h1
 rcases h1 with h1|h1
 · exact absurd (by simpa using h1) hne
 · obtain ⟨k,_,h2⟩:=List.any_eq_true.1 h1
   rw [Bool.and_eq_true] at h2
   obtain ⟨h3,h4⟩:=h2
   exact Ypf hcl n k j (Zq hi k h3) h4
variable {a0:Act} {N n s c0 i:Nat} {dst:Nat->Nat} {val:Nat->Value} {l:Array Bool} {a:Act} {w':World} {ops:Array Oper} {o:Oper} {Q:Exit->Act->World->Prop} {D C:List (Nat × Nat)} {B B0 R:World->Prop} {F:Nat->World->Prop}
theorem rjt (h:RJ a0 N n dst val l a) (hi:i∈Region.ready .any ops l) (j:Nat) (hc:(decide (j<n) && decide (dst j<N) && ((ops[i]?).any fun o=>o.after.any fun e=>e.on == j && Region.binds .any e))=true:=by kernel_rfl):a.tmps.getD (dst j) undef=val j:=Ywx h hi j hc
theorem Zd (hJ:RJ a0 N n dst val l a) (hW:Zas s n c0 D C B B0 F R l w') (hR:i∈Region.ready .any ops l) (hun:l.getD i false=false) (ho:ops[i]? = some o:=by exact rfl) (hw:Region.wanted o (yielded ops a.tmps)=true:=by exact rfl) (hdst:o.dst=some (dst i):=by exact rfl) (hi:i<n:=by decide) (hd:dst i<N:=by decide) (hne:∀ j,j<n->j≠i->dst j≠dst i) (hrun:(execOp a.eval o).run Tryz.prog w' = .ok (.value (val i)) w')
 (h:i≠s/\(D.all fun p=>p.1 != i || ((ops[i]?).any fun o=>o.after.any fun e=>e.on == p.2 && Region.binds .any e))=true/\F i w':=by exact ⟨by decide,by kernel_rfl,True.intro⟩) :
 wpOp Tryz.prog ops Q i (fun a' w''=>RJ a0 N n dst val (l.setIfInBounds i true) a'/\Zas s n c0 D C B B0 F R (l.setIfInBounds i true) w'') a w' :=
 Zqe hJ hW hR hun ho hw hdst hi hd hne hrun h
end
end Go.Proofs.YteciblfmgdlipaaGreatDoor.CK
namespace Go.Proofs.YteciblfmgdlipaaGreatDoor.AS
open Go.RowKit Go.Great CK
def Zhl (w:World) (p:Option Addr) (d:Txt):Prop:=0<d.length->∃ b o,p=some ⟨b,o,none⟩/\b<w.heap.size/\∀ (i:Nat) (c:UInt8),d[i]? = some c->w.cell? ⟨b,o+i,none⟩=some (.int .u8 (c.toNat:Int))
theorem Ziy {w w':World} {p:Option Addr} {d:Txt} (h:Zhl w p d) (g:w.grownBy w' none):Zhl w' p d:=fun h0=>by
 obtain ⟨b,o,e,hb,hc⟩:=h h0
 exact ⟨b,o,e,Nat.lt_of_lt_of_le hb g.size,fun i c hi=>g.cell (hc i c hi) (by simp)⟩
theorem Yto (w:World) (c:UInt8):Buf (w.alloc (.cells #[.int .u8 (c.toNat:Int)] 5)) w.heap.size (.slice (some ⟨w.heap.size,0,none⟩) 1 1) [c] :=
 World.ownsRow_lit (e:=5) (size:=1) w #[.int .u8 (c.toNat:Int)] 1 (Nat.le_refl _) (by decide) rfl
theorem Ycf (k:IntKind) (x y z u:Int):∀ v∈[Value.int k x,Value.int k y,Value.int k z,Value.int k u],v.oneCell'=true:=by
 intro v hv
 simp at hv
 rcases hv with rfl|rfl|rfl|rfl <;> rfl
theorem Zmx {w2:World} {E:Nat} {v:Value} {acc s:Txt} (h:w2.ownsRow E 5 1 v (acc.length+s.length) (bvs acc++bvs s)):Buf w2 E v (acc++s):=by
 unfold Buf
 rw [Zlt,List.length_append]
 exact h
theorem Zbc {E:Nat} {wr:World} (h:E<=wr.heap.size) (o:Obj):E<=(wr.alloc o).heap.size:=by simp;omega
def qt9:Nat->Nat
 | 0=>35
 | 1=>36
 | 2=>37
 | 3=>38
 | 4=>39
 | 5=>40
 | 6=>41
 | 7=>42
 | 8=>43
 | 9=>3
 | _=>5000
theorem Zgs:∀ i,i<10->∀ j,j<10->j≠i->qt9 j≠qt9 i:=by decide
theorem Zqi (i:Nat) (h:i<10):i=0\/i=1\/i=2\/i=3\/i=4\/i=5\/i=6\/i=7\/i=8\/i=9:=by omega
theorem Yge (j:Nat) (hj:j∈[5]):∀ i,i<10->qt9 i≠j:=by revert j;decide
def Zqh (E na c0:Nat) (cv h1 h2 d1 d2:Int) (p0:Option Addr) (ys:List Value) (q2:Nat) (gv:Nat) (cv9:Nat):Nat->Value
 | 0 => .slice p0 na c0
 | 1 => .int .u8 cv
 | 2 => .int .u8 h1
 | 3 => .int .u8 d1
 | 4 => .int .u8 cv
 | 5 => .int .u8 h2
 | 6 => .int .u8 d2
 | 7 => .slice (some ⟨q2,0,none⟩) 4 4
 | 8 => .slice (some ⟨gv,0,none⟩) (na+4) cv9
 | 9 => .slice (some ⟨gv,0,none⟩) (na+4) cv9
 | _=>undef
def Yyf (E na c0:Nat) (cv h1 h2 d1 d2:Int) (p0:Option Addr) (ys:List Value) (q2:Nat) (gv:Nat) (cv9:Nat):Nat->World->Prop
 | 7=>fun w9=>w9.heap[q2]? = some (.cells #[.int .u8 92,.int .u8 120,.int .u8 d1,.int .u8 d2] 5 (0,0))
 | 8=>fun w9=>w9.ownsRow E 5 1 (.slice (some ⟨gv,0,none⟩) (na+4) cv9) (na+4) (ys++[.int .u8 92,.int .u8 120,.int .u8 d1,.int .u8 d2])
 | _=>fun _=>True
theorem Yuu {E na c0:Nat} {cv h1 h2 d1 d2:Int} {p0:Option Addr} {ys:List Value} {q2:Nat} {gv:Nat} {cv9:Nat} {q22:Nat} {l:Array Bool} (hcl:∀ p∈([(2,1),(3,2),(5,4),(6,5),(7,3),(7,6),(8,0),(8,7),(9,8)]:List (Nat × Nat)),l.getD (Prod.fst p) false=true->l.getD (Prod.snd p) false=true) (hun:l.getD 7 false=false):∀ i,i<10->l.getD i false=true->qt9 i<49->Zqh E na c0 cv h1 h2 d1 d2 p0 ys q22 gv cv9 i=Zqh E na c0 cv h1 h2 d1 d2 p0 ys q2 gv cv9 i:=by
 intro i hi hl _
 rcases Zqi i hi with rfl|rfl|rfl|rfl|rfl|rfl|rfl|rfl|rfl|rfl <;> first|rfl|exact Zk (hl) hun
theorem Yut {E na c0:Nat} {cv h1 h2 d1 d2:Int} {p0:Option Addr} {ys:List Value} {q2:Nat} {gv:Nat} {cv9:Nat} {gv2:Nat} {cv92:Nat} {l:Array Bool} (hcl:∀ p∈([(2,1),(3,2),(5,4),(6,5),(7,3),(7,6),(8,0),(8,7),(9,8)]:List (Nat × Nat)),l.getD (Prod.fst p) false=true->l.getD (Prod.snd p) false=true) (hun:l.getD 8 false=false):∀ i,i<10->l.getD i false=true->qt9 i<49->Zqh E na c0 cv h1 h2 d1 d2 p0 ys q2 gv2 cv92 i=Zqh E na c0 cv h1 h2 d1 d2 p0 ys q2 gv cv9 i:=by
 intro i hi hl _
 rcases Zqi i hi with rfl|rfl|rfl|rfl|rfl|rfl|rfl|rfl|rfl|rfl <;> first|rfl|exact Zk (hl) hun|exact Zk (hcl (9,8) (by decide) (hl)) hun
theorem Ypn (h:Nat) (hh:h<16):∀ (h2:h<(⟨#[48,49,50,51,52,53,54,55,56,57,97,98,99,100,101,102]⟩:ByteArray).size),(⟨#[48,49,50,51,52,53,54,55,56,57,97,98,99,100,101,102]⟩:ByteArray)[h]'h2=Yta h:=by
 have:h=0\/h=1\/h=2\/h=3\/h=4\/h=5\/h=6\/h=7\/h=8\/h=9\/h=10\/h=11\/h=12\/h=13\/h=14\/h=15:=by omega
 rcases this with rfl|rfl|rfl|rfl|rfl|rfl|rfl|rfl|rfl|rfl|rfl|rfl|rfl|rfl|rfl|rfl <;> (intro h2;rfl)
theorem Yvy:∀ (x:Fin 256),bits BinOp.and IntKind.u8 (x.val:Int) 15=((x.val % 16:Nat):Int):=by decide
theorem Ytr (c:UInt8):bits BinOp.and IntKind.u8 (c.toNat:Int) 15=((c.toNat % 16:Nat):Int):=Yvy ⟨c.toNat,c.toNat_lt⟩
theorem Yno (w:World) (a b:Int):(Instr.buildSlice 23 4 #[(0,.int .u8 92),(1,.int .u8 120),(2,.int .u8 a),(3,.int .u8 b)]).run Tryz.prog w = .ok (.slice (some ⟨w.heap.size,0,none⟩) 4 4) (w.alloc (.cells #[.int .u8 92,.int .u8 120,.int .u8 a,.int .u8 b] 5)):=by kernel_rfl
theorem Ygf {w:World} {e:Nat} {cs:List Value} {t:TypeId} (h:w.heap[e]? = some (.cells cs.toArray t (0,0))):∀ j u,cs[j]? = some u->w.cell? ((⟨e,0,none⟩:Addr).add j)=some u:=fun j u hj=>by
 have e1:((⟨e,0,none⟩:Addr).add j)=⟨e,j,none⟩:=by
  unfold Addr.add
  by_cases h0:j=0 <;> simp [h0]
 rw [e1]
 simp [World.cell?,h,hj]
theorem Zid {a b c:World} {r:Option Nat} (h:a.grownBy b none) (g:b.grownBy c r):a.grownBy c r:=Za (Zon h) g
theorem Ygd (d:Txt) (p:Option Addr) (cc:Nat) (w:World) (h:Zhl w p d) (hl:d.length<=70000):Calls Tryz.prog 40 #[.slice p d.length cc] w fun e w'=>e = .returned (.string (bs (Yce d)))/\w.grownBy w' none:=by
 have HB:=Hq h
 clear h
 obtain ⟨bi,bi0,bi1,bi2,bi3⟩:=info_parts Zaz
 go_enter Tryz.func40,Tryz.ntmps40
 go_wp2
 go_loopw [3,9] (fun v i wr=>∃ k:Nat,i = .int .i64 k/\k<=d.length/\Buf wr w.heap.size v (34::(d.take k).flatMap Zwd)/\w.grownBy wr none) (fun _ i _=>d.length - (intOf i).toNat)
 case atStart=>exact ⟨0,rfl,Nat.zero_le _,Yto w 34,Ga _ _ _⟩
 case round =>
  obtain ⟨k,rfl,hk,ho,hg⟩:=hrel
  obtain ⟨acc,hacc⟩:∃ acc,acc=34::(d.take k).flatMap Zwd:=⟨_,rfl⟩
  rw [<- hacc] at ho
  have hal:acc.length<=280001:=by
   rw [hacc,List.length_cons]
   have:=Znp (d.take k)
   have:(d.take k).length<=d.length:=by rw [List.length_take];omega
   omega
  obtain ⟨p0,c0,rfl⟩:=Zpc ho
  have OW:=Hq ho
  have GR:=Hq hg
  have hgs:=hg.size
  have cv:=Zmy ho
  have HA:=Hq hacc
  clear ho hg hacc
  by_cases hlt:k<d.length
  · obtain ⟨c,hq⟩:∃ c,d[k]? = some c:=⟨_,List.getElem?_eq_getElem hlt⟩
    obtain ⟨b,o,rfl,hb,hc⟩:=HB.out (by omega)
    have x0:=GR.out.cell (hc k c hq) (by simp)
    have hb2:=Nat.lt_of_lt_of_le hb GR.out.size
    have NX:=Hq (show acc++Zwd c=34::(d.take (k+1)).flatMap Zwd by rw [HA.out,Yeu d k c hq];rfl)
    have c255:=c.toNat_lt
    clear hc hq
    by_cases he:c.toNat=34\/c.toNat=92
    · have QC:=Hq (Ylq he)
      have fin:∀ (v:Value) (w5:World),w5.ownsRow w.heap.size 5 1 v (acc.length+2) (bvs acc++[.int .u8 92,.int .u8 (c.toNat:Int)])->Buf w5 w.heap.size v (34::(d.take (k+1)).flatMap Zwd):=fun v w5 h=>by
       rw [<- NX.out,QC.out];exact Zmx h
      have FI:=Hq fin
      clear fin
      rcases (by omega:(c.toNat:Int)=34\/(c.toNat:Int)=92) with e1|e1
      all_goals
       clear he
       rw [e1] at x0 FI
       go_wp2_with (at_builtin;refine wpList_append_own_at _ rfl _ _ 23 rfl w.heap.size 5 bi (.int .u8 0) 1 1 Xv bi0 bi1 bi2 bi3 rfl (by decide) (.slice p0 acc.length c0) _ _ rfl (World.ownsRow.alloc OW.out _) ⟨wr.heap.size,0,none⟩ 2 2 _ rfl rfl (Yqd _ _ _ _) (Yki _ _ _) (by unfold maxLen;omega) (by omega) (Zbc hgs _) ?_;intro v3 w5 hown3 hgr3 hnil3 hat3;obtain ⟨p3,k3,hv3⟩:=Zi hown3;subst hv3;have OW3:=Hq hown3;have GR3:=Hq hgr3;clear hown3 hgr3 hnil3 hat3)
       exact ⟨⟨k+1,by go_num,by omega,FI.out _ _ OW3.out,Yf (Za GR.out (Ga _ _ none)) GR3.out (fun q hq=>(World.ownsRow.lt OW.out q hq).1)⟩,by simp [intOf];omega⟩
    · have e34:((c.toNat:Int) == 34)=false:=beq_eq_false_iff_ne.2 (by omega)
      have e92:((c.toNat:Int) == 92)=false:=beq_eq_false_iff_ne.2 (by omega)
      by_cases h2:c.toNat<32\/126<c.toNat
      · obtain ⟨x1,hx1⟩:∃ x,x=c.toNat / 16:=⟨_,rfl⟩
        obtain ⟨x2,hx2⟩:∃ x,x=c.toNat % 16:=⟨_,rfl⟩
        have hsh:(c.toNat:Int) / 16=(x1:Int):=by omega
        have han:=Ytr c
        have hlt1:(x1:Int)<16:=by omega
        have hlt2:(x2:Int)<16:=by omega
        have hy1:=Ypn x1 (by omega)
        have hy2:=Ypn x2 (by omega)
        have QC0:=Ylp he h2
        rw [<- hx2] at han QC0
        rw [<- hx1] at QC0
        generalize Yta x1=y1 at *
        generalize Yta x2=y2 at *
        have QC:=Hq QC0
        clear QC0 hx1 hx2
        rcases (by omega:(c.toNat:Int)<32\/(¬ (c.toNat:Int)<32/\126<(c.toNat:Int))) with e1|⟨e1,e2⟩
        all_goals
         clear h2
         go_upto_region 9 with fail
         refine Yd (n:=10) (J:=fun a0 l a1 w1=>∃ (q2:Nat) (gv:Nat) (cv9:Nat),RJ a0 49 10 qt9 (Zqh w.heap.size acc.length c0 (c.toNat:Int) (x1:Int) (x2:Int) (y1.toNat:Int) (y2.toNat:Int) p0 (bvs acc) q2 gv cv9) l a1/\Zas 10 10 8 [(2,1),(3,2),(5,4),(6,5),(7,3),(7,6),(8,0),(8,7),(9,8)] [(7,8)] (fun w9=>World.grownBy wr.drew w9 (Value.slice p0 acc.length c0).ownBlock) (fun w9=>w9.ownsRow w.heap.size 5 1 (.slice p0 acc.length c0) acc.length (bvs acc)) (Yyf w.heap.size acc.length c0 (c.toNat:Int) (x1:Int) (x2:Int) (y1.toNat:Int) (y2.toNat:Int) p0 (bvs acc) q2 gv cv9) (fun _=>True) l w1) (by kernel_rfl) rfl (Yt (by kernel_rfl)) (fun l a1 w1 h=>by obtain ⟨_,_,_,h,_⟩:=h;exact h.sz) ⟨0,0,0,Yc rfl,Zu (Zb _ _) (OW.out.drew)⟩ ?step ?fin
         case step =>
          intro l a1 w' i hJJ hi hin
          obtain ⟨q2,gv,cv9,hJ,hW⟩:=hJJ
          have hun:l.getD i false=false:=getD_both (mem_ready.1 hi).1
          have hns:=Xe hW hin hun
          have hg:=hW.g hns
          rcases Zqi i hin with rfl|rfl|rfl|rfl|rfl|rfl|rfl|rfl|rfl|rfl
          · have e3:a1.tmps.getD 3 undef = .slice p0 acc.length c0:=hJ.un 3 (fun i9 hi9 hl9 e9=>by rcases Zqi i9 hi9 with rfl|rfl|rfl|rfl|rfl|rfl|rfl|rfl|rfl|rfl <;> first|exact absurd e9 (by decide)|exact Zk (hW.cl (8,0) (by decide) (hW.cl (9,8) (by decide) (hl9))) hun)
            exact Zc (Zd hJ hW hi hun (hne:=Zgs _ (by decide)) (hrun:=by simp [execOp,resolve,invoke,builtin,Act.eval,e3,hsh,han,hlt1,hlt2,hy1,hy2,go_sem,Zqh])) (fun a9 w9 h9=>⟨q2,gv,cv9,h9⟩)
          · have e5:a1.tmps.getD 5 undef = .int .u8 (c.toNat:Int):=hJ.un 5 (fun i hi _=>Yge 5 (by decide) i hi)
            exact Zc (Zd hJ hW hi hun (hne:=Zgs _ (by decide)) (hrun:=by simp [execOp,Act.eval,e5,hsh,han,hlt1,hlt2,hy1,hy2,go_sem,Zqh])) (fun a9 w9 h9=>⟨q2,gv,cv9,h9⟩)
          · have e36:a1.tmps.getD 36 undef = .int .u8 (c.toNat:Int):=rjt hJ hi 1
            exact Zc (Zd hJ hW hi hun (hne:=Zgs _ (by decide)) (hrun:=by simp [execOp,Act.eval,e36,hsh,han,hlt1,hlt2,hy1,hy2,go_sem,Zqh])) (fun a9 w9 h9=>⟨q2,gv,cv9,h9⟩)
          · have e37:a1.tmps.getD 37 undef = .int .u8 (x1:Int):=rjt hJ hi 2
            exact Zc (Zd hJ hW hi hun (hne:=Zgs _ (by decide)) (hrun:=by simp [execOp,Act.eval,e37,hsh,han,hlt1,hlt2,hy1,hy2,go_sem,Zqh])) (fun a9 w9 h9=>⟨q2,gv,cv9,h9⟩)
          · have e5:a1.tmps.getD 5 undef = .int .u8 (c.toNat:Int):=hJ.un 5 (fun i hi _=>Yge 5 (by decide) i hi)
            exact Zc (Zd hJ hW hi hun (hne:=Zgs _ (by decide)) (hrun:=by simp [execOp,Act.eval,e5,hsh,han,hlt1,hlt2,hy1,hy2,go_sem,Zqh])) (fun a9 w9 h9=>⟨q2,gv,cv9,h9⟩)
          · have e39:a1.tmps.getD 39 undef = .int .u8 (c.toNat:Int):=rjt hJ hi 4
            exact Zc (Zd hJ hW hi hun (hne:=Zgs _ (by decide)) (hrun:=by simp [execOp,Act.eval,e39,hsh,han,hlt1,hlt2,hy1,hy2,go_sem,Zqh])) (fun a9 w9 h9=>⟨q2,gv,cv9,h9⟩)
          · have e40:a1.tmps.getD 40 undef = .int .u8 (x2:Int):=rjt hJ hi 5
            exact Zc (Zd hJ hW hi hun (hne:=Zgs _ (by decide)) (hrun:=by simp [execOp,Act.eval,e40,hsh,han,hlt1,hlt2,hy1,hy2,go_sem,Zqh])) (fun a9 w9 h9=>⟨q2,gv,cv9,h9⟩)
          · have e38:a1.tmps.getD 38 undef = .int .u8 (y1.toNat:Int):=rjt hJ hi 3
            have e41:a1.tmps.getD 41 undef = .int .u8 (y2.toNat:Int):=rjt hJ hi 6
            have f38:=e38
            rw [Array.getD_eq_getD_getElem?] at f38
            have f41:=e41
            rw [Array.getD_eq_getD_getElem?] at f41
            refine Zt (v:=Zqh w.heap.size acc.length c0 (c.toNat:Int) (x1:Int) (x2:Int) (y1.toNat:Int) (y2.toNat:Int) p0 (bvs acc) w'.heap.size gv cv9 7) (w':=w'.alloc (.cells #[.int .u8 92,.int .u8 120,.int .u8 (y1.toNat:Int),.int .u8 (y2.toNat:Int)] 5)) rfl (by rfl) (by simp [execOp,Act.eval,e38,f38,e41,f41,Yno,Result.andThen,Zqh]) ⟨w'.heap.size,gv,cv9,?_,Zo hW (by decide) hun (by decide) (Zg _ hi (by kernel_rfl)) (Za hg (Ga _ _ _)) (fun hne0 hun0 hB0=>hB0.alloc _) (fun j hj hne hl hcu hF => ?_) (heap_alloc_new w' _)⟩
            · exact Yg (val:=Zqh w.heap.size acc.length c0 (c.toNat:Int) (x1:Int) (x2:Int) (y1.toNat:Int) (y2.toNat:Int) p0 (bvs acc) w'.heap.size gv cv9) (Yj hJ (Yuu hW.cl hun)) (by decide) (by decide) (Zgs _ (by decide))
            · rcases Zqi j hj with rfl|rfl|rfl|rfl|rfl|rfl|rfl|rfl|rfl|rfl <;> first|exact True.intro|exact absurd rfl hne|exact Zk (hW.cl (8,7) (by decide) (hl)) hun
          · have e35:a1.tmps.getD 35 undef = .slice p0 acc.length c0:=rjt hJ hi 0
            have e42:a1.tmps.getD 42 undef = .slice (some ⟨q2,0,none⟩) 4 4:=rjt hJ hi 7
            have F7:=hW.f hns 7 (by decide) (Zq hi 7 (by kernel_rfl)) (Jg (c:=8) (by decide) hun)
            have own:=hW.u hun
            obtain ⟨v8,w8,hap,hown,hgr,-⟩:=run_append_own_at (P:=Tryz.prog) w' w.heap.size 23 23 5 bi (.int .u8 0) 1 1 Xv bi0 bi1 bi2 bi3 rfl (by decide) _ acc.length (bvs acc) own ⟨q2,0,none⟩ 4 4 [.int .u8 92,.int .u8 120,.int .u8 (y1.toNat:Int),.int .u8 (y2.toNat:Int)] rfl (Ygf F7) (Ycf _ _ _ _ _) (by unfold maxLen;omega) (by omega) (Nat.le_trans hgs hg.size)
            obtain ⟨gv2,cv92,hv⟩:=Js (n:=acc.length+3) hown
            subst hv
            refine Zt (v:=Zqh w.heap.size acc.length c0 (c.toNat:Int) (x1:Int) (x2:Int) (y1.toNat:Int) (y2.toNat:Int) p0 (bvs acc) q2 gv2 cv92 8) (w':=w8) rfl (by rfl) (by simp [execOp,resolve,invoke,builtin,Act.eval,e35,e42,hap,Result.andThen,Zqh]) ⟨q2,gv2,cv92,?_,Zo hW (by decide) hun (by decide) (Zg _ hi (by kernel_rfl)) (Za hg hgr) (fun hne0 hun0 hB0=>absurd rfl hne0) (fun j hj hne hl hcu hF => ?_) (hown)⟩
            · exact Yg (val:=Zqh w.heap.size acc.length c0 (c.toNat:Int) (x1:Int) (x2:Int) (y1.toNat:Int) (y2.toNat:Int) p0 (bvs acc) q2 gv2 cv92) (Yj hJ (Yut hW.cl hun)) (by decide) (by decide) (Zgs _ (by decide))
            · rcases Zqi j hj with rfl|rfl|rfl|rfl|rfl|rfl|rfl|rfl|rfl|rfl <;> first|exact True.intro|exact absurd rfl (hcu (7,8) (by decide) rfl).1|exact absurd rfl hne
          · have e43:a1.tmps.getD 43 undef = .slice (some ⟨gv,0,none⟩) (acc.length+4) cv9:=rjt hJ hi 8
            exact Zc (Zd hJ hW hi hun (hne:=Zgs _ (by decide)) (hrun:=by simp [execOp,resolve,invoke,builtin,Act.eval,e43,hsh,han,hlt1,hlt2,hy1,hy2,go_sem,Zqh])) (fun a9 w9 h9=>⟨q2,gv,cv9,h9⟩)
         case fin =>
          intro l9 a1 w9 hJJ hl9
          obtain ⟨q2,gv,cv9,hJ,hW⟩:=hJJ
          have hg9:=hW.g (Ju hW)
          have F8:=hW.f (Ju hW) 8 (by decide) (hl9 8 (by decide)) (Zat (by decide))
          have hput:=Ys hJ rfl hl9 (fun i j h1 h2 h3=>Zgs j h2 i h1 h3)
          subst hput
          clear hJ hW hl9
          (try refine hK _ _ ?_)
          simp only [Ja,qt9,Zqh,Act.put,List.setIfInBounds_toArray,List.set_cons_zero,List.set_cons_succ]
          have F9:=Hq (show Buf w9 w.heap.size (.slice (some ⟨gv,0,none⟩) (acc.length+4) cv9) (acc++Zwd c) by rw [QC.out];exact Zmx (s:=[92,120,y1,y2]) F8)
          have GG:=Hq (Yf GR.out (Zid (Ze (Zb wr none)) hg9) (fun q hq=>(World.ownsRow.lt OW.out q hq).1))
          clear hg9 F8
          go_wp2
          exact ⟨⟨k+1,by go_num,by omega,by rw [<- NX.out];exact F9.out,GG.out⟩,by simp [intOf];omega⟩
      · have QC:=Hq (Yln he h2)
        have i1:¬ (c.toNat:Int)<32:=by omega
        have i2:¬ 126<(c.toNat:Int):=by omega
        clear he h2
        go_wp2_with (at_builtin;refine wpList_append_own_at _ rfl _ _ 23 rfl w.heap.size 5 bi (.int .u8 0) 1 1 Xv bi0 bi1 bi2 bi3 rfl (by decide) (.slice p0 acc.length c0) _ _ rfl (World.ownsRow.alloc OW.out _) ⟨wr.heap.size,0,none⟩ 1 1 _ rfl rfl (Zcd _ _ _) (Zah _ _) (by unfold maxLen;omega) (by omega) (Zbc hgs _) ?_;intro v3 w5 hown3 hgr3 hnil3 hat3;obtain ⟨p3,k3,hv3⟩:=Zi hown3;subst hv3;have OW3:=Hq hown3;have GR3:=Hq hgr3;clear hown3 hgr3 hnil3 hat3)
        exact ⟨⟨k+1,by go_num,by omega,by rw [<- NX.out,QC.out];exact Zmx OW3.out,Yf (Za GR.out (Ga _ _ none)) GR3.out (fun q hq=>(World.ownsRow.lt OW.out q hq).1)⟩,by simp [intOf];omega⟩
  · have hkn:k=d.length:=by omega
    subst hkn
    have HQ:=Hq (show Yce d=acc++[34] by rw [HA.out,List.take_length];rfl)
    clear hlt
    go_wp2_with (first|(at_builtin;refine wpList_append_own_at _ rfl _ _ 23 rfl w.heap.size 5 bi (.int .u8 0) 1 1 Xv bi0 bi1 bi2 bi3 rfl (by decide) (.slice p0 acc.length c0) _ _ rfl (World.ownsRow.alloc OW.out _) ⟨wr.heap.size,0,none⟩ 1 1 _ rfl rfl (Zcd _ _ _) (Zah _ _) (by unfold maxLen;omega) (by omega) (Zbc hgs _) ?_;intro v3 w5 hown3 hgr3 hnil3 hat3;obtain ⟨p3,k3,hv3⟩:=Zi hown3;subst hv3;have OW3:=Hq hown3;have GR3:=Hq hgr3;clear hown3 hgr3 hnil3 hat3;have cv3:=Zmy (show Buf w5 w.heap.size (.slice p3 (acc++[34]).length k3) (acc++[34]) from by rw [List.length_append];exact Zmx OW3.out);rw [List.length_append] at cv3;simp only [List.length_cons,List.length_nil,Nat.zero_add] at cv3))
    go_ret
    rw [HQ.out]
    exact ⟨rfl,Yf (Za GR.out (Ga _ _ none)) GR3.out (fun q hq=>(World.ownsRow.lt OW.out q hq).1)⟩
theorem Zju {α:Type} {l m:List α} (hn:l.length=m.length) (h:l.take l.length=m.take l.length):l=m:=by
 rw [List.take_length,hn,List.take_length] at h;exact h
theorem Ztr {α:Type} {l m:List α} {k:Nat} {x:α} (h:l.take k=m.take k) (h1:l[k]? = some x) (h2:m[k]? = some x):l.take (k+1)=m.take (k+1):=by
 rw [List.take_add_one,List.take_add_one,h,h1,h2]
theorem Yco {α:Type} {l m:List α} {k:Nat} {x y:α} (h1:l[k]? = some x) (h2:m[k]? = some y) (h:x≠y):l≠m:=fun e=>by
 subst e
 rw [h1] at h2
 injection h2 with h2
 exact h h2
theorem Zde {p:Prop} [Decidable p] (h:¬ p):decide p=false:=decide_eq_false h
theorem Zwr (a b:List (Int × Int)) (pa pb:Option Addr) (ca cb A B:Nat) (w:World) (hA:Zpj w A pa a) (hB:Zpj w B pb b) (hn:a.length<=1000000000000) :
 Calls Tryz.prog 35 #[.slice pa a.length ca,.slice pb b.length cb] w fun e w'=>e = .returned (.bool (decide (a=b)))/\w.grownBy w' none:=by
 by_cases hl:a.length=b.length
 · have CA:=Hq hA
   have CB:=Hq hB
   have HL:=Hq hl
   clear hA hB
   rw [<- hl]
   clear hl
   go_enter Tryz.func35,Tryz.ntmps35
   go_wp2
   go_loopw [5] (fun i wr=>∃ k:Nat,i = .int .i64 k/\k<=a.length/\a.take k=b.take k/\w.grownBy wr none) (fun i _=>a.length - (intOf i).toNat)
   case atStart=>exact ⟨0,rfl,Nat.zero_le _,rfl,Zb _ _⟩
   case round =>
    obtain ⟨k,rfl,hk,ht,hg⟩:=hrel
    have HG:=Hq hg
    have HT:=Hq ht
    clear ht
    by_cases hlt:k<a.length
    · obtain ⟨⟨x,y⟩,hx⟩:∃ x,a[k]? = some x:=⟨_,List.getElem?_eq_getElem hlt⟩
      obtain ⟨⟨x',y'⟩,hx'⟩:∃ x,b[k]? = some x:=⟨_,List.getElem?_eq_getElem (by rw [<- HL.out];exact hlt)⟩
      obtain ⟨ga,oa,ea,la,fa⟩:=Zbi CA.out hg (by simp) (by omega)
      obtain ⟨gb,ob,eb,lb,fb⟩:=Zbi CB.out hg (by simp) (by rw [<- HL.out];omega)
      subst ea;subst eb
      obtain ⟨f0,f1⟩:=fa k x y hx
      obtain ⟨f2,f3⟩:=fb k x' y' hx'
      have la2:=World.block_lt_of_cell? _ _ f0
      have lb2:=World.block_lt_of_cell? _ _ f2
      have HX:=Hq hx
      have HX':=Hq hx'
      clear hg fa fb hx hx' la lb
      by_cases e1:x=x'
      · by_cases e2:y=y'
        · subst e1;subst e2
          go_wp2
          go_quiet (fail)
          go_wp2
          go_roundw
          case rel =>
           exact ⟨k+1,by go_num,by omega,Ztr HT.out HX.out HX'.out,Xn HG.out _⟩
          case measure=>simp [intOf];omega
        · subst e1
          have b2:(y == y')=false:=beq_eq_false_iff_ne.2 e2
          have HN:=Hq (Zde (Yco HX.out HX'.out (fun e=>e2 (congrArg Prod.snd e))))
          go_wp2
          go_quiet (fail)
          go_wp2
          go_ret
          rw [HN.out]
          exact ⟨rfl,Xn HG.out _⟩
      · have b1:(x == x')=false:=beq_eq_false_iff_ne.2 e1
        have HN:=Hq (Zde (Yco HX.out HX'.out (fun e=>e1 (congrArg Prod.fst e))))
        go_wp2
        go_quiet (fail)
        go_wp2
        go_ret
        rw [HN.out]
        exact ⟨rfl,Xn HG.out _⟩
    · have hkn:k=a.length:=by omega
      subst hkn
      have HE:=Hq (show decide (a=b)=true from decide_eq_true (Zju HL.out HT.out))
      clear hg hlt
      go_wp2
      go_ret
      rw [HE.out]
      exact ⟨rfl,HG.out⟩
 · have HN:=Hq (Zde (fun e:a=b=>hl (by rw [e])))
   have hb:((a.length:Int) == (b.length:Int))=false:=beq_eq_false_iff_ne.2 (by omega)
   have hb2:((a.length:Int) != (b.length:Int))=true:=by rw [bne_iff_ne];omega
   clear hl
   go_enter Tryz.func35,Tryz.ntmps35
   go_wp2
   go_ret
   rw [HN.out]
   exact ⟨rfl,Zb _ _⟩
theorem Zrk {w:World} {p:Option Addr} {d:Txt} (h:Zhl w p d) (c:Nat):(convert 23 9 (.slice p d.length c)).run Tryz.prog w = .ok (.string (bs d)) w:=by
 cases d with
 | nil =>
   cases p with
   | none=>exact run_convert_bytes_nil w _ _ Zfk Zfj _ _ _ Xl
   | some ad =>
     have hl:(loadCells ad 0).run Tryz.prog w = .ok (([]:List Int).map (Value.int .u8)).toArray w:=by simpa using run_loadCells_list (P:=Tryz.prog) w ad [] (by simp)
     rw [show ([]:Txt).length=0 from rfl,run_convert_bytes_string w _ _ _ _ _ c Zfk Zfj Xl]
     rw [run_bytesToString w ad 0 c [] hl]
     rfl
 | cons a r =>
   obtain ⟨b,o,rfl,hb,hc⟩:=h (by simp)
   rw [<- Zjh]
   refine run_convert_bytes_arg w _ _ Zfk Zfj b o (a::r).length c _ (by simp) (fun i hi => ?_) _ Xl
   have hd:((a::r).map fun c=>(c.toNat:Int)).getD i 0=(((a::r)[i]'hi).toNat:Int):=by
    rw [List.getD_eq_getElem?_getD,List.getElem?_map,List.getElem?_eq_getElem hi];rfl
   rw [hd]
   exact hc i _ (List.getElem?_eq_getElem hi)
def Zjl (p q:PrP):Bool:=decide (p.1=q.1) && decide (p.2.1=q.2.1) && decide (p.2.2=q.2.2)
theorem Zqc (p q:PrP):Zjl p q=true ↔ p=q:=by
 obtain ⟨a,b,c⟩:=p
 obtain ⟨a',b',c'⟩:=q
 simp [Zjl,and_assoc]
theorem Zik (p:PrP):Zjl p p=true:=(Zqc p p).2 rfl
theorem Zkr {p q:PrP} (h:p≠q):Zjl p q=false:=by
 cases e:Zjl p q
 · rfl
 · exact absurd ((Zqc p q).1 e) h
theorem Ybx (mem:Int) (d:Txt) (fs fs':List FnR):Zjl (mem,d,fs) (mem,d,fs')=decide (fs=fs'):=by simp [Zjl]
theorem Ypt (s:Txt):(bs s).toList=s:=by rw [Lib.toList_data,Xs]
structure SmB (w:World) (b1 b2:Nat) (v1 v2:Array Value):Prop where
 h1:w.heap[b1]? = some (.cells v1 26 (0,0))
 h2:w.heap[b2]? = some (.cells v2 26 (0,0))
theorem Zzb {w w':World} {b1 b2:Nat} {v1 v2:Array Value} (h:SmB w b1 b2 v1 v2) (g:w.grownBy w' none):SmB w' b1 b2 v1 v2:=⟨Zf h.h1 g (by simp),Zf h.h2 g (by simp)⟩
theorem Yqv (w:World) (v1 v2:Array Value):SmB ((w.alloc (.cells v1 26)).alloc (.cells v2 26)) w.heap.size (w.heap.size+1) v1 v2:=by
 have h:=heap_alloc_new (w.alloc (.cells v1 26)) (.cells v2 26)
 rw [World.size_alloc] at h
 exact ⟨Zf (heap_alloc_new w _) (Ga _ _ none) (by simp),h⟩
theorem Yvx {d d':Txt} (h:d≠d'):((bs d).toList == (bs d').toList)=false:=by rw [Ypt,Ypt];exact beq_eq_false_iff_ne.2 h
theorem Zze (p p':PrP) (pd pd' pF pF':Option Addr) (cd cd' cF cF' B B':Nat) (w:World) (hn:p.2.2.length<=1000000000000) (hc:∀ x∈p.2.2,x.2.2.2.length<=1000000000000)
 (hD:Zhl w pd p.2.1) (hD':Zhl w pd' p'.2.1) (hF:Zdi w B pF p.2.2) (hF':Zdi w B' pF' p'.2.2) :
 Calls Tryz.prog 15 #[.agg #[.int .i64 p.1,.slice pd p.2.1.length cd,.slice pF p.2.2.length cF],.agg #[.int .i64 p'.1,.slice pd' p'.2.1.length cd',.slice pF' p'.2.2.length cF']] w fun e w'=>e = .returned (.bool (Zjl p p'))/\w.grownBy w' none:=by
 obtain ⟨mem,d,fs⟩:=p
 obtain ⟨mem',d',fs'⟩:=p'
 simp only at hn hc hD hD' hF hF' ⊢
 have G2:=Za (Ga w (.cells #[.int .i64 mem,.slice pd d.length cd,.slice pF fs.length cF] 26) none) (Ga _ (.cells #[.int .i64 mem',.slice pd' d'.length cd',.slice pF' fs'.length cF'] 26) none)
 have PA:=Hq (Jx hF G2 (by simp))
 have PB:=Hq (Jx hF' G2 (by simp))
 have k1:=Zrk (Ziy hD G2) cd
 have k2:=Zrk (Ziy hD' G2) cd'
 have GB:=Hq G2
 have BX:=Hq (Yqv w #[.int .i64 mem,.slice pd d.length cd,.slice pF fs.length cF] #[.int .i64 mem',.slice pd' d'.length cd',.slice pF' fs'.length cF'])
 have HC:=Hq hc
 clear hD hD' hF hF' G2 hc
 by_cases em:mem=mem'
 · by_cases ed:d=d'
   · by_cases en:fs.length=fs'.length
     · subst em;subst ed
       have HL:=Hq en
       have hni:(fs.length:Int)<=1000000000000:=by omega
       have HT0:=Hq (Ybx mem d fs fs')
       go_enter Tryz.func15,Tryz.ntmps15
       rw [<- en] at BX k1 k2 GB PA PB ⊢
       clear en
       go_wp2
       clear k1 k2
       generalize (w.alloc (.cells #[.int .i64 mem,.slice pd d.length cd,.slice pF fs.length cF] 26)).alloc (.cells #[.int .i64 mem,.slice pd' d.length cd',.slice pF' fs.length cF'] 26)=w2 at *
       go_loopw [5] (fun i wr=>∃ k:Nat,i = .int .i64 k/\k<=fs.length/\fs.take k=fs'.take k/\w2.grownBy wr none) (fun i _=>fs.length - (intOf i).toNat)
       case atStart=>exact ⟨0,rfl,Nat.zero_le _,rfl,Zb _ _⟩
       case round =>
        obtain ⟨k,rfl,hk,ht,hg⟩:=hrel
        have HG:=Hq hg
        have HT:=Hq ht
        have hx1:=(Zzb BX.out hg).h1
        have hx2:=(Zzb BX.out hg).h2
        have a2:=Cq wr _ 2 _ _ _ hx1
        have b2:=Cq wr _ 2 _ _ _ hx2
        have al:=(Gs hx1)
        have bbl:=(Gs hx2)
        clear ht hx1 hx2
        by_cases hlt:k<fs.length
        · obtain ⟨⟨a,l,r,c⟩,hx⟩:∃ x,fs[k]? = some x:=⟨_,List.getElem?_eq_getElem hlt⟩
          obtain ⟨⟨a',l',r',c'⟩,hx'⟩:∃ x,fs'[k]? = some x:=⟨_,List.getElem?_eq_getElem (by rw [<- HL.out];exact hlt)⟩
          obtain ⟨ga,oa,ea,la,ca⟩:=Jx PA.out hg (by simp) (by omega)
          obtain ⟨gb,ob,eb,lb,cb⟩:=Jx PB.out hg (by simp) (by rw [<- HL.out];omega)
          subst ea;subst eb
          obtain ⟨f0,f1,f2,pc,cc,f3,q4⟩:=ca k a l r c hx
          obtain ⟨f4,f5,f6,pc',cc',f7,t4⟩:=cb k a' l' r' c' hx'
          have la2:=World.block_lt_of_cell? _ _ f0
          have lb2:=World.block_lt_of_cell? _ _ f4
          have hcl:=HC.out _ (List.mem_of_getElem? hx)
          simp only [] at hcl
          have GW:=Za (Ga wr (.cells #[.int .i64 a,.int .i64 l,.int .i64 r,.slice pc c.length cc] 61) none) (Ga _ (.cells #[.int .i64 a',.int .i64 l',.int .i64 r',.slice pc' c'.length cc'] 61) none)
          have SI:=Hq (Zwr c c' pc pc' cc cc' B B' _ (Zbi q4 GW (by simp)) (Zbi t4 GW (by simp)) hcl)
          have HGW:=Hq (Za hg GW)
          have HX:=Hq hx
          have HX':=Hq hx'
          clear hg ca cb hx hx' q4 t4 GW la lb hcl
          by_cases e1:a=a'
          · by_cases e2:l=l'
            · by_cases e3:r=r'
              · subst e1;subst e2;subst e3
                by_cases e4:c=c'
                · subst e4
                  have TR:=Hq (show decide (c=c)=true by simp)
                  rw [TR.out] at SI
                  go_wp2_with (go_at_call 35;refine SI.out.mono ?_;rintro e w5 ⟨rfl,hg5⟩;have G5:=Hq hg5;clear hg5)
                  exact ⟨⟨k+1,by go_num,by omega,Ztr HT.out HX.out HX'.out,Za HGW.out G5.out⟩,by simp [intOf];omega⟩
                · rw [Zde e4] at SI
                  have HN:=Hq (HT0.out.trans (Zde (Yco HX.out HX'.out (fun e=>e4 (congrArg (fun x=>x.2.2.2) e)))))
                  go_wp2_with (go_at_call 35;refine SI.out.mono ?_;rintro e w5 ⟨rfl,hg5⟩;have G5:=Hq hg5;clear hg5)
                  go_ret
                  rw [HN.out]
                  exact ⟨rfl,Za GB.out (Za HGW.out G5.out)⟩
              · have b3:(r == r')=false:=beq_eq_false_iff_ne.2 e3
                have b3':(r != r')=true:=by rw [bne_iff_ne];exact e3
                have HN:=Hq (HT0.out.trans (Zde (Yco HX.out HX'.out (fun e=>e3 (congrArg (fun x=>x.2.2.1) e)))))
                subst e1;subst e2
                go_wp2
                go_ret
                rw [HN.out]
                exact ⟨rfl,Za GB.out HGW.out⟩
            · have b3:(l == l')=false:=beq_eq_false_iff_ne.2 e2
              have b3':(l != l')=true:=by rw [bne_iff_ne];exact e2
              have HN:=Hq (HT0.out.trans (Zde (Yco HX.out HX'.out (fun e=>e2 (congrArg (fun x=>x.2.1) e)))))
              subst e1
              go_wp2
              go_ret
              rw [HN.out]
              exact ⟨rfl,Za GB.out HGW.out⟩
          · have b3:(a == a')=false:=beq_eq_false_iff_ne.2 e1
            have b3':(a != a')=true:=by rw [bne_iff_ne];exact e1
            have HN:=Hq (HT0.out.trans (Zde (Yco HX.out HX'.out (fun e=>e1 (congrArg (fun x=>x.1) e)))))
            go_wp2
            go_ret
            rw [HN.out]
            exact ⟨rfl,Za GB.out HGW.out⟩
        · have hkn:k=fs.length:=by omega
          subst hkn
          have HE:=Hq (HT0.out.trans (decide_eq_true (Zju HL.out HT.out)))
          clear hg hlt
          go_wp2
          go_ret
          rw [HE.out]
          exact ⟨rfl,Za GB.out HG.out⟩
     · have HN:=Hq (Zkr (fun e:(mem,d,fs)=(mem',d',fs')=>en (congrArg (fun x:PrP=>x.2.2.length) e)))
       have hb:((fs.length:Int) == (fs'.length:Int))=false:=beq_eq_false_iff_ne.2 (by omega)
       have hb2:((fs.length:Int) != (fs'.length:Int))=true:=by rw [bne_iff_ne];omega
       subst em;subst ed
       go_enter Tryz.func15,Tryz.ntmps15
       go_wp2
       go_ret
       rw [HN.out]
       exact ⟨rfl,GB.out⟩
   · have HN:=Hq (Zkr (fun e:(mem,d,fs)=(mem',d',fs')=>ed (congrArg (fun x:PrP=>x.2.1) e)))
     have hb:=Yvx ed
     subst em
     go_enter Tryz.func15,Tryz.ntmps15
     go_wp2
     go_ret
     rw [HN.out]
     exact ⟨rfl,GB.out⟩
 · have HN:=Hq (Zkr (fun e:(mem,d,fs)=(mem',d',fs')=>em (congrArg (fun x:PrP=>x.1) e)))
   have hb:(mem == mem')=false:=beq_eq_false_iff_ne.2 em
   have hb2:(mem != mem')=true:=by rw [bne_iff_ne];exact em
   go_enter Tryz.func15,Tryz.ntmps15
   go_wp2
   go_ret
   rw [HN.out]
   exact ⟨rfl,GB.out⟩
def Yi (w0 w:World) (p m:Nat) (r:Option (CS × Option Int)) (e:Ending) (w':World):Prop :=
 (match r with
   | some (c,x)=>e = .returned .nilIface/\PS w0 w' p m c (Zgw x)
   | none=>e = .returned (Zwf 141))/\Fr w w'/\w0.grownBy w' none
theorem Zan {w0 w:World} {p m:Nat} {c:CS} {pend vd vF vL vB:Value} {bm:Nat} {cv:List Value} {lb:List Nat} (h:Zjb w0 w p m c pend vd vF vL vB bm cv lb):∃ pF cF,vF = .slice pF c.funcs.length cF:=Zi h.ins.own.fr
theorem Ylx {w0 w:World} {p m:Nat} {c:CS} {pend vd vF vL vB:Value} {bm:Nat} {cv:List Value} {lb:List Nat} (h:Zjb w0 w p m c pend vd vF vL vB bm cv lb) (n:Int) :
 PS w0 ((w.setCell ⟨p,3,none⟩ (.bool true)).setCell ⟨p,0,none⟩ (.int .i64 n)) p m { c with mem:=n,ms:=true } pend/\w.grownBy ((w.setCell ⟨p,3,none⟩ (.bool true)).setCell ⟨p,0,none⟩ (.int .i64 n)) (some p):=by
 have g:=Za (Zm w p 3 (.bool true)) (Zm (w.setCell ⟨p,3,none⟩ (.bool true)) p 0 (.int .i64 n))
 refine ⟨⟨vd,vF,vL,vB,bm,cv,lb,Zy (Zy h.gr h.ge) h.ge,h.ge,?_,Ylu (Zfq h.ins h.box g) n true,h.lens⟩,g⟩
 rw [Zj (Zj h.box)];rfl
def Yjz (c:CS) (x:Option Int) (ps:List Pc):Option (CS × Option Int) :=
 match Zff ps 1 with
 | none=>none
 | some xs=>if c.ms=true\/0<c.funcs.length then none else some ({ c with mem:=xs.headD 0,ms:=true },Zpe x ps)
theorem Zib (w0 w:World) (p m:Nat) (c:CS) (x:Option Int) (ps:List Pc) (pp:Option Addr) (cc:Nat) (h:PS w0 w p m c (Zgw x)) (hp:Zkh w pp ps) (hn:ps.length<=70000) :
 Calls Tryz.prog 77 #[.pointer (some ⟨p,0,none⟩),.slice pp ps.length cc] w (Yi w0 w p m (Yjz c x ps)):=by
 have HS:=Hq h
 have NM:=Hq (Zio w0 w p m c x ps pp cc 1 h hp hn (by decide))
 clear h hp
 unfold Yjz
 cases hnum:Zff ps 1 with
 | none =>
   have NN:=NM.out
   unfold Zkf at NN
   rw [hnum] at NN
   have N2:=Hq NN
   clear NN NM hnum
   go_enter Tryz.func77,Tryz.ntmps77
   go_wp2_with (go_at_call 113;refine N2.out.mono ?_;rintro e w2 ⟨⟨rfl,x',hps⟩,hg⟩;have S2:=Hq hps;have G2:=Hq hg;clear hps hg)
   go_ret
   exact ⟨rfl,Zea HS.out G2.out,Zdg S2.out⟩
 | some xs =>
   have hxs:xs.length=1/\xs=ps.map pcN:=by
    unfold Zff at hnum
    split at hnum
    · rename_i h1
      injection hnum with hnum
      subst hnum
      exact ⟨by simpa using h1.1,rfl⟩
    · cases hnum
   obtain ⟨n,rfl⟩:∃ n,xs=[n]:=by
    cases xs with
    | nil=>simp at hxs
    | cons a r=>cases r with|nil=>exact ⟨a,rfl⟩|cons b r=>simp at hxs
   have NN:=NM.out
   unfold Zkf at NN
   rw [hnum] at NN
   have N2:=Hq NN
   clear NN NM hnum hxs
   by_cases hbad:c.ms=true\/0<c.funcs.length
   · rw [show (match some [n] with|none=>none|some xs=>if c.ms=true\/0<c.funcs.length then none else some (({ c with mem:=xs.headD 0,ms:=true }:CS),Zpe x ps))=none by simp [hbad]]
     have HB:c.ms=true\/(c.ms=false/\0<(c.funcs.length:Int)):=by
      rcases hbad with h|h
      · exact Or.inl h
      · cases hm:c.ms with
        | true=>exact Or.inl rfl
        | false=>exact Or.inr ⟨rfl,by omega⟩
     clear hbad
     rcases HB with hm|⟨hm,hf⟩
     all_goals
      go_enter Tryz.func77,Tryz.ntmps77
      go_wp2_with (go_at_call 113;refine N2.out.mono ?_;rintro e w2 ⟨⟨q,k,rfl,hrow,hps⟩,hg⟩;have S2:=Hq hps;have G2:=Hq hg;obtain ⟨vd,vF,vL,vB,bm,cv,lb,hA⟩:=hps;have A:=Hq hA;obtain ⟨pF,cF,hvF⟩:=Zan hA;have bx:=hA.box;rw [hvF,hm] at bx;have c2:=Cq w2 p 2 _ _ _ bx;have c3:=Cq w2 p 3 _ _ _ bx;have hlt:p<w2.heap.size:=(Gs bx);clear hA bx hg hrow hvF)
      go_ret
      exact ⟨rfl,Zea HS.out G2.out,Zdg S2.out⟩
   · rw [show (match some [n] with|none=>none|some xs=>if c.ms=true\/0<c.funcs.length then none else some (({ c with mem:=xs.headD 0,ms:=true }:CS),Zpe x ps))=some ({ c with mem:=n,ms:=true },Zpe x ps) by simp [hbad]]
     have hm:c.ms=false:=by cases h:c.ms with|true=>exact absurd (Or.inl h) hbad|false=>rfl
     have hf:(c.funcs.length:Int)=0:=by omega
     clear hbad
     go_enter Tryz.func77,Tryz.ntmps77
     go_wp2_with (go_at_call 113;refine N2.out.mono ?_;rintro e w2 ⟨⟨q,k,rfl,hrow,hps⟩,hg⟩;have S2:=Hq hps;have G2:=Hq hg;obtain ⟨vd,vF,vL,vB,bm,cv,lb,hA⟩:=hps;have A:=Hq hA;obtain ⟨pF,cF,hvF⟩:=Zan hA;have bx:=hA.box;rw [hvF,hm] at bx;have c0:=Cq w2 p 0 _ _ _ bx;have c2:=Cq w2 p 2 _ _ _ bx;have c3:=Cq w2 p 3 _ _ _ bx;have z0:=frozen_of_row w2 p 0 _ _ bx;have z3:=frozen_of_row w2 p 3 _ _ bx;have hlt:p<w2.heap.size:=(Gs bx);obtain ⟨g,cap,hv,hg1,hc1⟩:=Zv hrow (by simp);injection hv with hv _ _;subst hv;have d0:=hc1 0 (.int .i64 n) rfl (by simp);have hgp:g≠p:=(fun e=>by have:=(World.ownsRow.lt hrow g rfl).1;have:=(Yls HS.out).2;omega);clear hA bx hg hrow hvF hc1)
     go_ret
     have M:=Ylx A.out n
     exact ⟨⟨rfl,M.1⟩,Zz (Zea HS.out G2.out) (Zea S2.out M.2),Zdg M.1⟩
end Go.Proofs.YteciblfmgdlipaaGreatDoor.AS
