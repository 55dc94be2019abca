/-
  Part of a proof: contracts of functions and lemmas, each stated by its own theorem. Conditions: as each theorem states.
-/
import Derived.Test.YthlkflagancdfaaML00
import Derived.Test.YthlkflagancdfaaML01
import Derived.Deep.Cut
set_option linter.unusedSimpArgs false
set_option linter.unusedVariables false
set_option maxRecDepth 100000
set_option maxHeartbeats 16000000
namespace Go.Proofs.Ythlkflagancdfaa.CK
open Go.RowKit Go.Great
theorem Zvx {a:Act} {N d:Nat} {v:Value} (hs:a.tmps.size=N) (hd:d<N) (e:Nat):tm (a.put (some d) v) e=if e=d then v else tm a e:=by
 unfold tm Act.put
 by_cases h:e=d
 · subst h;simp [hs,hd]
 · rw [if_neg h];simp [Array.getD_eq_getD_getElem?,Array.getElem?_setIfInBounds_ne (Ne.symm h)]
theorem Zst {a:Act} {N:Nat} {d:Option Tmp} {v:Value} (hs:a.tmps.size=N):(a.put d v).tmps.size=N:=by cases d <;> simp [Act.put,hs]
structure RJ (a0:Act) (N n:Nat) (dst:Nat->Nat) (val:Nat->Value) (l:Array Bool) (a:Act):Prop where
 sz:l.size=n
 ts:a.tmps.size=N
 df:a.defers=a0.defers
 sl:∀ i,i<n->l.getD i false=true->dst i<N->tm a (dst i)=val i
 un:∀ j,(∀ i,i<n->l.getD i false=true->dst i≠j)->tm a j=tm a0 j
theorem Jq {a0 a:Act} {N n i:Nat} {dst:Nat->Nat} {val:Nat->Value} {l:Array Bool} (h:RJ a0 N n dst val l a) (hi:i<n) (hd:dst i<N) (hne:∀ j,j<n->j≠i->dst j≠dst i) :
 RJ a0 N n dst val (l.setIfInBounds i true) (a.put (some (dst i)) (val i)):=by
 have hgs:∀ j,(l.setIfInBounds i true).getD j false=if j=i then true else l.getD j false:=fun j=>Yc l i j (by rw [h.sz];exact hi)
 have T:∀ e,tm (a.put (some (dst i)) (val i)) e=if e=dst i then val i else tm a e:=fun e=>Zvx h.ts hd e
 refine ⟨by simp [h.sz],Zst h.ts,h.df,fun j hj hl hdj => ?_,fun j hj => ?_⟩
 · rw [hgs] at hl
   by_cases hji:j=i
   · subst hji;rw [T,if_pos rfl]
   · rw [if_neg hji] at hl
     rw [T,if_neg (hne j hj hji)]
     exact h.sl j hj hl hdj
 · have h1:=hj i hi (by rw [hgs,if_pos rfl])
   rw [T,if_neg (Ne.symm h1)]
   refine h.un j fun i' hi' hl'=>hj i' hi' ?_
   rw [hgs]
   by_cases e:i'=i
   · rw [if_pos e]
   · rw [if_neg e];exact hl'
theorem Zly {a0 a:Act} {N n i:Nat} {dst:Nat->Nat} {val:Nat->Value} {l:Array Bool} (h:RJ a0 N n dst val l a) (hi:i<n) (hd:N<=dst i):RJ a0 N n dst val (l.setIfInBounds i true) a:=by
 have hgs:∀ j,(l.setIfInBounds i true).getD j false=if j=i then true else l.getD j false:=fun j=>Yc l i j (by rw [h.sz];exact hi)
 refine ⟨by simp [h.sz],h.ts,h.df,fun j hj hl hdj => ?_,fun j hj => ?_⟩
 · rw [hgs] at hl
   by_cases hji:j=i
   · subst hji;omega
   · rw [if_neg hji] at hl;exact h.sl j hj hl hdj
 · refine h.un j fun i' hi' hl'=>hj i' hi' ?_
   rw [hgs]
   by_cases e:i'=i
   · rw [if_pos e]
   · rw [if_neg e];exact hl'
theorem Xd {a0:Act} {N n:Nat} {dst:Nat->Nat} {val:Nat->Value} (hs:a0.tmps.size=N):RJ a0 N n dst val (Array.replicate n false) a0 :=
 ⟨by simp,hs,rfl,fun i hi hl _=>(by rw [getD_replicate_false] at hl;cases hl),fun j _=>rfl⟩
theorem Zjw {a b:Act} (hs:a.tmps.size=b.tmps.size) (hd:a.defers=b.defers) (ht:∀ j,j<a.tmps.size->tm a j=tm b j):a=b:=by
 obtain ⟨ta,da⟩:=a
 obtain ⟨tb,db⟩:=b
 simp only at hs hd
 subst hd
 congr 1
 refine Array.ext hs fun j h1 h2 => ?_
 have:=ht j h1
 simpa [tm,h1,h2] using this
theorem Yvf {a0 a aF:Act} {N n:Nat} {dst:Nat->Nat} {val:Nat->Value} {l:Array Bool} (h:RJ a0 N n dst val l a) (hl:∀ j,j<n->l.getD j false=true) (hs:aF.tmps.size=N) (hd:aF.defers=a0.defers)
 (hv:∀ i,i<n->dst i<N->tm aF (dst i)=val i) (hu:∀ j,(∀ i,i<n->dst i≠j)->tm aF j=tm a0 j):a=aF:=by
 refine Zjw (h.ts.trans hs.symm) (h.df.trans hd.symm) fun j hj => ?_
 by_cases he:∃ i,i<n/\dst i=j
 · obtain ⟨i,hi,rfl⟩:=he
   have hN:dst i<N:=by rw [<- h.ts];exact hj
   rw [h.sl i hi (hl i hi) hN,hv i hi hN]
 · have hne:∀ i,i<n->dst i≠j:=fun i hi e=>he ⟨i,hi,e⟩
   rw [h.un j (fun i hi _=>hne i hi),hu j hne]
def Zai (a0:Act) (dst:Nat->Nat) (val:Nat->Value):Nat->Act
 | 0=>a0
 | n+1=>(Zai a0 dst val n).put (some (dst n)) (val n)
theorem Zgr {a0:Act} {N:Nat} {dst:Nat->Nat} {val:Nat->Value} (hs:a0.tmps.size=N):∀ n,(Zai a0 dst val n).tmps.size=N
 | 0=>hs
 | n+1=>Zst (Zgr hs n)
theorem Zkb {a0:Act} {dst:Nat->Nat} {val:Nat->Value}:∀ n,(Zai a0 dst val n).defers=a0.defers
 | 0=>rfl
 | n+1=>Zkb n
theorem Zyp {a0:Act} {N:Nat} {dst:Nat->Nat} {val:Nat->Value} (hs:a0.tmps.size=N):∀ n,(∀ i j,i<n->j<n->i≠j->dst i≠dst j)->∀ i,i<n->dst i<N->tm (Zai a0 dst val n) (dst i)=val i
 | 0,_,i,hi,_=>by omega
 | n+1,hne,i,hi,hd=>by
   rw [Zai]
   by_cases e:i=n
   · subst e;rw [Zvx (Zgr hs i) hd,if_pos rfl]
   · have h1:=Zyp (a0:=a0) (val:=val) hs n (fun i j h1 h2=>hne i j (by omega) (by omega)) i (by omega) hd
     by_cases hn:dst n<N
     · rw [Zvx (Zgr hs n) hn,if_neg (hne i n (by omega) (by omega) e)];exact h1
     · have:∀ v,tm ((Zai a0 dst val n).put (some (dst n)) v) (dst i)=tm (Zai a0 dst val n) (dst i):=by
        intro v
        unfold tm Act.put
        simp [Array.getD_eq_getD_getElem?,Array.getElem?_setIfInBounds_ne (hne n i (by omega) (by omega) (Ne.symm e))]
       rw [this];exact h1
theorem Ztf {a0:Act} {dst:Nat->Nat} {val:Nat->Value}:∀ n j,(∀ i,i<n->dst i≠j)->tm (Zai a0 dst val n) j=tm a0 j
 | 0,_,_=>rfl
 | n+1,j,h=>by
   rw [Zai]
   have:tm ((Zai a0 dst val n).put (some (dst n)) (val n)) j=tm (Zai a0 dst val n) j:=by
    unfold tm Act.put
    simp [Array.getD_eq_getD_getElem?,Array.getElem?_setIfInBounds_ne (h n (by omega))]
   rw [this]
   exact Ztf n j (fun i hi=>h i (by omega))
theorem Jf {a0 a:Act} {N n:Nat} {dst:Nat->Nat} {val:Nat->Value} {l:Array Bool} (h:RJ a0 N n dst val l a) (h0:a0.tmps.size=N) (hl:∀ j,j<n->l.getD j false=true) (hne:∀ i j,i<n->j<n->i≠j->dst i≠dst j):a=Zai a0 dst val n :=
 Yvf h hl (Zgr h0 n) (Zkb n) (Zyp h0 n hne) (Ztf n)
theorem Yqf {a:Act} {d:Nat} (hs:d<a.tmps.size):a.tmps[d]? = some (a.tmps.getD d undef):=by
 rw [Array.getElem?_eq_getElem hs];simp [hs]
theorem Yj {ops:Array Oper} {o:Oper} {a:Act} {k d:Nat} {b:Bool} (hg:o.guard=some (k,b)) (hk:(ops[k]?).bind (·.dst)=some d) (hs:d<a.tmps.size) (hv:a.tmps.getD d undef = .bool b):Region.wanted o (yielded ops a.tmps)=true:=by
 have h1:=Yqf hs
 rw [hv] at h1
 unfold Region.wanted
 rw [hg]
 simp [yielded,hk,h1]
theorem Zm {ops:Array Oper} {a0 a:Act} {N n i:Nat} {dst:Nat->Nat} {val:Nat->Value} {l:Array Bool} (h:RJ a0 N n dst val l a) (hi:i∈Region.ready .any ops l) (j:Nat) (hc:(decide (j<n) && decide (dst j<N) && ((ops[i]?).any fun o=>o.after.any fun e=>e.on == j && Region.binds .any e))=true):a.tmps.getD (dst j) undef=val j:=by
 simp only [Bool.and_eq_true,decide_eq_true_eq] at hc
 exact h.sl j hc.1.1 (Zf hi j hc.2) hc.1.2
theorem Jj {a0 a:Act} {N n:Nat} {dst:Nat->Nat} {val val':Nat->Value} {l:Array Bool} (h:RJ a0 N n dst val l a) (hv:∀ i,i<n->l.getD i false=true->dst i<N->val' i=val i):RJ a0 N n dst val' l a :=
 ⟨h.sz,h.ts,h.df,fun i hi hl hd=>by rw [hv i hi hl hd];exact h.sl i hi hl hd,h.un⟩
section
variable {ops:Array Oper} {Q:Exit->Act->World->Prop} {a0 a:Act} {N n i:Nat} {dst:Nat->Nat} {val:Nat->Value} {l:Array Bool} {w w':World} {WS:Array Bool->World->Prop} {o:Oper}
theorem Yqr (hJ:RJ a0 N n dst val l a) (ho:ops[i]? = some o) (hg:o.guard=none) (hdst:o.dst=none) (hi:i<n) (hd:N<=dst i) (hrun:(execOp a.eval o).run Try.prog w = .ok .skip w') (hW:WS (l.setIfInBounds i true) w') :
 wpOp Try.prog ops Q i (fun a' w''=>RJ a0 N n dst val (l.setIfInBounds i true) a'/\WS (l.setIfInBounds i true) w'') a w :=
 Zfp ho hg hdst hrun ⟨Zly hJ hi hd,hW⟩
theorem Zdc (hJ:RJ a0 N n dst val l a) (ho:ops[i]? = some o) (hw:Region.wanted o (yielded ops a.tmps)=true) (hdst:o.dst=some (dst i)) (hi:i<n) (hd:dst i<N) (hne:∀ j,j<n->j≠i->dst j≠dst i) (hrun:(execOp a.eval o).run Try.prog w = .ok (.value (val i)) w') (hW:WS (l.setIfInBounds i true) w') :
 wpOp Try.prog ops Q i (fun a' w''=>RJ a0 N n dst val (l.setIfInBounds i true) a'/\WS (l.setIfInBounds i true) w'') a w:=by
 unfold wpOp
 simp only [ho]
 rw [if_pos hw]
 refine Or.inl ?_
 unfold Oper.wp
 rw [hrun,Oper.upon_value,hdst]
 exact ⟨Jq hJ hi hd hne,hW⟩
theorem Zwh (hJ:RJ a0 N n dst val l a) (ho:ops[i]? = some o) (hw:Region.wanted o (yielded ops a.tmps)=true) (hdst:o.dst=some (dst i)) (hi:i<n) (hd:dst i<N) (hne:∀ j,j<n->j≠i->dst j≠dst i) {f:FuncId} {args:Array Value} (hrun:(execOp a.eval o).run Try.prog w = .ok (.enter f args) w)
 (hc:Calls Try.prog f args w fun e w''=>e = .returned (val i)/\WS (l.setIfInBounds i true) w'') :
 wpOp Try.prog ops Q i (fun a' w''=>RJ a0 N n dst val (l.setIfInBounds i true) a'/\WS (l.setIfInBounds i true) w'') a w:=by
 unfold wpOp
 simp only [ho]
 rw [if_pos hw]
 refine Or.inl ?_
 unfold Oper.wp
 rw [hrun]
 simp only [Oper.upon]
 refine hc.mono fun e w' he => ?_
 obtain ⟨rfl,hK⟩:=he
 show _/\_
 rw [hdst]
 exact ⟨Jq hJ hi hd hne,hK⟩
theorem Zp (hW:WS l w) (hJ:RJ a0 N n dst val l a) (ho:ops[i]? = some o) (hw:Region.wanted o (yielded ops a.tmps)=true) (hdst:o.dst=some (dst i)) (hi:i<n) (hd:dst i<N) (hne:∀ j,j<n->j≠i->dst j≠dst i) (hrun:(execOp a.eval o).run Try.prog w = .ok (.value (val i)) w') (hW':WS (l.setIfInBounds i true) w') :
 wpOp Try.prog ops Q i (fun a' w''=>RJ a0 N n dst val (l.setIfInBounds i true) a'/\WS (l.setIfInBounds i true) w'') a w:=Zdc hJ ho hw hdst hi hd hne hrun hW'
theorem Zbh (hW:WS l w) (hJ:RJ a0 N n dst val l a) (ho:ops[i]? = some o) (hg:o.guard=none) (hdst:o.dst=none) (hi:i<n) (hd:N<=dst i) (hrun:(execOp a.eval o).run Try.prog w = .ok .skip w') (hW':WS (l.setIfInBounds i true) w') :
 wpOp Try.prog ops Q i (fun a' w''=>RJ a0 N n dst val (l.setIfInBounds i true) a'/\WS (l.setIfInBounds i true) w'') a w:=Yqr hJ ho hg hdst hi hd hrun hW'
theorem Zj {K K':Act->World->Prop} (h:wpOp Try.prog ops Q i K a w) (hk:∀ a' w',K a' w'->K' a' w'):wpOp Try.prog ops Q i K' a w:=wpOp_mono hk h
end
theorem Zxv {ops:Array Oper} (hdag:∀ (j:Nat) (o:Oper),ops[j]? = some o->∀ e∈o.after,Region.binds .any e=true->e.on<j) {l:Array Bool} (h:Region.ready .any ops l=[]) (hsz:l.size=ops.size):∀ j,j<ops.size->l.getD j false=true:=by
 intro j
 induction j using Nat.strongRecOn with
 | _ j ih =>
   intro hj
   by_cases hl:l.getD j false=true
   · exact hl
   · exfalso
     have hlt:j<l.size:=by omega
     have h1:l.getD j true=false:=by
      simp only [Array.getD,hlt,dif_pos] at hl ⊢
      simpa using hl
     have:j∈Region.ready .any ops l:=mem_ready.2 ⟨h1,ops[j],by simp [hj],fun e he hb=>ih e.on (hdag j ops[j] (by simp [hj]) e he hb) (Nat.lt_trans (hdag j ops[j] (by simp [hj]) e he hb) hj)⟩
     rw [h] at this
     cases this
theorem Jh {ops:Array Oper} (h:((List.range ops.size).all fun j=>(ops[j]?).all fun o=>o.after.all fun e => !(Region.binds .any e) || decide (e.on<j))=true):∀ (j:Nat) (o:Oper),ops[j]? = some o->∀ e∈o.after,Region.binds .any e=true->e.on<j:=by
 intro j o ho e he hb
 have hj:j<ops.size:=(Gs ho)
 have h1:=List.all_eq_true.1 h j (List.mem_range.2 hj)
 rw [ho] at h1
 have h2:=Array.all_eq_true'.1 (show o.after.all (fun e => !(Region.binds .any e) || decide (e.on<j))=true from h1) e he
 rw [hb] at h2
 exact of_decide_eq_true (by simpa using h2)
structure WC (c n:Nat) (W:World) (l:Array Bool) (w:World):Prop where
 sz:l.size=n
 h0:l.getD c false=false->w=W
 g:W.grownBy w none
theorem Zyc (c n:Nat) (W:World):WC c n W (Array.replicate n false) W:=⟨by simp,fun _=>rfl,Zc _ _⟩
theorem Xi {c n i:Nat} {W w:World} {l:Array Bool} (h:WC c n W l w) (hi:i≠c):WC c n W (l.setIfInBounds i true) w:=by
 have hg:(l.setIfInBounds i true).getD c false=l.getD c false:=by
  simp [Array.getD_eq_getD_getElem?,Array.getElem?_setIfInBounds_ne hi]
 exact ⟨by simp [h.sz],fun e=>h.h0 (by rw [<- hg];exact e),h.g⟩
theorem Yda {c n:Nat} {W w:World} {l:Array Bool} (hs:l.size=n) (hc:c<n) (h:W.grownBy w none):WC c n W (l.setIfInBounds c true) w :=
 ⟨by simp [hs],(fun e=>by rw [Yc l c c (by omega),if_pos rfl] at e;cases e),h⟩
theorem Xe {id:Nat} {ops:Array Oper} {Q:Exit->Act->World->Prop} {a0:Act} {w:World} {n:Nat} (J:Act->Array Bool->Act->World->Prop)
 (hm:Try.prog.follows .mixedOrders=true) (hn:ops.size=n) (hdag:∀ (j:Nat) (o:Oper),ops[j]? = some o->∀ e∈o.after,Region.binds .any e=true->e.on<j) (hsz:∀ l a w,J a0 l a w->l.size=n) (hW:J a0 (Array.replicate n false) a0 w.drew)
 (step:∀ l a w i,J a0 l a w->i∈Region.ready .any ops l->i<n->wpOp Try.prog ops Q i (fun a' w'=>J a0 (l.setIfInBounds i true) a' w') a w)
 (fin:∀ l a w,J a0 l a w->(∀ j,j<n->l.getD j false=true)->Q .normal a w):(Code.region id ops true).wp Try.prog Q a0 w:=by
 subst hn
 refine wp_region_any hm ?_
 refine Zli (J a0) (fun l a w i hJ hi=>step l a w i hJ hi ?_) (fun l a w hJ hr=>fin l a w hJ (Zxv hdag hr (hsz l a w hJ))) _ _ _ _ hW (by simp)
 obtain ⟨_,o,ho,_⟩:=mem_ready.1 hi
 exact (Gs ho)
def Zff (fs:List FnP) (fn:FnP) (pl:Nat) (op a h:Int):Int × Int :=
 if op=18 then (if h=fn.2.2.1 then (0,0) else (138,0))
 else if h<(if op=5 then a+1 else (Yp fs fn.2.2.1 op a).1) then (134,0)
 else if 256<h - (Yp fs fn.2.2.1 op a).1+(Yp fs fn.2.2.1 op a).2 then (135,0)
 else if (Xm op a pl).any (fun n=>decide ((fn.2.2.2.length:Int)<=n))=true then (137,0)
 else (0,h - (Yp fs fn.2.2.1 op a).1+(Yp fs fn.2.2.1 op a).2)
def sd:Nat->Nat
 | 0=>16
 | 1=>17
 | 2=>18
 | 3=>19
 | 4=>20
 | 5=>21
 | 6=>22
 | 7=>23
 | 8=>24
 | 9=>25
 | 10=>26
 | 11=>27
 | 12=>28
 | 13=>29
 | 14=>30
 | 15=>31
 | 16=>32
 | 17=>8
 | 18=>9
 | 19=>1019
 | 20=>1020
 | _=>5000
theorem Zee:∀ i,i<21->∀ j,j<21->j≠i->sd j≠sd i:=by decide
theorem Yqg (i:Nat) (h:i<21):i=0\/i=1\/i=2\/i=3\/i=4\/i=5\/i=6\/i=7\/i=8\/i=9\/i=10\/i=11\/i=12\/i=13\/i=14\/i=15\/i=16\/i=17\/i=18\/i=19\/i=20:=by omega
theorem Zta (j:Nat) (hj:j∈[3,4]):∀ i,i<21->sd i≠j:=by revert j;decide
def sdv (n0 f at_ b o n cF:Nat) (b' o' nc cc b8 b9:Nat) (op a ar lo r:Int):Nat->Value
 | 0 => .pointer (some ⟨n0,2,none⟩)
 | 1 => .slice (some ⟨b,o,none⟩) n cF
 | 2 => .pointer (some ⟨(n0+1),0,none⟩)
 | 3 => .int .i64 f
 | 4 => .pointer (some ⟨b,o+f*4,none⟩)
 | 5 => .pointer (some ⟨b,o+f*4+3,none⟩)
 | 6 => .slice (some ⟨b',o',none⟩) nc cc
 | 7 => .pointer (some ⟨(n0+1),1,none⟩)
 | 8 => .int .i64 at_
 | 9 => .pointer (some ⟨b',o'+at_*2,none⟩)
 | 10 => .agg #[.int .i64 op,.int .i64 a]
 | 11 => .pointer (some ⟨n0,2,none⟩)
 | 12 => .slice (some ⟨b,o,none⟩) n cF
 | 13 => .pointer (some ⟨(n0+1),0,none⟩)
 | 14 => .int .i64 f
 | 15 => .pointer (some ⟨b,o+f*4,none⟩)
 | 16 => .agg #[.int .i64 ar,.int .i64 lo,.int .i64 r,.slice (some ⟨b',o',none⟩) nc cc]
 | 17 => .pointer (some ⟨b8,0,none⟩)
 | 18 => .pointer (some ⟨b9,0,none⟩)
 | 19=>undef
 | 20=>undef
 | _=>undef
theorem Yzu {n0 f at_ b o n cF b' o' nc cc b8 b8' b9:Nat} {op a ar lo r:Int} (l:Array Bool) (hun:l.getD 17 false=false):∀ i,i<21->l.getD i false=true->sd i<81->sdv n0 f at_ b o n cF b' o' nc cc b8' b9 op a ar lo r i=sdv n0 f at_ b o n cF b' o' nc cc b8 b9 op a ar lo r i:=by
 intro i hi hl _
 rcases Yqg i hi with rfl|rfl|rfl|rfl|rfl|rfl|rfl|rfl|rfl|rfl|rfl|rfl|rfl|rfl|rfl|rfl|rfl|rfl|rfl|rfl|rfl <;> first|rfl|(rw [hun] at hl;cases hl)
theorem Yzt {n0 f at_ b o n cF b' o' nc cc b8 b9 b9':Nat} {op a ar lo r:Int} (l:Array Bool) (hun:l.getD 18 false=false):∀ i,i<21->l.getD i false=true->sd i<81->sdv n0 f at_ b o n cF b' o' nc cc b8 b9' op a ar lo r i=sdv n0 f at_ b o n cF b' o' nc cc b8 b9 op a ar lo r i:=by
 intro i hi hl _
 rcases Yqg i hi with rfl|rfl|rfl|rfl|rfl|rfl|rfl|rfl|rfl|rfl|rfl|rfl|rfl|rfl|rfl|rfl|rfl|rfl|rfl|rfl|rfl <;> first|rfl|(rw [hun] at hl;cases hl)
def zI:Array Value := #[.int .i64 0,.int .i64 0]
def sI (op a:Int):Array Value := #[.int .i64 op,.int .i64 a]
def zF:Array Value := #[.int .i64 0,.int .i64 0,.int .i64 0,.slice none 0 0]
def sF (ar lo r:Int) (p:Option Addr) (n c:Nat):Array Value := #[.int .i64 ar,.int .i64 lo,.int .i64 r,.slice p n c]
structure SW (W:World) (x8 x9:Array Value) (b8 b9:Nat) (l:Array Bool) (w:World):Prop where
 sz:l.size=21
 g:W.grownBy w none
 n8:l.getD 17 false=true->W.heap.size<=b8/\w.heap[b8]? = some (.cells (if l.getD 19 false=true then x8 else zI) 49 (0,0))
 n9:l.getD 18 false=true->W.heap.size<=b9/\w.heap[b9]? = some (.cells (if l.getD 20 false=true then x9 else zF) 52 (0,0))
 ne:l.getD 17 false=true->l.getD 18 false=true->b8≠b9
 no19:l.getD 17 false=false->l.getD 19 false=false
 no20:l.getD 18 false=false->l.getD 20 false=false
theorem Zlt {l:Array Bool} {i j:Nat} (h:l.size=21) (hi:i<21):(l.setIfInBounds i true).getD j false=if j=i then true else l.getD j false:=Yc l i j (by omega)
theorem Jv {W w:World} {x8 x9:Array Value} {b8 b9 i:Nat} {l:Array Bool} (h:SW W x8 x9 b8 b9 l w) (hi:i<17):SW W x8 x9 b8 b9 (l.setIfInBounds i true) w:=by
 have G:∀ j,17<=j->(l.setIfInBounds i true).getD j false=l.getD j false:=fun j hj=>by rw [Zlt h.sz (by omega),if_neg (by omega)]
 refine ⟨by simp [h.sz],h.g,fun e => ?_,fun e => ?_,fun e e' => ?_,fun e=>by rw [G 19 (by omega)];exact h.no19 (by rw [<- G 17 (by omega)];exact e),fun e=>by rw [G 20 (by omega)];exact h.no20 (by rw [<- G 18 (by omega)];exact e)⟩
 · rw [G 19 (by omega)];exact h.n8 (by rw [<- G 17 (by omega)];exact e)
 · rw [G 20 (by omega)];exact h.n9 (by rw [<- G 18 (by omega)];exact e)
 · exact h.ne (by rw [<- G 17 (by omega)];exact e) (by rw [<- G 18 (by omega)];exact e')
theorem Xci {W w:World} {x8 x9:Array Value} {b8 b9:Nat} {l:Array Bool} (h:SW W x8 x9 b8 b9 l w) (h19:l.getD 19 false=false):SW W x8 x9 w.heap.size b9 (l.setIfInBounds 17 true) (w.alloc (.cells zI 49)):=by
 have gA:w.grownBy (w.alloc (.cells zI 49)) none:=Ga _ _ _
 have G:∀ j,j≠17->(l.setIfInBounds 17 true).getD j false=l.getD j false:=fun j hj=>by rw [Zlt h.sz (by omega),if_neg hj]
 refine ⟨by simp [h.sz],Za h.g gA,fun _=>⟨h.g.size,?_⟩,fun e => ?_,fun _ e' => ?_,fun e=>by rw [G 19 (by omega)];exact h19,fun e=>by rw [G 20 (by omega)];exact h.no20 (by rw [<- G 18 (by omega)];exact e)⟩
 · rw [G 19 (by omega),h19,if_neg (by decide)];exact heap_alloc_new _ _
 · rw [G 20 (by omega)]
   obtain ⟨h1,h2⟩:=h.n9 (by rw [<- G 18 (by omega)];exact e)
   exact ⟨h1,Zb h2 gA (by simp)⟩
 · obtain ⟨h1,h2⟩:=h.n9 (by rw [<- G 18 (by omega)];exact e')
   have:=(Gs h2)
   omega
theorem Xch {W w:World} {x8 x9:Array Value} {b8 b9:Nat} {l:Array Bool} (h:SW W x8 x9 b8 b9 l w) (h20:l.getD 20 false=false):SW W x8 x9 b8 w.heap.size (l.setIfInBounds 18 true) (w.alloc (.cells zF 52)):=by
 have gA:w.grownBy (w.alloc (.cells zF 52)) none:=Ga _ _ _
 have G:∀ j,j≠18->(l.setIfInBounds 18 true).getD j false=l.getD j false:=fun j hj=>by rw [Zlt h.sz (by omega),if_neg hj]
 refine ⟨by simp [h.sz],Za h.g gA,fun e => ?_,fun _=>⟨h.g.size,?_⟩,fun e _ => ?_,fun e=>by rw [G 19 (by omega)];exact h.no19 (by rw [<- G 17 (by omega)];exact e),fun e=>by rw [G 20 (by omega)];exact h20⟩
 · rw [G 19 (by omega)]
   obtain ⟨h1,h2⟩:=h.n8 (by rw [<- G 17 (by omega)];exact e)
   exact ⟨h1,Zb h2 gA (by simp)⟩
 · rw [G 20 (by omega),h20,if_neg (by decide)];exact heap_alloc_new _ _
 · obtain ⟨h1,h2⟩:=h.n8 (by rw [<- G 17 (by omega)];exact e)
   have:=(Gs h2)
   omega
theorem Yzr {W w w':World} {x8 x9:Array Value} {b8 b9:Nat} {l:Array Bool} (h:SW W x8 x9 b8 b9 l w) (h17:l.getD 17 false=true) (g:w.grownBy w' (some b8)) (hb:w'.heap[b8]? = some (.cells x8 49 (0,0))):SW W x8 x9 b8 b9 (l.setIfInBounds 19 true) w':=by
 have G:∀ j,j≠19->(l.setIfInBounds 19 true).getD j false=l.getD j false:=fun j hj=>by rw [Zlt h.sz (by omega),if_neg hj]
 refine ⟨by simp [h.sz],Yu h.g g (fun k hk=>by injection hk with hk;rw [<- hk];exact (h.n8 h17).1),fun _=>⟨(h.n8 h17).1,?_⟩,fun e => ?_,fun e e' => ?_,fun e=>(by rw [G 17 (by omega),h17] at e;cases e),fun e=>by rw [G 20 (by omega)];exact h.no20 (by rw [<- G 18 (by omega)];exact e)⟩
 · rw [Zlt h.sz (by omega),if_pos rfl,if_pos rfl];exact hb
 · rw [G 20 (by omega)]
   have e2:l.getD 18 false=true:=by rw [<- G 18 (by omega)];exact e
   obtain ⟨h1,h2⟩:=h.n9 e2
   exact ⟨h1,Zb h2 g (by intro e3;injection e3 with e3;exact h.ne h17 e2 e3)⟩
 · exact h.ne h17 (by rw [<- G 18 (by omega)];exact e')
theorem Yzq {W w w':World} {x8 x9:Array Value} {b8 b9:Nat} {l:Array Bool} (h:SW W x8 x9 b8 b9 l w) (h18:l.getD 18 false=true) (g:w.grownBy w' (some b9)) (hb:w'.heap[b9]? = some (.cells x9 52 (0,0))):SW W x8 x9 b8 b9 (l.setIfInBounds 20 true) w':=by
 have G:∀ j,j≠20->(l.setIfInBounds 20 true).getD j false=l.getD j false:=fun j hj=>by rw [Zlt h.sz (by omega),if_neg hj]
 refine ⟨by simp [h.sz],Yu h.g g (fun k hk=>by injection hk with hk;rw [<- hk];exact (h.n9 h18).1),fun e => ?_,fun _=>⟨(h.n9 h18).1,?_⟩,fun e e' => ?_,fun e=>by rw [G 19 (by omega)];exact h.no19 (by rw [<- G 17 (by omega)];exact e),fun e=>(by rw [G 18 (by omega),h18] at e;cases e)⟩
 · rw [G 19 (by omega)]
   have e2:l.getD 17 false=true:=by rw [<- G 17 (by omega)];exact e
   obtain ⟨h1,h2⟩:=h.n8 e2
   exact ⟨h1,Zb h2 g (by intro e3;injection e3 with e3;exact h.ne e2 h18 e3.symm)⟩
 · rw [Zlt h.sz (by omega),if_pos rfl,if_pos rfl];exact hb
 · exact h.ne (by rw [<- G 17 (by omega)];exact e) h18
theorem Zxu {L:List Int} {m:Int} (h:∀ j:Nat,j<L.length->∀ n,L[j]? = some n->n<m):L.any (fun n=>decide (m<=n))=false:=by
 rw [List.any_eq_false]
 intro x hx
 obtain ⟨j,hj,rfl⟩:=List.getElem_of_mem hx
 have:=h j hj _ (List.getElem?_eq_getElem hj)
 simp;omega
theorem Zxt {L:List Int} {m n:Int} {j:Nat} (h:L[j]? = some n) (hn:m<=n):L.any (fun n=>decide (m<=n))=true:=by
 rw [List.any_eq_true]
 exact ⟨n,List.mem_of_getElem? h,by simpa using hn⟩
theorem Ydx (mem:Int) (vd:Value) (fs:List FnP) (pF:Option Addr) (cF B f at_:Nat) (fn:FnP) (op a h:Int) (w:World) (hvd:∃ p n c,vd = .slice p n c) (hB:B<=w.heap.size) (hF:Yk w B pF fs) (hS:Znk fs f at_ fn op a) (hO:Xbr fs op a)
 (hh:0<=h/\h<=256) (ht:0<=(Yp fs fn.2.2.1 op a).1/\(Yp fs fn.2.2.1 op a).1<=64/\0<=(Yp fs fn.2.2.1 op a).2/\(Yp fs fn.2.2.1 op a).2<=64) (ha5:op=5->0<=a/\a<256) :
 Calls Try.prog 38 #[.agg #[.int .i64 mem,vd,.slice pF fs.length cF],.agg #[.int .i64 f,.int .i64 at_],.int .i64 h] w (Zvo w (Zff fs fn at_ op a h)):=by
 obtain ⟨pd,nd,cd,rfl⟩:=hvd
 have T:=Hq (fun (W:World) (g:w.grownBy W none)=>Ydo mem (.slice pd nd cd) fs pF cF B f at_ fn op a W ⟨_,_,_,rfl⟩ (Nat.le_trans hB g.size) (Zs hF g (by simp)) hS hO)
 obtain ⟨ar,lo,r,c⟩:=fn
 have hf1:=(List.getElem?_eq_some_iff.1 hS.isf).1
 have ha1:=(List.getElem?_eq_some_iff.1 hS.ins).1
 have hnf:=hS.nf
 have hnc:=hS.nc
 simp only [] at ha1 hnc ht T
 obtain ⟨b,o,rfl,hb,hc⟩:=hF (by omega)
 obtain ⟨c0,c1,c2,pc,cc,c3,hcode⟩:=hc f ar lo r c hS.isf
 obtain ⟨b',o',rfl,hb',hc'⟩:=hcode (by omega)
 obtain ⟨d0,d1⟩:=hc' at_ op a hS.ins
 have hb2:b<w.heap.size:=by omega
 have hb2':b'<w.heap.size:=by omega
 have q1:(f:Int)<(fs.length:Int):=by omega
 have q2:(at_:Int)<(c.length:Int):=by omega
 have hgo:=Hq (fun (W:World)=>Zrk op a at_ W (by omega) (by omega))
 obtain ⟨tk,gk,htk⟩:∃ tk gk,Yp fs r op a=(tk,gk):=⟨_,_,rfl⟩
 rw [htk] at ht T
 simp only [] at ht
 clear hF hc hcode hc' hS hO
 go_enter Try.func38,Try.ntmps38
 go_wp2
 rename_i K hK
 have hb0:=Yt w (.cells #[.int .i64 mem,.slice pd nd cd,.slice (some ⟨b,o,none⟩) fs.length cF] 25) (.cells #[.int .i64 f,.int .i64 at_] 37)
 have hb1:=Yi w (.cells #[.int .i64 mem,.slice pd nd cd,.slice (some ⟨b,o,none⟩) fs.length cF] 25) (.cells #[.int .i64 f,.int .i64 at_] 37)
 have g2:=Za (Ga w (.cells #[.int .i64 mem,.slice pd nd cd,.slice (some ⟨b,o,none⟩) fs.length cF] 25) none) (Ga _ (.cells #[.int .i64 f,.int .i64 at_] 37) none)
 generalize (w.alloc (.cells #[.int .i64 mem,.slice pd nd cd,.slice (some ⟨b,o,none⟩) fs.length cF] 25)).alloc (.cells #[.int .i64 f,.int .i64 at_] 37)=W at *
 have x2:=Cq _ _ 2 _ _ _ hb0
 have y0:=Cq _ _ 0 _ _ _ hb1
 have y1:=Cq _ _ 1 _ _ _ hb1
 replace c0:=g2.cell c0 (by simp)
 replace c1:=g2.cell c1 (by simp)
 replace c2:=g2.cell c2 (by simp)
 replace c3:=g2.cell c3 (by simp)
 replace d0:=g2.cell d0 (by simp)
 replace d1:=g2.cell d1 (by simp)
 have G2:=Hq g2
 have HB0:=Hq hb0
 have HB1:=Hq hb1
 have hft:f<fs.length:=hf1
 have hat:at_<c.length:=ha1
 clear hb0 hb1 g2
 generalize hn0:w.heap.size=n0 at *
 refine Xe (n:=21) (J:=fun a0 l a1 w1=>∃ b8 b9,RJ a0 81 21 sd (sdv n0 f at_ b o fs.length cF b' o' c.length cc b8 b9 op a ar lo r) l a1/\SW W (sI op a) (sF ar lo r (some ⟨b',o',none⟩) c.length cc) b8 b9 l w1) (by kernel_rfl) rfl (Jh (by kernel_rfl)) (fun l a1 w1 h=>by obtain ⟨b8,b9,h1,h2⟩:=h;exact h2.sz) ?start ?step ?fin
 case start=>exact ⟨0,0,Xd rfl,⟨by simp,⟨rfl,rfl,rfl,Nat.le_refl _,fun _ _ _=>rfl⟩,(fun h=>by rw [getD_replicate_false] at h;cases h),(fun h=>by rw [getD_replicate_false] at h;cases h),(fun h=>by rw [getD_replicate_false] at h;cases h),(fun _=>getD_replicate_false _ _),(fun _=>getD_replicate_false _ _)⟩⟩
 case step =>
  intro l a1 w' i hJJ hi hin
  obtain ⟨b8,b9,hJ,hW⟩:=hJJ
  have hun:l.getD i false=false:=getD_both (mem_ready.1 hi).1
  rcases Yqg i hin with rfl|rfl|rfl|rfl|rfl|rfl|rfl|rfl|rfl|rfl|rfl|rfl|rfl|rfl|rfl|rfl|rfl|rfl|rfl|rfl|rfl
  · have e3:a1.tmps.getD 3 undef = .pointer (some ⟨n0,0,none⟩):=hJ.un 3 (fun i hi _=>Zta 3 (by decide) i hi)
    exact Zj (Zdc hJ rfl (by rfl) rfl (by decide) (by decide) (Zee _ (by decide)) (w':=w') (by simp [execOp,resolve,invoke,builtin,Act.eval,e3,hft,hat,go_sem,sdv]) (Jv hW (by decide))) (fun a9 w9 h9=>⟨b8,b9,h9⟩)
  · have e16:a1.tmps.getD 16 undef = .pointer (some ⟨n0,2,none⟩):=(Zm hJ hi 0 (by kernel_rfl))
    have h0:=hW.g.cell x2 (by simp)
    exact Zj (Zdc hJ rfl (by rfl) rfl (by decide) (by decide) (Zee _ (by decide)) (w':=w') (by simp [execOp,resolve,invoke,builtin,Act.eval,e16,h0,hft,hat,go_sem,sdv]) (Jv hW (by decide))) (fun a9 w9 h9=>⟨b8,b9,h9⟩)
  · have e4:a1.tmps.getD 4 undef = .pointer (some ⟨(n0+1),0,none⟩):=hJ.un 4 (fun i hi _=>Zta 4 (by decide) i hi)
    exact Zj (Zdc hJ rfl (by rfl) rfl (by decide) (by decide) (Zee _ (by decide)) (w':=w') (by simp [execOp,resolve,invoke,builtin,Act.eval,e4,hft,hat,go_sem,sdv]) (Jv hW (by decide))) (fun a9 w9 h9=>⟨b8,b9,h9⟩)
  · have e18:a1.tmps.getD 18 undef = .pointer (some ⟨(n0+1),0,none⟩):=(Zm hJ hi 2 (by kernel_rfl))
    have h0:=hW.g.cell y0 (by simp)
    exact Zj (Zdc hJ rfl (by rfl) rfl (by decide) (by decide) (Zee _ (by decide)) (w':=w') (by simp [execOp,resolve,invoke,builtin,Act.eval,e18,h0,hft,hat,go_sem,sdv]) (Jv hW (by decide))) (fun a9 w9 h9=>⟨b8,b9,h9⟩)
  · have e17:a1.tmps.getD 17 undef = .slice (some ⟨b,o,none⟩) fs.length cF:=(Zm hJ hi 1 (by kernel_rfl))
    have e19:a1.tmps.getD 19 undef = .int .i64 f:=(Zm hJ hi 3 (by kernel_rfl))
    exact Zj (Zdc hJ rfl (by rfl) rfl (by decide) (by decide) (Zee _ (by decide)) (w':=w') (by first|(simp [execOp,resolve,invoke,builtin,Act.eval,e17,e19,hft,hat,go_sem,sdv];done)|(simp [execOp,resolve,invoke,builtin,Act.eval,e17,e19,hft,hat,go_sem,sdv];omega)|(simp [execOp,resolve,invoke,builtin,Act.eval,e17,e19,hft,hat,go_sem,sdv];intro h;omega)|(simp [execOp,resolve,invoke,builtin,Act.eval,e17,e19,hft,hat,go_sem,sdv];intros;omega)) (Jv hW (by decide))) (fun a9 w9 h9=>⟨b8,b9,h9⟩)
  · have e20:a1.tmps.getD 20 undef = .pointer (some ⟨b,o+f*4,none⟩):=(Zm hJ hi 4 (by kernel_rfl))
    exact Zj (Zdc hJ rfl (by rfl) rfl (by decide) (by decide) (Zee _ (by decide)) (w':=w') (by simp [execOp,resolve,invoke,builtin,Act.eval,e20,hft,hat,go_sem,sdv]) (Jv hW (by decide))) (fun a9 w9 h9=>⟨b8,b9,h9⟩)
  · have e21:a1.tmps.getD 21 undef = .pointer (some ⟨b,o+f*4+3,none⟩):=(Zm hJ hi 5 (by kernel_rfl))
    have h0:=hW.g.cell c3 (by simp)
    exact Zj (Zdc hJ rfl (by rfl) rfl (by decide) (by decide) (Zee _ (by decide)) (w':=w') (by simp [execOp,resolve,invoke,builtin,Act.eval,e21,h0,hft,hat,go_sem,sdv]) (Jv hW (by decide))) (fun a9 w9 h9=>⟨b8,b9,h9⟩)
  · have e4:a1.tmps.getD 4 undef = .pointer (some ⟨(n0+1),0,none⟩):=hJ.un 4 (fun i hi _=>Zta 4 (by decide) i hi)
    exact Zj (Zdc hJ rfl (by rfl) rfl (by decide) (by decide) (Zee _ (by decide)) (w':=w') (by simp [execOp,resolve,invoke,builtin,Act.eval,e4,hft,hat,go_sem,sdv]) (Jv hW (by decide))) (fun a9 w9 h9=>⟨b8,b9,h9⟩)
  · have e23:a1.tmps.getD 23 undef = .pointer (some ⟨(n0+1),1,none⟩):=(Zm hJ hi 7 (by kernel_rfl))
    have h0:=hW.g.cell y1 (by simp)
    exact Zj (Zdc hJ rfl (by rfl) rfl (by decide) (by decide) (Zee _ (by decide)) (w':=w') (by simp [execOp,resolve,invoke,builtin,Act.eval,e23,h0,hft,hat,go_sem,sdv]) (Jv hW (by decide))) (fun a9 w9 h9=>⟨b8,b9,h9⟩)
  · have e22:a1.tmps.getD 22 undef = .slice (some ⟨b',o',none⟩) c.length cc:=(Zm hJ hi 6 (by kernel_rfl))
    have e24:a1.tmps.getD 24 undef = .int .i64 at_:=(Zm hJ hi 8 (by kernel_rfl))
    exact Zj (Zdc hJ rfl (by rfl) rfl (by decide) (by decide) (Zee _ (by decide)) (w':=w') (by first|(simp [execOp,resolve,invoke,builtin,Act.eval,e22,e24,hft,hat,go_sem,sdv];done)|(simp [execOp,resolve,invoke,builtin,Act.eval,e22,e24,hft,hat,go_sem,sdv];omega)|(simp [execOp,resolve,invoke,builtin,Act.eval,e22,e24,hft,hat,go_sem,sdv];intro h;omega)|(simp [execOp,resolve,invoke,builtin,Act.eval,e22,e24,hft,hat,go_sem,sdv];intros;omega)) (Jv hW (by decide))) (fun a9 w9 h9=>⟨b8,b9,h9⟩)
  · have e25:a1.tmps.getD 25 undef = .pointer (some ⟨b',o'+at_*2,none⟩):=(Zm hJ hi 9 (by kernel_rfl))
    have h0:=hW.g.cell d0 (by simp)
    have h1:=hW.g.cell d1 (by simp)
    exact Zj (Zdc hJ rfl (by rfl) rfl (by decide) (by decide) (Zee _ (by decide)) (w':=w') (by simp [execOp,resolve,invoke,builtin,Act.eval,e25,h0,h1,hft,hat,go_sem,sdv]) (Jv hW (by decide))) (fun a9 w9 h9=>⟨b8,b9,h9⟩)
  · have e3:a1.tmps.getD 3 undef = .pointer (some ⟨n0,0,none⟩):=hJ.un 3 (fun i hi _=>Zta 3 (by decide) i hi)
    exact Zj (Zdc hJ rfl (by rfl) rfl (by decide) (by decide) (Zee _ (by decide)) (w':=w') (by simp [execOp,resolve,invoke,builtin,Act.eval,e3,hft,hat,go_sem,sdv]) (Jv hW (by decide))) (fun a9 w9 h9=>⟨b8,b9,h9⟩)
  · have e27:a1.tmps.getD 27 undef = .pointer (some ⟨n0,2,none⟩):=(Zm hJ hi 11 (by kernel_rfl))
    have h0:=hW.g.cell x2 (by simp)
    exact Zj (Zdc hJ rfl (by rfl) rfl (by decide) (by decide) (Zee _ (by decide)) (w':=w') (by simp [execOp,resolve,invoke,builtin,Act.eval,e27,h0,hft,hat,go_sem,sdv]) (Jv hW (by decide))) (fun a9 w9 h9=>⟨b8,b9,h9⟩)
  · have e4:a1.tmps.getD 4 undef = .pointer (some ⟨(n0+1),0,none⟩):=hJ.un 4 (fun i hi _=>Zta 4 (by decide) i hi)
    exact Zj (Zdc hJ rfl (by rfl) rfl (by decide) (by decide) (Zee _ (by decide)) (w':=w') (by simp [execOp,resolve,invoke,builtin,Act.eval,e4,hft,hat,go_sem,sdv]) (Jv hW (by decide))) (fun a9 w9 h9=>⟨b8,b9,h9⟩)
  · have e29:a1.tmps.getD 29 undef = .pointer (some ⟨(n0+1),0,none⟩):=(Zm hJ hi 13 (by kernel_rfl))
    have h0:=hW.g.cell y0 (by simp)
    exact Zj (Zdc hJ rfl (by rfl) rfl (by decide) (by decide) (Zee _ (by decide)) (w':=w') (by simp [execOp,resolve,invoke,builtin,Act.eval,e29,h0,hft,hat,go_sem,sdv]) (Jv hW (by decide))) (fun a9 w9 h9=>⟨b8,b9,h9⟩)
  · have e28:a1.tmps.getD 28 undef = .slice (some ⟨b,o,none⟩) fs.length cF:=(Zm hJ hi 12 (by kernel_rfl))
    have e30:a1.tmps.getD 30 undef = .int .i64 f:=(Zm hJ hi 14 (by kernel_rfl))
    exact Zj (Zdc hJ rfl (by rfl) rfl (by decide) (by decide) (Zee _ (by decide)) (w':=w') (by first|(simp [execOp,resolve,invoke,builtin,Act.eval,e28,e30,hft,hat,go_sem,sdv];done)|(simp [execOp,resolve,invoke,builtin,Act.eval,e28,e30,hft,hat,go_sem,sdv];omega)|(simp [execOp,resolve,invoke,builtin,Act.eval,e28,e30,hft,hat,go_sem,sdv];intro h;omega)|(simp [execOp,resolve,invoke,builtin,Act.eval,e28,e30,hft,hat,go_sem,sdv];intros;omega)) (Jv hW (by decide))) (fun a9 w9 h9=>⟨b8,b9,h9⟩)
  · have e31:a1.tmps.getD 31 undef = .pointer (some ⟨b,o+f*4,none⟩):=(Zm hJ hi 15 (by kernel_rfl))
    have h0:=hW.g.cell c0 (by simp)
    have h1:=hW.g.cell c1 (by simp)
    have h2:=hW.g.cell c2 (by simp)
    have h3:=hW.g.cell c3 (by simp)
    exact Zj (Zdc hJ rfl (by rfl) rfl (by decide) (by decide) (Zee _ (by decide)) (w':=w') (by simp [execOp,resolve,invoke,builtin,Act.eval,e31,h0,h1,h2,h3,hft,hat,go_sem,sdv]) (Jv hW (by decide))) (fun a9 w9 h9=>⟨b8,b9,h9⟩)
  · have hnl:l.getD 19 false=false:=hW.no19 hun
    refine Zeb rfl rfl (v := .pointer (some ⟨w'.heap.size,0,none⟩)) (w':=w'.alloc (.cells zI 49)) (by simp [execOp,go_sem,zI]) ?_
    exact ⟨w'.heap.size,b9,Jq (val:=sdv n0 f at_ b o fs.length cF b' o' c.length cc w'.heap.size b9 op a ar lo r) (Jj hJ (Yzu l hun)) (by decide) (by decide) (Zee _ (by decide)),Xci hW hnl⟩
  · have hnl:l.getD 20 false=false:=hW.no20 hun
    refine Zeb rfl rfl (v := .pointer (some ⟨w'.heap.size,0,none⟩)) (w':=w'.alloc (.cells zF 52)) (by simp [execOp,go_sem,zF]) ?_
    exact ⟨b8,w'.heap.size,Jq (val:=sdv n0 f at_ b o fs.length cF b' o' c.length cc b8 w'.heap.size op a ar lo r) (Jj hJ (Yzt l hun)) (by decide) (by decide) (Zee _ (by decide)),Xch hW hnl⟩
  · have h17:l.getD 17 false=true:=Zf hi 17 (by kernel_rfl)
    have e8:a1.tmps.getD 8 undef = .pointer (some ⟨b8,0,none⟩):=(hJ.sl 17 (by decide) h17 (by decide))
    have e26:a1.tmps.getD 26 undef = .agg #[.int .i64 op,.int .i64 a]:=(Zm hJ hi 10 (by kernel_rfl))
    have hbx:=(hW.n8 h17).2
    rw [hun,if_neg (by decide)] at hbx
    have k0:=Cq _ _ 0 _ _ _ hbx
    have k1:=Cq _ _ 1 _ _ _ hbx
    have z0:=frozen_of_row _ _ 0 _ _ hbx
    have z1:=frozen_of_row _ _ 1 _ _ hbx
    refine Zfp rfl rfl rfl (w':=(w'.setCell ⟨b8,0,none⟩ (.int .i64 op)).setCell ⟨b8,1,none⟩ (.int .i64 a)) (by simp [execOp,Act.eval,e8,e26,k0,k1,z0,z1,go_sem,zI]) ?_
    exact ⟨b8,b9,Zly hJ (by decide) (by decide),Yzr hW h17 (Za (Zg _ _ _ _) (Zg _ _ _ _)) (by rw [Zi (Zi hbx)];rfl)⟩
  · have h18:l.getD 18 false=true:=Zf hi 18 (by kernel_rfl)
    have e9:a1.tmps.getD 9 undef = .pointer (some ⟨b9,0,none⟩):=(hJ.sl 18 (by decide) h18 (by decide))
    have e32:a1.tmps.getD 32 undef = .agg #[.int .i64 ar,.int .i64 lo,.int .i64 r,.slice (some ⟨b',o',none⟩) c.length cc]:=(Zm hJ hi 16 (by kernel_rfl))
    have hbx:=(hW.n9 h18).2
    rw [hun,if_neg (by decide)] at hbx
    have k0:=Cq _ _ 0 _ _ _ hbx
    have k1:=Cq _ _ 1 _ _ _ hbx
    have k2:=Cq _ _ 2 _ _ _ hbx
    have k3:=Cq _ _ 3 _ _ _ hbx
    have z0:=frozen_of_row _ _ 0 _ _ hbx
    have z1:=frozen_of_row _ _ 1 _ _ hbx
    have z2:=frozen_of_row _ _ 2 _ _ hbx
    have z3:=frozen_of_row _ _ 3 _ _ hbx
    refine Zfp rfl rfl rfl (w':=(((w'.setCell ⟨b9,0,none⟩ (.int .i64 ar)).setCell ⟨b9,1,none⟩ (.int .i64 lo)).setCell ⟨b9,2,none⟩ (.int .i64 r)).setCell ⟨b9,3,none⟩ (.slice (some ⟨b',o',none⟩) c.length cc)) (by simp [execOp,Act.eval,e9,e32,k0,k1,k2,k3,z0,z1,z2,z3,go_sem,zF]) ?_
    exact ⟨b8,b9,Zly hJ (by decide) (by decide),Yzq hW h18 (Za (Za (Za (Zg _ _ _ _) (Zg _ _ _ _)) (Zg _ _ _ _)) (Zg _ _ _ _)) (by rw [Zi (Zi (Zi (Zi hbx)))];rfl)⟩
 case fin =>
  intro l a1 w' hJJ hl
  obtain ⟨b8,b9,hJ,hW⟩:=hJJ
  have hput:=Jf hJ rfl hl (fun i j h1 h2 h3=>Zee j h2 i h1 h3)
  subst hput
  refine hK _ _ ?_
  simp only [Zai,sd,sdv,Act.put,List.setIfInBounds_toArray,List.set_cons_zero,List.set_cons_succ]
  clear hJ
  have g5:=hW.g
  have h8:=(hW.n8 (hl 17 (by decide))).2
  have h9:=(hW.n9 (hl 18 (by decide))).2
  rw [hl 19 (by decide),if_pos rfl] at h8
  rw [hl 20 (by decide),if_pos rfl] at h9
  unfold sI at h8
  unfold sF at h9
  clear hW hl
  have hb0:=Zb HB0.out g5 (by simp)
  have hb1:=Zb HB1.out g5 (by simp)
  have G5:=Hq (Za G2.out g5)
  have TT:=Hq (T.out w' G5.out)
  clear c0 c1 c2 c3 d0 d1 x2 y0 y1 g5 hb2 hb2'
  have x0:=Cq _ _ 0 _ _ _ hb0
  have x1:=Cq _ _ 1 _ _ _ hb0
  have x2:=Cq _ _ 2 _ _ _ hb0
  have y0:=Cq _ _ 0 _ _ _ hb1
  have y1:=Cq _ _ 1 _ _ _ hb1
  have s0:=(Gs hb0)
  have s1:=(Gs hb1)
  have H8:=Hq h8
  have H9:=Hq h9
  have HB1':=Hq hb1
  clear hb0 hb1 h8 h9 HB0 HB1
  have hE0:Zff fs (ar,lo,r,c) at_ op a h=if op=18 then (if h=r then (0,0) else (138,0)) else if h<(if op=5 then a+1 else tk) then (134,0) else if 256<h - tk+gk then (135,0) else if (Xm op a at_).any (fun n=>decide ((c.length:Int)<=n))=true then (137,0) else (0,h - tk+gk):=by unfold Zff;rw [htk]
  have hret:op=18->tk=r/\gk=0:=fun e=>by
   have h1:=htk
   unfold Yp at h1
   rw [if_neg (by omega),if_pos e] at h1
   injection h1 with h1 h2
   exact ⟨h1.symm,h2.symm⟩
  have hgr:op=18->Xm op a at_=[]:=fun e=>by unfold Xm;rw [if_pos (Or.inr (Or.inr e))]
  have HE:=Hq hE0
  have HR:=Hq hret
  have HG:=Hq hgr
  have HA:=Hq ha5
  clear hE0 hret hgr htk T ha5
  have hL2:((Xm op a at_).length:Int)<=2:=by have:=Zgf op a at_;omega
  generalize Xm op a at_=L at *
  by_cases h18:op=18
  · obtain ⟨rfl,rfl⟩:=HR.out h18
    have hE:=HE.out
    rw [if_pos h18] at hE
    have hg0:=HG.out h18
    subst h18
    by_cases hr:h=tk
    · subst hr
      have hE2:Zff fs (ar,lo,h,c) at_ 18 a h=if L.any (fun n=>decide ((c.length:Int)<=n))=true then (137,0) else (0,0):=by rw [hE,if_pos rfl,hg0];rfl
      clear hE hg0
      have hE:=hE2
      clear hE2
      (
        have HEE:=Hq hE
        clear hE
        (
          go_wp2_with (first
           | (go_at_call 63;refine TT.out.mono ?_;rintro e w3 ⟨rfl,hg3⟩;have G3:=Hq (Za G5.out hg3);have k8:=Zb H8.out hg3 (by simp);have k9:=Zb H9.out hg3 (by simp);have k1:=Zb HB1'.out hg3 (by simp);have p0:=Cq _ _ 0 _ _ _ k8;have p1:=Cq _ _ 1 _ _ _ k8;have r2:=Cq _ _ 2 _ _ _ k9;have r3:=Cq _ _ 3 _ _ _ k9;have t1:=Cq _ _ 1 _ _ _ k1;have sp8:=(Gs k8);have sp9:=(Gs k9);have sp1:=(Gs k1);clear x0 x1 x2 y0 y1 s0 s1 hg3 k8 k9 k1)
           | (go_at_call 39;refine (hgo.out _).mono ?_;rintro e w4 ⟨v4,rfl,hg4,ho4⟩;obtain ⟨p4,c4,hv4⟩:=Zq ho4;subst hv4;have G4:=Hq (Za G3.out hg4);have O4:=Hq ho4;replace r3:=hg4.cell r3 (by simp);replace sp9:b9<w4.heap.size:=Nat.lt_of_lt_of_le sp9 hg4.size;clear p0 p1 r2 t1 sp8 sp1 hg4 ho4)))
        clear TT H8 H9 HB1' HR HG HE
        go_loopw [70] (fun i wr=>wr=w4/\∃ k:Nat,i = .int .i64 k/\k<=L.length/\∀ j:Nat,j<k->∀ n,L[j]? = some n->n<(c.length:Int)) (fun i _=>L.length - (intOf i).toNat)
        case atStart=>exact ⟨rfl,0,rfl,Nat.zero_le _,fun j hj=>by omega⟩
        case round =>
         obtain ⟨rfl,k,rfl,hk,hno⟩:=hrel
         by_cases hlt:(k:Int)<(L.length:Int)
         · obtain ⟨n,hn⟩:∃ n,L[k]? = some n:=⟨_,List.getElem?_eq_getElem (by omega)⟩
           obtain ⟨g4,k4,e4,l4,cc4⟩:=Yb O4.out (by omega)
           injection e4 with e41 e42 e43
           subst e41
           have cn:=cc4 k (.int .i64 n) (by rw [List.getElem?_map,hn];rfl) (by omega)
           have HN:=Hq hn
           have HO:=Hq hno
           clear cc4 hn hno
           by_cases hge:(c.length:Int)<=n
           · have hy:=Zxt HN.out hge
             have hE:=HEE.out
             rw [if_pos hy] at hE
             have H2:=Hq hE
             clear hy hE
             go_wp2
             go_ret2
             rw [H2.out]
             exact ⟨rfl,G4.out⟩
           · go_wp2
             go_roundw
             case rel=>exact ⟨(by first|rfl|trivial),k+1,by go_num,by omega,fun j hj m hm=>by
              by_cases e:j=k
              · subst e;rw [HN.out] at hm;injection hm with hm;omega
              · exact HO.out j (by omega) m hm⟩
             case measure=>simp [intOf];omega
         · have hn:=Zxu (L:=L) (m:=(c.length:Int)) fun j hj=>hno j (by omega)
           have hE:=HEE.out
           rw [if_neg (by rw [hn];exact Bool.false_ne_true)] at hE
           have H2:=Hq hE
           clear hn hno hE
           go_wp2
           go_ret2
           rw [H2.out]
           exact ⟨rfl,G4.out⟩)
    · have b1:(h != tk)=true:=by simpa using hr
      rw [if_neg hr] at hE
      clear hr
      (
        (
          go_wp2_with (first
           | (go_at_call 63;refine TT.out.mono ?_;rintro e w3 ⟨rfl,hg3⟩;have G3:=Hq (Za G5.out hg3);have k8:=Zb H8.out hg3 (by simp);have k9:=Zb H9.out hg3 (by simp);have k1:=Zb HB1'.out hg3 (by simp);have p0:=Cq _ _ 0 _ _ _ k8;have p1:=Cq _ _ 1 _ _ _ k8;have r2:=Cq _ _ 2 _ _ _ k9;have r3:=Cq _ _ 3 _ _ _ k9;have t1:=Cq _ _ 1 _ _ _ k1;have sp8:=(Gs k8);have sp9:=(Gs k9);have sp1:=(Gs k1);clear x0 x1 x2 y0 y1 s0 s1 hg3 k8 k9 k1)
           | (go_at_call 39;refine (hgo.out _).mono ?_;rintro e w4 ⟨v4,rfl,hg4,ho4⟩;obtain ⟨p4,c4,hv4⟩:=Zq ho4;subst hv4;have G4:=Hq (Za G3.out hg4);have O4:=Hq ho4;replace r3:=hg4.cell r3 (by simp);replace sp9:b9<w4.heap.size:=Nat.lt_of_lt_of_le sp9 hg4.size;clear p0 p1 r2 t1 sp8 sp1 hg4 ho4)))
        go_ret2
        rw [hE]
        exact ⟨rfl,G3.out⟩)
  · have hE:=HE.out
    rw [if_neg h18] at hE
    have b18:(op == 18)=false:=beq_eq_false_iff_ne.2 h18
    by_cases h5:op=5
    · obtain ⟨a50,a51⟩:=HA.out h5
      rw [if_pos h5] at hE
      subst h5
      clear h18
      by_cases hw:h<a+1
      · rw [if_pos hw] at hE
        (
          (
            go_wp2_with (first
             | (go_at_call 63;refine TT.out.mono ?_;rintro e w3 ⟨rfl,hg3⟩;have G3:=Hq (Za G5.out hg3);have k8:=Zb H8.out hg3 (by simp);have k9:=Zb H9.out hg3 (by simp);have k1:=Zb HB1'.out hg3 (by simp);have p0:=Cq _ _ 0 _ _ _ k8;have p1:=Cq _ _ 1 _ _ _ k8;have r2:=Cq _ _ 2 _ _ _ k9;have r3:=Cq _ _ 3 _ _ _ k9;have t1:=Cq _ _ 1 _ _ _ k1;have sp8:=(Gs k8);have sp9:=(Gs k9);have sp1:=(Gs k1);clear x0 x1 x2 y0 y1 s0 s1 hg3 k8 k9 k1)
             | (go_at_call 39;refine (hgo.out _).mono ?_;rintro e w4 ⟨v4,rfl,hg4,ho4⟩;obtain ⟨p4,c4,hv4⟩:=Zq ho4;subst hv4;have G4:=Hq (Za G3.out hg4);have O4:=Hq ho4;replace r3:=hg4.cell r3 (by simp);replace sp9:b9<w4.heap.size:=Nat.lt_of_lt_of_le sp9 hg4.size;clear p0 p1 r2 t1 sp8 sp1 hg4 ho4)))
          go_ret2
          rw [hE]
          exact ⟨rfl,G3.out⟩)
      · rw [if_neg hw] at hE
        by_cases hb:256<h - tk+gk
        · rw [if_pos hb] at hE
          (
            (
              go_wp2_with (first
               | (go_at_call 63;refine TT.out.mono ?_;rintro e w3 ⟨rfl,hg3⟩;have G3:=Hq (Za G5.out hg3);have k8:=Zb H8.out hg3 (by simp);have k9:=Zb H9.out hg3 (by simp);have k1:=Zb HB1'.out hg3 (by simp);have p0:=Cq _ _ 0 _ _ _ k8;have p1:=Cq _ _ 1 _ _ _ k8;have r2:=Cq _ _ 2 _ _ _ k9;have r3:=Cq _ _ 3 _ _ _ k9;have t1:=Cq _ _ 1 _ _ _ k1;have sp8:=(Gs k8);have sp9:=(Gs k9);have sp1:=(Gs k1);clear x0 x1 x2 y0 y1 s0 s1 hg3 k8 k9 k1)
               | (go_at_call 39;refine (hgo.out _).mono ?_;rintro e w4 ⟨v4,rfl,hg4,ho4⟩;obtain ⟨p4,c4,hv4⟩:=Zq ho4;subst hv4;have G4:=Hq (Za G3.out hg4);have O4:=Hq ho4;replace r3:=hg4.cell r3 (by simp);replace sp9:b9<w4.heap.size:=Nat.lt_of_lt_of_le sp9 hg4.size;clear p0 p1 r2 t1 sp8 sp1 hg4 ho4)))
            go_ret2
            rw [hE]
            exact ⟨rfl,G3.out⟩)
        · rw [if_neg hb] at hE
          (
            have HEE:=Hq hE
            clear hE
            (
              go_wp2_with (first
               | (go_at_call 63;refine TT.out.mono ?_;rintro e w3 ⟨rfl,hg3⟩;have G3:=Hq (Za G5.out hg3);have k8:=Zb H8.out hg3 (by simp);have k9:=Zb H9.out hg3 (by simp);have k1:=Zb HB1'.out hg3 (by simp);have p0:=Cq _ _ 0 _ _ _ k8;have p1:=Cq _ _ 1 _ _ _ k8;have r2:=Cq _ _ 2 _ _ _ k9;have r3:=Cq _ _ 3 _ _ _ k9;have t1:=Cq _ _ 1 _ _ _ k1;have sp8:=(Gs k8);have sp9:=(Gs k9);have sp1:=(Gs k1);clear x0 x1 x2 y0 y1 s0 s1 hg3 k8 k9 k1)
               | (go_at_call 39;refine (hgo.out _).mono ?_;rintro e w4 ⟨v4,rfl,hg4,ho4⟩;obtain ⟨p4,c4,hv4⟩:=Zq ho4;subst hv4;have G4:=Hq (Za G3.out hg4);have O4:=Hq ho4;replace r3:=hg4.cell r3 (by simp);replace sp9:b9<w4.heap.size:=Nat.lt_of_lt_of_le sp9 hg4.size;clear p0 p1 r2 t1 sp8 sp1 hg4 ho4)))
            clear TT H8 H9 HB1' HR HG HE
            go_loopw [70] (fun i wr=>wr=w4/\∃ k:Nat,i = .int .i64 k/\k<=L.length/\∀ j:Nat,j<k->∀ n,L[j]? = some n->n<(c.length:Int)) (fun i _=>L.length - (intOf i).toNat)
            case atStart=>exact ⟨rfl,0,rfl,Nat.zero_le _,fun j hj=>by omega⟩
            case round =>
             obtain ⟨rfl,k,rfl,hk,hno⟩:=hrel
             by_cases hlt:(k:Int)<(L.length:Int)
             · obtain ⟨n,hn⟩:∃ n,L[k]? = some n:=⟨_,List.getElem?_eq_getElem (by omega)⟩
               obtain ⟨g4,k4,e4,l4,cc4⟩:=Yb O4.out (by omega)
               injection e4 with e41 e42 e43
               subst e41
               have cn:=cc4 k (.int .i64 n) (by rw [List.getElem?_map,hn];rfl) (by omega)
               have HN:=Hq hn
               have HO:=Hq hno
               clear cc4 hn hno
               by_cases hge:(c.length:Int)<=n
               · have hy:=Zxt HN.out hge
                 have hE:=HEE.out
                 rw [if_pos hy] at hE
                 have H2:=Hq hE
                 clear hy hE
                 go_wp2
                 go_ret2
                 rw [H2.out]
                 exact ⟨rfl,G4.out⟩
               · go_wp2
                 go_roundw
                 case rel=>exact ⟨(by first|rfl|trivial),k+1,by go_num,by omega,fun j hj m hm=>by
                  by_cases e:j=k
                  · subst e;rw [HN.out] at hm;injection hm with hm;omega
                  · exact HO.out j (by omega) m hm⟩
                 case measure=>simp [intOf];omega
             · have hn:=Zxu (L:=L) (m:=(c.length:Int)) fun j hj=>hno j (by omega)
               have hE:=HEE.out
               rw [if_neg (by rw [hn];exact Bool.false_ne_true)] at hE
               have H2:=Hq hE
               clear hn hno hE
               go_wp2
               go_ret2
               rw [H2.out]
               exact ⟨rfl,G4.out⟩)
    · have b5:(op == 5)=false:=beq_eq_false_iff_ne.2 h5
      rw [if_neg h5] at hE
      clear h18 h5
      by_cases hw:h<tk
      · rw [if_pos hw] at hE
        (
          (
            go_wp2_with (first
             | (go_at_call 63;refine TT.out.mono ?_;rintro e w3 ⟨rfl,hg3⟩;have G3:=Hq (Za G5.out hg3);have k8:=Zb H8.out hg3 (by simp);have k9:=Zb H9.out hg3 (by simp);have k1:=Zb HB1'.out hg3 (by simp);have p0:=Cq _ _ 0 _ _ _ k8;have p1:=Cq _ _ 1 _ _ _ k8;have r2:=Cq _ _ 2 _ _ _ k9;have r3:=Cq _ _ 3 _ _ _ k9;have t1:=Cq _ _ 1 _ _ _ k1;have sp8:=(Gs k8);have sp9:=(Gs k9);have sp1:=(Gs k1);clear x0 x1 x2 y0 y1 s0 s1 hg3 k8 k9 k1)
             | (go_at_call 39;refine (hgo.out _).mono ?_;rintro e w4 ⟨v4,rfl,hg4,ho4⟩;obtain ⟨p4,c4,hv4⟩:=Zq ho4;subst hv4;have G4:=Hq (Za G3.out hg4);have O4:=Hq ho4;replace r3:=hg4.cell r3 (by simp);replace sp9:b9<w4.heap.size:=Nat.lt_of_lt_of_le sp9 hg4.size;clear p0 p1 r2 t1 sp8 sp1 hg4 ho4)))
          go_ret2
          rw [hE]
          exact ⟨rfl,G3.out⟩)
      · rw [if_neg hw] at hE
        by_cases hb:256<h - tk+gk
        · rw [if_pos hb] at hE
          (
            (
              go_wp2_with (first
               | (go_at_call 63;refine TT.out.mono ?_;rintro e w3 ⟨rfl,hg3⟩;have G3:=Hq (Za G5.out hg3);have k8:=Zb H8.out hg3 (by simp);have k9:=Zb H9.out hg3 (by simp);have k1:=Zb HB1'.out hg3 (by simp);have p0:=Cq _ _ 0 _ _ _ k8;have p1:=Cq _ _ 1 _ _ _ k8;have r2:=Cq _ _ 2 _ _ _ k9;have r3:=Cq _ _ 3 _ _ _ k9;have t1:=Cq _ _ 1 _ _ _ k1;have sp8:=(Gs k8);have sp9:=(Gs k9);have sp1:=(Gs k1);clear x0 x1 x2 y0 y1 s0 s1 hg3 k8 k9 k1)
               | (go_at_call 39;refine (hgo.out _).mono ?_;rintro e w4 ⟨v4,rfl,hg4,ho4⟩;obtain ⟨p4,c4,hv4⟩:=Zq ho4;subst hv4;have G4:=Hq (Za G3.out hg4);have O4:=Hq ho4;replace r3:=hg4.cell r3 (by simp);replace sp9:b9<w4.heap.size:=Nat.lt_of_lt_of_le sp9 hg4.size;clear p0 p1 r2 t1 sp8 sp1 hg4 ho4)))
            go_ret2
            rw [hE]
            exact ⟨rfl,G3.out⟩)
        · rw [if_neg hb] at hE
          (
            have HEE:=Hq hE
            clear hE
            (
              go_wp2_with (first
               | (go_at_call 63;refine TT.out.mono ?_;rintro e w3 ⟨rfl,hg3⟩;have G3:=Hq (Za G5.out hg3);have k8:=Zb H8.out hg3 (by simp);have k9:=Zb H9.out hg3 (by simp);have k1:=Zb HB1'.out hg3 (by simp);have p0:=Cq _ _ 0 _ _ _ k8;have p1:=Cq _ _ 1 _ _ _ k8;have r2:=Cq _ _ 2 _ _ _ k9;have r3:=Cq _ _ 3 _ _ _ k9;have t1:=Cq _ _ 1 _ _ _ k1;have sp8:=(Gs k8);have sp9:=(Gs k9);have sp1:=(Gs k1);clear x0 x1 x2 y0 y1 s0 s1 hg3 k8 k9 k1)
               | (go_at_call 39;refine (hgo.out _).mono ?_;rintro e w4 ⟨v4,rfl,hg4,ho4⟩;obtain ⟨p4,c4,hv4⟩:=Zq ho4;subst hv4;have G4:=Hq (Za G3.out hg4);have O4:=Hq ho4;replace r3:=hg4.cell r3 (by simp);replace sp9:b9<w4.heap.size:=Nat.lt_of_lt_of_le sp9 hg4.size;clear p0 p1 r2 t1 sp8 sp1 hg4 ho4)))
            clear TT H8 H9 HB1' HR HG HE
            go_loopw [70] (fun i wr=>wr=w4/\∃ k:Nat,i = .int .i64 k/\k<=L.length/\∀ j:Nat,j<k->∀ n,L[j]? = some n->n<(c.length:Int)) (fun i _=>L.length - (intOf i).toNat)
            case atStart=>exact ⟨rfl,0,rfl,Nat.zero_le _,fun j hj=>by omega⟩
            case round =>
             obtain ⟨rfl,k,rfl,hk,hno⟩:=hrel
             by_cases hlt:(k:Int)<(L.length:Int)
             · obtain ⟨n,hn⟩:∃ n,L[k]? = some n:=⟨_,List.getElem?_eq_getElem (by omega)⟩
               obtain ⟨g4,k4,e4,l4,cc4⟩:=Yb O4.out (by omega)
               injection e4 with e41 e42 e43
               subst e41
               have cn:=cc4 k (.int .i64 n) (by rw [List.getElem?_map,hn];rfl) (by omega)
               have HN:=Hq hn
               have HO:=Hq hno
               clear cc4 hn hno
               by_cases hge:(c.length:Int)<=n
               · have hy:=Zxt HN.out hge
                 have hE:=HEE.out
                 rw [if_pos hy] at hE
                 have H2:=Hq hE
                 clear hy hE
                 go_wp2
                 go_ret2
                 rw [H2.out]
                 exact ⟨rfl,G4.out⟩
               · go_wp2
                 go_roundw
                 case rel=>exact ⟨(by first|rfl|trivial),k+1,by go_num,by omega,fun j hj m hm=>by
                  by_cases e:j=k
                  · subst e;rw [HN.out] at hm;injection hm with hm;omega
                  · exact HO.out j (by omega) m hm⟩
                 case measure=>simp [intOf];omega
             · have hn:=Zxu (L:=L) (m:=(c.length:Int)) fun j hj=>hno j (by omega)
               have hE:=HEE.out
               rw [if_neg (by rw [hn];exact Bool.false_ne_true)] at hE
               have H2:=Hq hE
               clear hn hno hE
               go_wp2
               go_ret2
               rw [H2.out]
               exact ⟨rfl,G4.out⟩)
def opE (nf len:Nat) (lo:Int) (x:Int × Int):Int :=
 if x.1=14\/x.1=15\/x.1=16 then (if (len:Int)<=x.2 then 131 else 0)
 else if x.1=7\/x.1=8 then (if lo<=x.2 then 132 else 0)
 else if x.1=17 then (if (nf:Int)<=x.2 then 133 else 0) else 0
structure Yyk (fs:List FnP) (fn:FnP) (op a:Int):Prop where
 ok:Xbr fs op a
 t0:0<=(Yp fs fn.2.2.1 op a).1
 t1:(Yp fs fn.2.2.1 op a).1<=64
 g0:0<=(Yp fs fn.2.2.1 op a).2
 g1:(Yp fs fn.2.2.1 op a).2<=64
 copy:op=5->0<=a/\a<256
 jump:op=14\/op=15\/op=16->0<=a/\a<fn.2.2.2.length
structure Zkj (fs:List FnP):Prop where
 nf:fs.length<=64
 n1:1<=fs.length
 args:∀ fn∈fs,0<=fn.1/\fn.1<=16/\fn.1<=fn.2.1/\fn.2.1<=64/\0<=fn.2.2.1/\fn.2.2.1<=1
 len:∀ fn∈fs,1<=fn.2.2.2.length/\fn.2.2.2.length<=4096
 ins:∀ fn∈fs,∀ x∈fn.2.2.2,Yyk fs fn x.1 x.2
theorem Zmz:∀ {fs:List FnP},Yhk fs=0->∀ fn∈fs,fnE fn=0
 | [],_,fn,h=>by cases h
 | f::r,h,fn,hm=>by
   unfold Yhk at h
   by_cases h0:fnE f=0
   · rw [if_pos h0] at h
     rcases List.mem_cons.1 hm with rfl|hm
     · exact h0
     · exact Zmz h fn hm
   · rw [if_neg h0] at h;exact absurd h h0
theorem Zup:∀ {l:List (Int × Int)},Zro l=0->∀ x∈l,∃ s,Jx x.1=some s/\Zvs s.2.1.toNat x.2=true
 | [],_,x,h=>by cases h
 | y::r,h,x,hm=>by
   unfold Zro at h
   cases hs:Jx y.1 with
   | none=>rw [hs] at h;cases h
   | some s =>
     rw [hs] at h
     simp only [] at h
     by_cases hk:Zvs s.2.1.toNat y.2=true
     · rw [if_pos hk] at h
       rcases List.mem_cons.1 hm with rfl|hm
       · exact ⟨s,hs,hk⟩
       · exact Zup h x hm
     · rw [if_neg hk] at h;cases h
theorem Ykg:∀ n:Nat,n<46->∀ nm o t g,shapeT[n]? = some (nm,o,t,g)->(n=17->o=4)/\(n=19->o=5)/\(n=5->o=6)/\(n=14\/n=15\/n=16->o=3)/\(n≠17->n≠18->n≠19->0<=t/\t<=64/\0<=g/\g<=64):=by
 intro n hn nm o t g h
 rcases n with _|n
 · cases h;exact ⟨by decide,by decide,by decide,by decide,by decide⟩
 iterate 45 (rcases n with _|n;· cases h;exact ⟨by decide,by decide,by decide,by decide,by decide⟩)
 omega
theorem Zwe:∀ n:Nat,n<5->0<=Zcp n/\Zcp n<=64:=by decide
theorem Zqt {k:Nat} {a:Int} (hk:2<=k) (h:Zvs k a=true):0<=a/\a<bK k:=by
 unfold Zvs at h
 rw [if_neg (by omega),if_neg (by omega)] at h
 simpa using h
theorem Zqj {mem:Int} {nd:Nat} {fs:List FnP} (h:Zck mem nd fs=0) (ho:∀ fn∈fs,∀ x∈fn.2.2.2,opE fs.length fn.2.2.2.length fn.2.1 x=0):Zkj fs:=by
 unfold Zck at h
 by_cases hb:mem<0\/65536<mem\/mem<nd\/fs.length<1\/64<fs.length
 · rw [if_pos hb] at h;cases h
 rw [if_neg hb] at h
 have hz:=Zmz h
 have hfn:∀ fn∈fs,(0<=fn.1/\fn.1<=16/\fn.1<=fn.2.1/\fn.2.1<=64/\0<=fn.2.2.1/\fn.2.2.1<=1)/\(1<=fn.2.2.2.length/\fn.2.2.2.length<=4096)/\Zro fn.2.2.2=0:=by
  intro fn hm
  have h1:=hz fn hm
  unfold fnE at h1
  by_cases hc:fn.1<0\/16<fn.1\/fn.2.1<fn.1\/64<fn.2.1\/fn.2.2.1<0\/1<fn.2.2.1\/fn.2.2.2.length<1\/4096<fn.2.2.2.length
  · rw [if_pos hc] at h1;cases h1
  · rw [if_neg hc] at h1
    exact ⟨by omega,by omega,h1⟩
 refine ⟨by omega,by omega,fun fn hm=>(hfn fn hm).1,fun fn hm=>(hfn fn hm).2.1,fun fn hm x hx => ?_⟩
 obtain ⟨⟨nm,o,t,g⟩,hs,hk⟩:=Zup (hfn fn hm).2.2 x hx
 have hr:=hfn fn hm
 have hoe:=ho fn hm x hx
 obtain ⟨op,a⟩:=x
 simp only [] at hs hk hoe ⊢
 have hop:0<=op/\op<46:=by
  by_cases hop:0<=op/\op<46
  · exact hop
  · rw [Zfu hop] at hs;cases hs
 obtain ⟨n,y,rfl,hn,hy,hs2⟩:=Zft hop
 rw [hs] at hs2
 injection hs2 with hs2
 subst hs2
 obtain ⟨p17,p19,p5,pj,pt⟩:=Ykg n hn _ _ _ _ hy
 have call:(n:Int)=17->0<=a/\a<fs.length:=fun e=>by
  have e':n=17:=by omega
  have h1:=p17 e'
  subst h1
  obtain ⟨h2,h3⟩:=Zqt (by decide) hk
  unfold opE at hoe
  simp only [] at hoe
  rw [if_neg (by omega),if_neg (by omega),if_pos e] at hoe
  by_cases hc:(fs.length:Int)<=a
  · rw [if_pos hc] at hoe;cases hoe
  · exact ⟨h2,by omega⟩
 have sys:(n:Int)=19->0<=a/\a<5:=fun e=>by
  have h1:=p19 (by omega)
  subst h1
  exact Zqt (k:=5) (by decide) hk
 have hT:0<=(Yp fs fn.2.2.1 n a).1/\(Yp fs fn.2.2.1 n a).1<=64/\0<=(Yp fs fn.2.2.1 n a).2/\(Yp fs fn.2.2.1 n a).2<=64:=by
  unfold Yp
  by_cases h17:(n:Int)=17
  · rw [if_pos h17]
    obtain ⟨c0,c1⟩:=call h17
    obtain ⟨k,rfl⟩:=Int.eq_ofNat_of_zero_le c0
    obtain ⟨gg,hg⟩:∃ gg,fs[k]? = some gg:=⟨_,List.getElem?_eq_getElem (by omega)⟩
    rw [Int.toNat_natCast,hg]
    have:=hfn gg (List.mem_of_getElem? hg)
    simp only []
    omega
  · rw [if_neg h17]
    by_cases h18:(n:Int)=18
    · rw [if_pos h18];simp only [];omega
    · rw [if_neg h18]
      by_cases h19:(n:Int)=19
      · rw [if_pos h19]
        obtain ⟨c0,c1⟩:=sys h19
        have:=Zwe a.toNat (by omega)
        simp only [];omega
      · rw [if_neg h19,hs]
        have:=pt (by omega) (by omega) (by omega)
        simp only [];omega
 refine ⟨⟨⟨_,hs⟩,call,sys⟩,hT.1,hT.2.1,hT.2.2.1,hT.2.2.2,fun e => ?_,fun e => ?_⟩
 · have h1:=p5 (by omega)
   subst h1
   exact Zqt (k:=6) (by decide) hk
 · have h1:=pj (by omega)
   subst h1
   obtain ⟨h2,h3⟩:=Zqt (k:=3) (by decide) hk
   unfold opE at hoe
   simp only [] at hoe
   rw [if_pos (by omega)] at hoe
   by_cases hc:(fn.2.2.2.length:Int)<=a
   · rw [if_pos hc] at hoe;cases hoe
   · exact ⟨h2,by omega⟩
structure HS where
 h:List Int
 wt:List Bool
 top:Int
def goL (b:Int):List Nat->List Int->List Bool->Nat->Option (List Int × List Bool × Nat)
 | [],h,wt,least=>some (h,wt,least)
 | n::r,h,wt,least=>if h.getD n 0 = -1 then goL b r (h.set n b) (wt.set n true) (min least n) else if h.getD n 0=b then goL b r h wt least else none
def Jp (code:List (Int × Int)) (pl:Nat):List Nat:=match code[pl]? with|some x=>(Xm x.1 x.2 pl).map Int.toNat|none=>[]
def Jw (fs:List FnP) (fn:FnP) (pl:Nat) (h:Int):Int × Int:=match fn.2.2.2[pl]? with|some x=>Zff fs fn pl x.1 x.2 h|none=>(0,0)
inductive HStep (fs:List FnP) (fn:FnP):HS->Nat->HS->Nat->Prop
 | skip {s:HS} {pl:Nat}:pl<fn.2.2.2.length->s.wt.getD pl false=false->HStep fs fn s pl s (pl+1)
 | take {s:HS} {pl:Nat} {b:Int} {h':List Int} {wt':List Bool} {least:Nat}:pl<fn.2.2.2.length->s.wt.getD pl false=true->Jw fs fn pl (s.h.getD pl 0)=(0,b) ->
    goL b (Jp fn.2.2.2 pl) s.h (s.wt.set pl false) pl=some (h',wt',least)->HStep fs fn s pl ⟨h',wt',max (max s.top (s.h.getD pl 0)) b⟩ least
inductive HRun (fs:List FnP) (fn:FnP):HS->Nat->HS->Nat->Prop
 | refl (s:HS) (pl:Nat):HRun fs fn s pl s pl
 | step {s s1 s2:HS} {p p1 p2:Nat}:HRun fs fn s p s1 p1->HStep fs fn s1 p1 s2 p2->HRun fs fn s p s2 p2
def hs0 (n:Nat):HS:=⟨(List.replicate n (-1)).set 0 0,(List.replicate n false).set 0 true,0⟩
def Xbs (fs:List FnP) (fn:FnP) (s:HS) (pl:Nat) (e:Int):Prop :=
 pl<fn.2.2.2.length/\s.wt.getD pl false=true/\((e≠0/\(Jw fs fn pl (s.h.getD pl 0)).1=e)\/(e=136/\∃ b,Jw fs fn pl (s.h.getD pl 0)=(0,b)/\goL b (Jp fn.2.2.2 pl) s.h (s.wt.set pl false) pl=none))
structure Yaj (n:Nat) (s:HS):Prop where
 hl:s.h.length=n
 wl:s.wt.length=n
 rng:∀ i:Nat,i<n->s.h.getD i 0 = -1\/(0<=s.h.getD i 0/\s.h.getD i 0<=256)
 wts:∀ i:Nat,i<n->s.wt.getD i false=true->0<=s.h.getD i 0
 t0:0<=s.top
 t1:s.top<=256
theorem Zr {α:Type} (l:List α) (i j:Nat) (d x:α) (hi:i<l.length):(l.set i x).getD j d=if j=i then x else l.getD j d:=by
 simp only [List.getD_eq_getElem?_getD,List.getElem?_set]
 by_cases h:i=j
 · subst h;simp [hi]
 · rw [if_neg h,if_neg (Ne.symm h)]
theorem You {n:Nat} (h:1<=n):Yaj n (hs0 n):=by
 refine ⟨by simp [hs0],by simp [hs0],fun i hi => ?_,fun i hi hw => ?_,by simp [hs0],by simp [hs0]⟩
 · simp only [hs0]
   rw [Zr _ _ _ _ _ (by simp;omega)]
   split
   · right;decide
   · left;simp [List.getD_eq_getElem?_getD,List.getElem?_replicate,hi]
 · simp only [hs0] at hw ⊢
   rw [Zr _ _ _ _ _ (by simp;omega)] at hw ⊢
   by_cases e:i=0
   · rw [if_pos e];decide
   · rw [if_neg e] at hw;simp [List.getD_eq_getElem?_getD,List.getElem?_replicate,hi] at hw
theorem Zss {fs:List FnP} {fn:FnP} {pl:Nat} {op a h b:Int} (hi:Yyk fs fn op a) (hh:0<=h/\h<=256) (hs:Zff fs fn pl op a h=(0,b)):(0<=b/\b<=256)/\∀ n∈Xm op a pl,0<=n/\n<fn.2.2.2.length:=by
 unfold Zff at hs
 have hj:=hi.jump
 have hc:=hi.copy
 have h1:=hi.t0;have h2:=hi.t1;have h3:=hi.g0;have h4:=hi.g1
 by_cases h18:op=18
 · rw [if_pos h18] at hs
   by_cases hr:h=fn.2.2.1
   · rw [if_pos hr] at hs
     injection hs with _ hs
     subst hs
     refine ⟨by decide,fun n hn => ?_⟩
     unfold Xm at hn
     rw [if_pos (Or.inr (Or.inr h18))] at hn
     cases hn
   · rw [if_neg hr] at hs;cases hs
 · rw [if_neg h18] at hs
   by_cases hw:h<(if op=5 then a+1 else (Yp fs fn.2.2.1 op a).1)
   · rw [if_pos hw] at hs;cases hs
   · rw [if_neg hw] at hs
     by_cases hb:256<h - (Yp fs fn.2.2.1 op a).1+(Yp fs fn.2.2.1 op a).2
     · rw [if_pos hb] at hs;cases hs
     · rw [if_neg hb] at hs
       by_cases ha:(Xm op a pl).any (fun n=>decide ((fn.2.2.2.length:Int)<=n))=true
       · rw [if_pos ha] at hs;cases hs
       · rw [if_neg ha] at hs
         injection hs with _ hs
         have hw2:(Yp fs fn.2.2.1 op a).1<=h\/(op=5/\(Yp fs fn.2.2.1 op a).1=0):=by
          by_cases h5:op=5
          · right
            refine ⟨h5,?_⟩
            unfold Yp
            rw [if_neg (by omega),if_neg (by omega),if_neg (by omega),h5]
            rfl
          · rw [if_neg h5] at hw;left;omega
         refine ⟨by omega,fun n hn => ?_⟩
         have hlt:n<(fn.2.2.2.length:Int):=by
          rcases Int.lt_or_le n (fn.2.2.2.length:Int) with h|h
          · exact h
          · exact absurd (List.any_eq_true.2 ⟨n,hn,by simpa using h⟩) ha
         refine ⟨?_,hlt⟩
         unfold Xm at hn
         split at hn
         · cases hn
         · split at hn
           · simp at hn;subst hn
             exact (hj (Or.inl (by assumption))).1
           · split at hn
             · rename_i hq
               have:=hj (Or.inr hq.1)
               simp at hn
               rcases hn with rfl|rfl <;> omega
             · simp at hn;omega
theorem Ymy {n k:Nat} {b:Int} {h:List Int} {wt:List Bool} {t:Int} (hI:Yaj n ⟨h,wt,t⟩) (hk:k<n) (hb:0<=b/\b<=256):Yaj n ⟨h.set k b,wt.set k true,t⟩:=by
 obtain ⟨h1,h2,h3,h4,h5,h6⟩:=hI
 simp only [] at h1 h2 h3 h4 h5 h6
 refine ⟨by simp [h1],by simp [h2],fun i hi => ?_,fun i hi hw => ?_,h5,h6⟩
 · simp only []
   rw [Zr _ _ _ _ _ (by omega)]
   split
   · exact Or.inr hb
   · exact h3 i hi
 · simp only [] at hw ⊢
   rw [Zr _ _ _ _ _ (by omega)] at hw ⊢
   split
   · exact hb.1
   · rename_i hne
     rw [if_neg hne] at hw
     exact h4 i hi hw
theorem Ymz {n k:Nat} {h:List Int} {wt:List Bool} {t t':Int} (hI:Yaj n ⟨h,wt,t⟩) (hk:k<n) (ht:0<=t'/\t'<=256):Yaj n ⟨h,wt.set k false,t'⟩:=by
 obtain ⟨h1,h2,h3,h4,h5,h6⟩:=hI
 simp only [] at h1 h2 h3 h4 h5 h6
 refine ⟨h1,by simp [h2],h3,fun i hi hw => ?_,ht.1,ht.2⟩
 simp only [] at hw ⊢
 rw [Zr _ _ _ _ _ (by omega)] at hw
 by_cases e:i=k
 · rw [if_pos e] at hw;cases hw
 · rw [if_neg e] at hw;exact h4 i hi hw
def mI (h:List Int) (wt:List Bool) (i:Nat):Nat:=(if h.getD i 0 = -1 then 2 else 0)+(if wt.getD i false=true then 1 else 0)
def mS (n:Nat) (h:List Int) (wt:List Bool):Nat:=((List.range n).map (mI h wt)).sum
theorem Yog {f g:Nat->Nat}:∀ (l:List Nat),(∀ i∈l,f i<=g i)->(l.map f).sum<=(l.map g).sum
 | [],_=>Nat.le_refl _
 | x::r,h=>by
   simp only [List.map_cons,List.sum_cons]
   exact Nat.add_le_add (h x (List.mem_cons_self ..)) (Yog r fun i hi=>h i (List.mem_cons_of_mem _ hi))
theorem Ydu {f g:Nat->Nat}:∀ (l:List Nat) (j:Nat),j∈l->f j<g j->(∀ i∈l,f i<=g i)->(l.map f).sum<(l.map g).sum
 | x::r,j,hj,hlt,h=>by
   simp only [List.map_cons,List.sum_cons]
   rcases List.mem_cons.1 hj with rfl|hj
   · have:=Yog r fun i hi=>h i (List.mem_cons_of_mem _ hi);omega
   · have:=Ydu r j hj hlt fun i hi=>h i (List.mem_cons_of_mem _ hi)
     have:=h x (List.mem_cons_self ..);omega
theorem Ywg {n k:Nat} {b:Int} {h:List Int} {wt:List Bool} (hl:h.length=n) (hw:wt.length=n) (hk:k<n) (hm:h.getD k 0 = -1) (hb:0<=b):mS n (h.set k b) (wt.set k true)<mS n h wt:=by
 refine Ydu _ k (List.mem_range.2 hk) ?_ fun i hi => ?_
 · unfold mI
   rw [Zr _ _ _ _ _ (by omega),Zr _ _ _ _ _ (by omega),if_pos rfl,if_pos rfl,if_pos rfl,if_pos hm,if_neg (by omega)]
   split <;> omega
 · unfold mI
   rw [Zr _ _ _ _ _ (by omega),Zr _ _ _ _ _ (by omega)]
   by_cases e:i=k
   · subst e
     rw [if_pos rfl,if_pos rfl,if_pos rfl,if_pos hm,if_neg (by omega)]
     split <;> omega
   · rw [if_neg e,if_neg e];exact Nat.le_refl _
theorem Ywh {n k:Nat} {h:List Int} {wt:List Bool} (hw:wt.length=n) (hk:k<n) (hm:wt.getD k false=true):mS n h (wt.set k false)<mS n h wt:=by
 refine Ydu _ k (List.mem_range.2 hk) ?_ fun i hi => ?_
 · unfold mI
   rw [Zr _ _ _ _ _ (by omega),if_pos rfl,hm]
   simp
 · unfold mI
   rw [Zr _ _ _ _ _ (by omega)]
   by_cases e:i=k
   · subst e;rw [if_pos rfl,hm];simp
   · rw [if_neg e];exact Nat.le_refl _
structure GoL (n:Nat) (b:Int) (L:List Nat) (h:List Int) (wt:List Bool) (least:Nat) (h':List Int) (wt':List Bool) (least':Nat):Prop where
 lh:h'.length=n
 lw:wt'.length=n
 at_:∀ x,x<n->(h'.getD x 0=h.getD x 0/\wt'.getD x false=wt.getD x false)\/(h.getD x 0 = -1/\h'.getD x 0=b/\wt'.getD x false=true/\least'<=x)
 all:∀ y∈L,h'.getD y 0=b
 le:least'<=least
theorem Yhd {n:Nat} {b:Int} (hb:0<=b):∀ {L:List Nat} {h:List Int} {wt:List Bool} {least:Nat} {h':List Int} {wt':List Bool} {least':Nat},h.length=n->wt.length=n->(∀ y∈L,y<n)->goL b L h wt least=some (h',wt',least')->GoL n b L h wt least h' wt' least'
 | [],h,wt,least,h',wt',least',h1,h2,_,e=>by
   simp only [goL,Option.some.injEq,Prod.mk.injEq] at e
   obtain ⟨rfl,rfl,rfl⟩:=e
   exact ⟨h1,h2,fun x _=>Or.inl ⟨rfl,rfl⟩,(fun y hy=>by cases hy),Nat.le_refl _⟩
 | m::r,h,wt,least,h',wt',least',h1,h2,hL,e=>by
   have hm:=hL m (List.mem_cons_self ..)
   unfold goL at e
   by_cases hc:h.getD m 0 = -1
   · rw [if_pos hc] at e
     obtain ⟨l1,l2,l3,l4,l5⟩:=Yhd hb (by simp [h1]) (by simp [h2]) (fun y hy=>hL y (List.mem_cons_of_mem _ hy)) e
     have hmb:h'.getD m 0=b:=by
      rcases l3 m hm with ⟨e1,_⟩|⟨e1,e2,_⟩
      · rw [e1,Zr _ _ _ _ _ (by omega),if_pos rfl]
      · exact e2
     refine ⟨l1,l2,fun x hx => ?_,fun y hy => ?_,by omega⟩
     · by_cases hxm:x=m
       · subst hxm
         right
         refine ⟨hc,hmb,?_,by omega⟩
         rcases l3 x hx with ⟨_,e2⟩|⟨_,_,e2,_⟩
         · rw [e2,Zr _ _ _ _ _ (by omega),if_pos rfl]
         · exact e2
       · have e1:=l3 x hx
         rw [Zr _ _ _ _ _ (by omega),if_neg hxm,Zr _ _ _ _ _ (by omega),if_neg hxm] at e1
         exact e1
     · rcases List.mem_cons.1 hy with rfl|hy
       · exact hmb
       · exact l4 y hy
   · rw [if_neg hc] at e
     by_cases hd:h.getD m 0=b
     · rw [if_pos hd] at e
       obtain ⟨l1,l2,l3,l4,l5⟩:=Yhd hb h1 h2 (fun y hy=>hL y (List.mem_cons_of_mem _ hy)) e
       refine ⟨l1,l2,l3,fun y hy => ?_,l5⟩
       rcases List.mem_cons.1 hy with rfl|hy
       · rcases l3 y hm with ⟨e1,_⟩|⟨_,e2,_⟩
         · rw [e1];exact hd
         · exact e2
       · exact l4 y hy
     · rw [if_neg hd] at e;cases e
structure HCl (fn:FnP) (s:HS) (pl:Nat):Prop where
 inv:Yaj fn.2.2.2.length s
 w:∀ x,x<fn.2.2.2.length->s.wt.getD x false=true->pl<=x
 c:∀ x,x<fn.2.2.2.length->0<=s.h.getD x 0->s.wt.getD x false=false->∀ y∈Jp fn.2.2.2 x,y<fn.2.2.2.length/\0<=s.h.getD y 0
 z:s.h.getD 0 0=0
theorem Xbm {fn:FnP} (h:1<=fn.2.2.2.length):HCl fn (hs0 fn.2.2.2.length) 0:=by
 refine ⟨You h,fun x _ _=>Nat.zero_le _,fun x hx h0 hw => ?_,?_⟩
 · simp only [hs0] at h0 hw
   rw [Zr _ _ _ _ _ (by simp;omega)] at h0 hw
   by_cases e:x=0
   · rw [if_pos e] at hw;cases hw
   · rw [if_neg e] at h0;simp [List.getD_eq_getElem?_getD,List.getElem?_replicate,hx] at h0
 · simp only [hs0]
   rw [Zr _ _ _ _ _ (by simp;omega),if_pos rfl]
theorem Yna {fs:List FnP} {fn:FnP} (hok:Zkj fs) (hfn:fn∈fs) {s s':HS} {pl pl':Nat} (H:HCl fn s pl) (st:HStep fs fn s pl s' pl'):HCl fn s' pl':=by
 obtain ⟨inv,hw,hc,hz⟩:=H
 cases st with
 | skip hlt hwt =>
   refine ⟨inv,fun x hx h => ?_,hc,hz⟩
   have:=hw x hx h
   have:x≠pl:=fun e=>by rw [e,hwt] at h;cases h
   omega
 | take hlt hwt hst hgo =>
   rename_i b h' wt'
   obtain ⟨⟨op,a⟩,hins⟩:∃ x,fn.2.2.2[pl]? = some x:=⟨_,List.getElem?_eq_getElem (by omega)⟩
   have hio:=hok.ins fn hfn _ (List.mem_of_getElem? hins)
   simp only [] at hio
   have hrng:=inv.rng pl hlt
   have hw0:=inv.wts pl hlt hwt
   have hsE:Zff fs fn pl op a (s.h.getD pl 0)=(0,b):=by unfold Jw at hst;simp only [hins] at hst;exact hst
   obtain ⟨⟨b0,b1⟩,hn⟩:=Zss hio (by omega) hsE
   have hnx:∀ y∈Jp fn.2.2.2 pl,y<fn.2.2.2.length:=by
    intro y hy
    unfold Jp at hy
    simp only [hins] at hy
    obtain ⟨z,hz,rfl⟩:=List.mem_map.1 hy
    have:=hn z hz
    omega
   obtain ⟨l1,l2,l3,l4,l5⟩:=Yhd b0 inv.hl (by simp [inv.wl]) hnx hgo
   have keep:∀ x,x<fn.2.2.2.length->0<=s.h.getD x 0->h'.getD x 0=s.h.getD x 0:=by
    intro x hx h0
    rcases l3 x hx with ⟨e,_⟩|⟨e,_⟩
    · exact e
    · rw [e] at h0;omega
   refine ⟨⟨l1,l2,fun i hi => ?_,fun i hi hwi => ?_,?_,?_⟩,fun x hx h => ?_,fun x hx h0 hwx y hy => ?_,?_⟩
   · simp only []
     rcases l3 i hi with ⟨e,_⟩|⟨_,e,_⟩
     · rw [e];exact inv.rng i hi
     · rw [e];exact Or.inr ⟨b0,b1⟩
   · simp only [] at hwi ⊢
     rcases l3 i hi with ⟨e,e2⟩|⟨_,e,_⟩
     · rw [e2,Zr _ _ _ _ _ (by rw [inv.wl];exact hlt)] at hwi
       by_cases hip:i=pl
       · rw [if_pos hip] at hwi;cases hwi
       · rw [if_neg hip] at hwi;rw [e];exact inv.wts i hi hwi
     · rw [e];exact b0
   · simp only [];have:=inv.t0;omega
   · simp only []
     have:=inv.t1
     omega
   · simp only [] at h
     rcases l3 x hx with ⟨_,e2⟩|⟨_,_,_,e⟩
     · rw [e2,Zr _ _ _ _ _ (by rw [inv.wl];exact hlt)] at h
       by_cases hip:x=pl
       · rw [if_pos hip] at h;cases h
       · rw [if_neg hip] at h
         have:=hw x hx h
         omega
     · exact e
   · simp only [] at h0 hwx ⊢
     rcases l3 x hx with ⟨e,e2⟩|⟨_,_,e,_⟩
     · rw [e2,Zr _ _ _ _ _ (by rw [inv.wl];exact hlt)] at hwx
       rw [e] at h0
       by_cases hip:x=pl
       · subst hip
         exact ⟨hnx y hy,by rw [l4 y hy];exact b0⟩
       · rw [if_neg hip] at hwx
         obtain ⟨h3,h4⟩:=hc x hx h0 hwx y hy
         exact ⟨h3,by rw [keep y h3 h4];exact h4⟩
     · rw [e] at hwx;cases hwx
   · simp only []
     rw [keep 0 (by omega) (by rw [hz];decide)]
     exact hz
theorem Ysr {fs:List FnP} {fn:FnP} (hok:Zkj fs) (hfn:fn∈fs) {s s':HS} {pl pl':Nat} (r:HRun fs fn s pl s' pl'):HCl fn s pl->HCl fn s' pl':=by
 induction r with
 | refl=>exact id
 | step r st ih=>exact fun H=>Yna hok hfn (ih H) st
theorem Zcu {fs:List FnP} {fn:FnP} (hok:Zkj fs) (hfn:fn∈fs) {s:HS} (r:HRun fs fn (hs0 fn.2.2.2.length) 0 s fn.2.2.2.length) :
 s.h.getD 0 0=0/\∀ x,x<fn.2.2.2.length->0<=s.h.getD x 0->∀ y∈Jp fn.2.2.2 x,y<fn.2.2.2.length/\0<=s.h.getD y 0:=by
 have H:=Ysr hok hfn r (Xbm (hok.len fn hfn).1)
 refine ⟨H.z,fun x hx h0=>H.c x hx h0 ?_⟩
 cases hb:s.wt.getD x false with
 | false=>rfl
 | true=>have:=H.w x hx hb;omega
end Go.Proofs.Ythlkflagancdfaa.CK
namespace Go.Proofs.Ythlkflagancdfaa.OT
open Go.Proofs.Ythlkflagancdfaa.CK
inductive Reach (c:List (Int × Int)):Nat->Prop
 | z:Reach c 0
 | next {p n:Nat}:Reach c p->p<c.length->n∈Jp c p->Reach c n
structure Yny (fs:List FnP) (fn:FnP) (H:Nat->Int):Prop where
 z:H 0=0
 st:∀ p,p<fn.2.2.2.length->Reach fn.2.2.2 p->∃ b,Jw fs fn p (H p)=(0,b)/\∀ n∈Jp fn.2.2.2 p,n<fn.2.2.2.length/\H n=b
section
variable {fs:List FnP} {fn:FnP} {H:Nat->Int}
theorem Zrm {c:List (Int × Int)} {b:Int}:∀ {L:List Nat} {h:List Int} {wt:List Bool} {least:Nat},(∀ n∈L,n<h.length/\H n=b/\Reach c n)->wt.length=h.length->(∀ x,x<h.length->h.getD x 0 = -1\/(h.getD x 0=H x/\Reach c x))->(∀ x,x<h.length->wt.getD x false=true->h.getD x 0=H x/\Reach c x) ->
 ∃ h' wt' least',goL b L h wt least=some (h',wt',least')/\h'.length=h.length/\wt'.length=h.length/\(∀ x,x<h.length->h'.getD x 0 = -1\/(h'.getD x 0=H x/\Reach c x))/\(∀ x,x<h.length->wt'.getD x false=true->h'.getD x 0=H x/\Reach c x)
 | [],h,wt,least,_,hw,h1,h2=>⟨h,wt,least,rfl,rfl,hw,h1,h2⟩
 | n::r,h,wt,least,hL,hw,h1,h2=>by
   obtain ⟨hn,hb,hr⟩:=hL n (List.mem_cons_self ..)
   unfold goL
   by_cases hc:h.getD n 0 = -1
   · rw [if_pos hc]
     obtain ⟨h',wt',least',e,l1,l2,a1,a2⟩:=Zrm (b:=b) (L:=r) (h:=h.set n b) (wt:=wt.set n true) (least:=min least n) (fun m hm=>by simp;exact hL m (List.mem_cons_of_mem _ hm)) (by simp [hw]) (fun x hx=>by
      rw [Zr _ _ _ _ _ hn]
      split
      · next e=>subst e;exact Or.inr ⟨hb.symm,hr⟩
      · exact h1 x (by simpa using hx)) (fun x hx hx2=>by
      rw [Zr _ _ _ _ _ hn]
      rw [Zr _ _ _ _ _ (by omega)] at hx2
      split
      · next e=>subst e;exact ⟨hb.symm,hr⟩
      · next e=>rw [if_neg e] at hx2;exact h2 x (by simpa using hx) hx2)
     refine ⟨h',wt',least',e,by simpa using l1,by simpa using l2,fun x hx=>a1 x (by simpa using hx),fun x hx=>a2 x (by simpa using hx)⟩
   · rw [if_neg hc]
     have hq:h.getD n 0=b:=by
      rcases h1 n hn with e|e
      · exact absurd e hc
      · rw [e.1,hb]
     rw [if_pos hq]
     exact Zrm (fun m hm=>hL m (List.mem_cons_of_mem _ hm)) hw h1 h2
structure HF (fn:FnP) (H:Nat->Int) (s:HS):Prop where
 hl:s.h.length=fn.2.2.2.length
 wl:s.wt.length=fn.2.2.2.length
 a:∀ x,x<fn.2.2.2.length->s.h.getD x 0 = -1\/(s.h.getD x 0=H x/\Reach fn.2.2.2 x)
 w:∀ x,x<fn.2.2.2.length->s.wt.getD x false=true->s.h.getD x 0=H x/\Reach fn.2.2.2 x
theorem Ygw (F:Yny fs fn H) {s:HS} {pl:Nat} (I:HF fn H s) (hp:pl<fn.2.2.2.length) (hw:s.wt.getD pl false=true) :
 ∃ b h' wt' least',Jw fs fn pl (s.h.getD pl 0)=(0,b)/\goL b (Jp fn.2.2.2 pl) s.h (s.wt.set pl false) pl=some (h',wt',least')/\∀ t,HF fn H ⟨h',wt',t⟩:=by
 obtain ⟨hH,hr⟩:=I.w pl hp hw
 obtain ⟨b,hs,hg⟩:=F.st pl hp hr
 obtain ⟨h',wt',least',e,l1,l2,a1,a2⟩:=Zrm (H:=H) (c:=fn.2.2.2) (b:=b) (L:=Jp fn.2.2.2 pl) (h:=s.h) (wt:=s.wt.set pl false) (least:=pl) (fun n hn=>by
  obtain ⟨q1,q2⟩:=hg n hn
  exact ⟨by rw [I.hl];exact q1,q2,Reach.next hr hp hn⟩) (by simp [I.wl,I.hl]) (fun x hx=>I.a x (by rw [<- I.hl];exact hx)) (fun x hx hx2=>by
  rw [Zr _ _ _ _ _ (by rw [I.wl];exact hp)] at hx2
  split at hx2
  · cases hx2
  · exact I.w x (by rw [<- I.hl];exact hx) hx2)
 refine ⟨b,h',wt',least',?_,e,fun t=>⟨l1.trans I.hl,l2.trans I.hl,fun x hx=>a1 x (by rw [I.hl];exact hx),fun x hx=>a2 x (by rw [I.hl];exact hx)⟩⟩
 rw [hH];exact hs
theorem Xby (F:Yny fs fn H) (hn:1<=fn.2.2.2.length):HF fn H (hs0 fn.2.2.2.length):=by
 refine ⟨by simp [hs0],by simp [hs0],fun x hx => ?_,fun x hx hw => ?_⟩
 · simp only [hs0]
   rw [Zr _ _ _ _ _ (by simp;omega)]
   split
   · next e=>subst e;exact Or.inr ⟨F.z.symm,Reach.z⟩
   · left;simp [List.getD_eq_getElem?_getD,List.getElem?_replicate,hx]
 · simp only [hs0] at hw ⊢
   rw [Zr _ _ _ _ _ (by simp;omega)] at hw ⊢
   by_cases e:x=0
   · subst e;rw [if_pos rfl];exact ⟨F.z.symm,Reach.z⟩
   · rw [if_neg e] at hw;simp [List.getD_eq_getElem?_getD,List.getElem?_replicate,hx] at hw
theorem Yot (F:Yny fs fn H) {s s':HS} {pl pl':Nat} (r:HRun fs fn s pl s' pl') (I:HF fn H s):HF fn H s':=by
 induction r with
 | refl=>exact I
 | step _ hs ih =>
   cases hs with
   | skip _ _=>exact ih
   | take hp hw hst hgo =>
     obtain ⟨b',h'',wt'',least'',e1,e2,e3⟩:=Ygw F ih hp hw
     rw [hst] at e1
     injection e1 with _ e1
     subst e1
     rw [hgo] at e2
     injection e2 with e2
     injection e2 with e2 e4
     injection e4 with e4 _
     subst e2
     subst e4
     exact e3 _
theorem Yhs (F:Yny fs fn H) (hn:1<=fn.2.2.2.length) {s:HS} {pl:Nat} {e:Int} (r:HRun fs fn (hs0 fn.2.2.2.length) 0 s pl):¬ Xbs fs fn s pl e:=by
 rintro ⟨hp,hw,hb⟩
 obtain ⟨b',h'',wt'',least'',e1,e2,e3⟩:=Ygw F (Yot F r (Xby F hn)) hp hw
 rcases hb with ⟨h1,h2⟩|⟨h1,b,h2,h3⟩
 · rw [e1] at h2;exact h1 h2.symm
 · rw [e1] at h2
   injection h2 with _ h2
   subst h2
   rw [e2] at h3;cases h3
theorem Zuk (F:Yny fs fn H) (hok:Zkj fs) (hfn:fn∈fs) {s:HS} (r:HRun fs fn (hs0 fn.2.2.2.length) 0 s fn.2.2.2.length) :
 ∀ x,x<fn.2.2.2.length->(Reach fn.2.2.2 x->s.h.getD x 0=H x/\0<=H x)/\(¬ Reach fn.2.2.2 x->s.h.getD x 0 = -1):=by
 have hn:=(hok.len fn hfn).1
 have I:=Yot F r (Xby F hn)
 obtain ⟨z,cl⟩:=Zcu hok hfn r
 have up:∀ x,Reach fn.2.2.2 x->0<=s.h.getD x 0:=by
  intro x hr
  induction hr with
  | z=>rw [z];exact Int.le_refl _
  | next hr hp hy ih=>exact (cl _ hp ih _ hy).2
 intro x hx
 refine ⟨fun hr => ?_,fun hr => ?_⟩
 · have h0:=up x hr
   rcases I.a x hx with e|⟨e,_⟩
   · omega
   · exact ⟨e,by omega⟩
 · rcases I.a x hx with e|⟨_,e⟩
   · exact e
   · exact absurd e hr
end
end Go.Proofs.Ythlkflagancdfaa.OT
namespace Go.Proofs.Ythlkflagancdfaa.CK
open Go.RowKit Go.Great
def Zhq (c:List (Int × Int)) (l:List Nat):List Nat:=l.map fun at_=>match c[at_]? with|some x=>x.2.toNat|none=>0
structure St (w0:World) (bw bx bm B:Nat) (mem:Int) (pd:Option Addr) (nd cd:Nat) (pF:Option Addr) (cF:Nat) (fs:List FnP) (cl:Nat->List Nat):Prop where
 bwc:w0.heap[bw]? = some (.cells #[.int .i64 mem,.slice pd nd cd,.slice pF fs.length cF,.pointer (some ⟨bx,0,none⟩),.map (some bm)] 71 (0,0))
 ne1:bw≠bx
 ne2:bm≠bx
 lm:bm<w0.heap.size
 hF:Yk w0 B pF fs
 hB:B<=w0.heap.size
 lx:bx<w0.heap.size
 bx_:B<=bx
 nf:fs.length<=64
 calls:∀ f:Nat,f<fs.length->∃ (p:Option Addr) (c:Nat),(∀ W:World,W.heap[bm]? = w0.heap[bm]? -> (Instr.lookup 69 (.map (some bm)) (.int .i64 f) false).run Try.prog W = .ok (.slice p (cl f).length c) W) /\
  ∀ (i at_:Nat),(cl f)[i]? = some at_->∃ b,p=some ⟨b,0,none⟩/\b≠bx/\w0.cell? ⟨b,i,none⟩=some (.int .i64 at_)
 ok:∀ (f:Nat) (ar lo r:Int) (c:List (Int × Int)),fs[f]? = some (ar,lo,r,c)->(cl f).length<=4096/\∀ at_∈cl f,∃ a:Nat,c[at_]? = some (17,(a:Int))/\a<fs.length
def Je (fs:List FnP) (cl:Nat->List Nat) (f:Nat):List Nat:=match fs[f]? with|some fn=>Zhq fn.2.2.2 (cl f)|none=>[]
theorem Zbs {P:Program} {w:World} {ops:Array Oper} {rest:List Oper} {o:Oper} {a:Act} {Q:Exit->Act->World->Prop}
 (hg:o.guard=none) (m x:Operand) (t:TypeId) (hop:o.op=Op.lookup t m x false) {M X v:Value} (hm:a.eval m=M) (hx:a.eval x=X) (hrun:(Instr.lookup t M X false).run P w = .ok v w) (hK:wpList P ops Q rest (a.put o.dst v) w) :
 wpList P ops Q (o::rest) a w:=by
 refine wpList_plain hg fun K' hK' => ?_
 unfold Oper.wp
 simp [execOp,hop,hm,hx,hrun,Result.andThen]
 exact hK' _ _ hK
structure LvW (w0 w:World) (bx gV n:Nat) (x0 x1 x2 x4 x5:Value) (V:List Bool):Prop where
 g:w0.grownBy w (some bx)
 xc:w.heap[bx]? = some (.cells #[x0,x1,x2,.slice (some ⟨gV,0,none⟩) n n,x4,x5] 35 (0,0))
 r:w.ownsRow w0.heap.size 4 1 (.slice (some ⟨gV,0,none⟩) n n) n (V.map Value.bool)
section
variable {w0 w w':World} {bx gV n:Nat} {x0 x1 x2 x4 x5:Value} {V:List Bool}
theorem Zza (H:LvW w0 w bx gV n x0 x1 x2 x4 x5 V):w0.heap.size<=gV/\gV<w.heap.size:=H.r.lt gV rfl
theorem Zey (H:LvW w0 w bx gV n x0 x1 x2 x4 x5 V):V.length=n:=by have:=H.r.1;simpa using this
theorem Ylq (H:LvW w0 w bx gV n x0 x1 x2 x4 x5 V) (k:Nat) (hk:k<n):w.cell? ⟨gV,k,none⟩=some (.bool (V.getD k false)):=by
 have hl:=Zey H
 rw [H.r.cellAt k (by omega),List.getElem?_map,List.getD_eq_getElem?_getD,List.getElem?_eq_getElem (by omega:k<V.length)]
 rfl
theorem Yrg (H:LvW w0 w bx gV n x0 x1 x2 x4 x5 V) (hx:bx<w0.heap.size) (k:Nat) (b:Bool):LvW w0 (w.setCell ⟨gV,k,none⟩ (.bool b)) bx gV n x0 x1 x2 x4 x5 (V.set k b):=by
 have hl:=Zza H
 refine ⟨Zcs H.g (Zg _ _ _ _) hl.1,Zb H.xc (Zg w gV k (.bool b)) (by intro e;injection e with e;omega),?_⟩
 rw [List.map_set]
 exact (H.r.stored k (.bool b)).1
end
def Ycu (V:List Bool):Nat:=(V.filter fun b => !b).length
theorem Zzx:∀ (V:List Bool) (k:Nat),V.getD k true=false->Ycu (V.set k true)+1=Ycu V
 | [],k,h=>by simp at h
 | b::r,0,h=>by simp at h;subst h;simp [Ycu]
 | b::r,k+1,h=>by
   have ih:=Zzx r k (by simpa using h)
   unfold Ycu at ih ⊢
   rw [List.set_cons_succ]
   cases b
   · simp;omega
   · simp;omega
theorem Ysw {V V':List Bool} (hl:V.length=V'.length) (h:∀ x,V.getD x false=true->V'.getD x false=true):Ycu V'<=Ycu V:=by
 induction V generalizing V' with
 | nil =>
   cases V' with
   | nil=>exact Nat.le_refl _
   | cons b r=>simp at hl
 | cons b r ih =>
   cases V' with
   | nil=>simp at hl
   | cons b' r' =>
     have i2:=ih (V':=r') (by simpa using hl) (fun x hx=>by have:=h (x+1) (by simpa using hx);simpa using this)
     have h0:=h 0
     simp at h0
     unfold Ycu at i2 ⊢
     cases b <;> cases b' <;> simp_all <;> omega
inductive CRe (next:Nat->List Nat) (a:Nat):Nat->Prop
 | refl:CRe next a a
 | step {x y:Nat}:CRe next a x->y∈next x->CRe next a y
theorem Yid {next:Nat->List Nat} {a b c:Nat} (h:CRe next a b) (g:CRe next b c):CRe next a c:=by
 induction g with
 | refl=>exact h
 | step _ hy ih=>exact .step ih hy
def Yyg (w0 w:World) (bx gV:Nat) (x0 x1 x2 x4 x5:Value) (fs:List FnP) (cl:Nat->List Nat) (V:List Bool) (f:Nat) (e:Ending) (w':World):Prop :=
 (∃ v,e = .returned v)/\w.grownBy w' (some gV)/\∃ V',LvW w0 w' bx gV fs.length x0 x1 x2 x4 x5 V'/\(∀ x,V.getD x false=true->V'.getD x false=true)/\V'.getD f false=true /\
   (∀ x,x<fs.length->V'.getD x false=true->V.getD x false=false->∀ y∈Je fs cl x,V'.getD y false=true) /\
   (∀ x,x<fs.length->V'.getD x false=true->V.getD x false=false->CRe (Je fs cl) f x)
theorem Ymg (N:Nat):∀ (w0 w:World) (bw bx bm B:Nat) (mem:Int) (pd:Option Addr) (nd cd:Nat) (pF:Option Addr) (cF:Nat) (fs:List FnP) (cl:Nat->List Nat) (gV:Nat) (x0 x1 x2 x4 x5:Value) (V:List Bool) (f:Nat)
 (S:St w0 bw bx bm B mem pd nd cd pF cF fs cl) (H:LvW w0 w bx gV fs.length x0 x1 x2 x4 x5 V) (hf:f<fs.length) (hN:Ycu V<N),
 Calls Try.prog 43 #[.pointer (some ⟨bw,0,none⟩),.int .i64 f] w (Yyg w0 w bx gV x0 x1 x2 x4 x5 fs cl V f):=by
 induction N with
 | zero=>intro w0 w bw bx bm B mem pd nd cd pF cF fs cl gV x0 x1 x2 x4 x5 V f S H hf hN;omega
 | succ N ih =>
   intro w0 w bw bx bm B mem pd nd cd pF cF fs cl gV x0 x1 x2 x4 x5 V f S H hf hN
   have hlw:=Zza H
   have kb:=Zb S.bwc H.g (by intro e;injection e with e;exact S.ne1 e.symm)
   have k3:=Cq _ _ 3 _ _ _ kb
   have j3:=Cq _ _ 3 _ _ _ H.xc
   have vf:=Ylq H f hf
   have zf:=Yf H.r f
   have s1:=(Gs kb)
   have s2:=(Gs H.xc)
   have hfi:(f:Int)<(fs.length:Int):=by omega
   have hlx:=S.lx
   cases hV:V.getD f false with
   | true =>
     rw [hV] at vf
     have HH:=Hq H
     have HV:=Hq hV
     clear S H hV ih
     go_enter Try.func43,Try.ntmps43
     go_wp2
     refine bodyPost_end0 rfl rfl ?_
     exact ⟨⟨_,rfl⟩,Zc _ _,V,HH.out,fun x h=>h,HV.out,fun x _ h1 h2=>(by rw [h1] at h2;cases h2),fun x _ h1 h2=>by rw [h1] at h2;cases h2⟩
   | false =>
     rw [hV] at vf
     have H1:=Yrg H hlx f true
     obtain ⟨w1,hw1⟩:∃ w1,w1=w.setCell ⟨gV,f,none⟩ (.bool true):=⟨_,rfl⟩
     have hg1:w.grownBy w1 (some gV):=by rw [hw1];exact Zg _ _ _ _
     rw [<- hw1] at H1
     have HW1:=Hq hw1
     have HG1:=Hq hg1
     have HH1:=Hq H1
     have SS:=Hq S
     have HF:=Hq hf
     have IH:=Hq ih
     have HVV:=Hq hV
     obtain ⟨pc,cc,hrun,hcells⟩:=S.calls f hf
     have hl:=Zey H
     have hd:=Zzx V f (by rw [List.getD_eq_getElem?_getD] at hV ⊢;rw [List.getElem?_eq_getElem (by omega)] at hV ⊢;simpa using hV)
     have HRUN:=Hq hrun
     have HCE:=Hq hcells
     obtain ⟨⟨ar,lo,r,c⟩,hfn⟩:∃ fn,fs[f]? = some fn:=⟨_,List.getElem?_eq_getElem hf⟩
     obtain ⟨hcl,hok⟩:=S.ok f ar lo r c hfn
     have HFN:=Hq hfn
     have HOK:=Hq hok
     have HD:=Hq (show Ycu (V.set f true)<N by omega)
     clear S H hg1 hw1 H1 hrun hcells hfn hok hd ih hV hN
     go_enter Try.func43,Try.ntmps43
     go_upto_region 2 with fail
     clear k3 j3 vf zf kb s1 s2
     rw [<- HW1.out]
     have kb:=Zb SS.out.bwc HH1.out.g (by intro e;injection e with e;exact SS.out.ne1 e.symm)
     have k4:=Cq _ _ 4 _ _ _ kb
     have s1:=(Gs kb)
     have hr1:=HRUN.out w1 (HH1.out.g.block bm SS.out.lm (by intro e;injection e with e;exact SS.out.ne2 e))
     have hci:((cl f).length:Int)<=4096:=by omega
     clear kb
     go_wp2_with (at_lookup;refine Zbs rfl _ _ 69 rfl rfl rfl hr1 ?_)
     clear k4 s1 hr1
     go_loopw [32] (fun i wr=>∃ (k:Nat) (Vk:List Bool),i = .int .i64 k/\k<=(cl f).length/\w.grownBy wr (some gV)/\LvW w0 wr bx gV fs.length x0 x1 x2 x4 x5 Vk/\(∀ x,(V.set f true).getD x false=true->Vk.getD x false=true) /\
      (∀ x,x<fs.length->Vk.getD x false=true->(V.set f true).getD x false=false->∀ y∈Je fs cl x,Vk.getD y false=true)/\(∀ x,x<fs.length->Vk.getD x false=true->(V.set f true).getD x false=false->CRe (Je fs cl) f x)/\(∀ j:Nat,j<k->∀ y,(Zhq c (cl f))[j]? = some y->Vk.getD y false=true)) (fun i _=>(cl f).length - (intOf i).toNat)
     case atStart =>
      exact ⟨0,V.set f true,rfl,Nat.zero_le _,HG1.out,HH1.out,fun x h=>h,(fun x _ h1 h2=>by rw [h1] at h2;cases h2),(fun x _ h1 h2=>by rw [h1] at h2;cases h2),fun j hj=>absurd hj (Nat.not_lt_zero _)⟩
     case round =>
      obtain ⟨k,Vk,rfl,hk,hgk,hW,hsub,hclo,hre,hdone⟩:=hrel
      by_cases hlt:(k:Int)<((cl f).length:Int)
      · obtain ⟨at_,hat⟩:∃ a,(cl f)[k]? = some a:=⟨_,List.getElem?_eq_getElem (by omega)⟩
        obtain ⟨bc,hpc,hbx,hcell⟩:=HCE.out k at_ hat
        obtain ⟨a,hins,ha⟩:=HOK.out at_ (List.mem_of_getElem? hat)
        have ec:=hW.g.cell hcell (by intro e;injection e with e;exact hbx e)
        subst hpc
        have sc:=World.block_lt_of_cell? _ _ ec
        have kb:=Zb SS.out.bwc hW.g (by intro e;injection e with e;exact SS.out.ne1 e.symm)
        have k2:=Cq _ _ 2 _ _ _ kb
        have s1:=(Gs kb)
        have hFr:=Zs SS.out.hF hW.g (fun r e=>by injection e with e;rw [<- e];exact SS.out.bx_)
        obtain ⟨bF,oF,hpF,hbF,hcF⟩:=hFr (by omega)
        obtain ⟨-,-,-,pc',cc',e3,hcode⟩:=hcF f ar lo r c HFN.out
        have hat2:=(List.getElem?_eq_some_iff.1 hins).1
        obtain ⟨b',o',hpc',hb',hcc⟩:=hcode (by omega)
        subst hpc'
        obtain ⟨d0,d1⟩:=hcc at_ 17 a hins
        have sF:=World.block_lt_of_cell? _ _ e3
        have sb:=World.block_lt_of_cell? _ _ d1
        have hai:(at_:Int)<(c.length:Int):=by omega
        have hdl:Ycu Vk<=Ycu (V.set f true):=Ysw (by have h1:=Zey hW;have h2:=Zey HH1.out;omega) hsub
        have CA:=Hq (IH.out _ _ _ _ _ _ _ _ _ _ _ _ _ _ _ _ _ _ _ _ _ _ SS.out hW ha (by have:=HD.out;omega))
        have HHW:=Hq hW
        have HSUB:=Hq hsub
        have HCLO:=Hq hclo
        have HRE:=Hq hre
        have HDN:=Hq hdone
        have HGK:=Hq hgk
        have HAT:=Hq hat
        have HINS:=Hq hins
        clear hW hsub hclo hre hdone hgk hat hins hcell hcc hcode hcF hFr hbx kb hdl ha
        go_wp2_with (go_at_call 43;refine CA.out.mono ?_;rintro e w5 ⟨⟨v5,rfl⟩,g5,V5,H5,sub5,in5,clo5,re5⟩;have HR5:=Hq re5;have HG5:=Hq g5;have HH5:=Hq H5;have HS5:=Hq sub5;have HI5:=Hq in5;have HC5:=Hq clo5;clear g5 H5 sub5 in5 clo5 re5)
        refine ⟨⟨k+1,V5,by go_num,by omega,Za HGK.out HG5.out,HH5.out,fun x hx=>HS5.out x (HSUB.out x hx),fun x hx h1 h2 y hy => ?_,fun x hx h1 h2 => ?_,fun j hj y hy => ?_⟩,by simp [intOf];omega⟩
        · cases hv:Vk.getD x false with
          | true=>exact HS5.out y (HCLO.out x hx hv h2 y hy)
          | false=>exact HC5.out x hx h1 hv y hy
        · cases hv:Vk.getD x false with
          | true=>exact HRE.out x hx hv h2
          | false =>
            refine Yid (.step .refl ?_) (HR5.out x hx h1 hv)
            unfold Je
            simp only [HFN.out]
            refine List.mem_map.2 ⟨at_,List.mem_of_getElem? HAT.out,?_⟩
            simp only [HINS.out]
            exact Int.toNat_natCast a
        · by_cases e:j=k
          · subst e
            unfold Zhq at hy
            rw [List.getElem?_map,HAT.out] at hy
            simp only [Option.map_some,HINS.out,Option.some.injEq] at hy
            rw [<- hy]
            exact HI5.out
          · exact HS5.out y (HDN.out j (by omega) y hy)
      · have hkn:k=(cl f).length:=by omega
        have HHW:=Hq hW
        have HSUB:=Hq hsub
        have HCLO:=Hq hclo
        have HRE:=Hq hre
        have HDN:=Hq hdone
        have HGK:=Hq hgk
        clear hW hsub hclo hre hdone hgk
        go_wp2
        refine bodyPost_end0 rfl rfl ?_
        have hlV:(V.set f true).getD f false=true:=by
         have h1:=Zey HH1.out
         rw [Zr _ _ _ _ _ (by simp at h1;omega),if_pos rfl]
        refine ⟨⟨_,rfl⟩,HGK.out,Vk,HHW.out,fun x hx=>HSUB.out x ?_,HSUB.out f hlV,fun x hx h1 h2 y hy => ?_,fun x hx h1 h2 => ?_⟩
        · have h1:=Zey HH1.out
          rw [Zr _ _ _ _ _ (by simp at h1;omega)]
          split
          · rfl
          · exact hx
        · by_cases e:x=f
          · subst e
            unfold Je at hy
            simp only [HFN.out] at hy
            obtain ⟨j,hj,rfl⟩:=List.getElem_of_mem hy
            refine HDN.out j ?_ _ (List.getElem?_eq_getElem hj)
            unfold Zhq at hj
            rw [List.length_map] at hj
            omega
          · refine HCLO.out x hx h1 ?_ y hy
            have h3:=Zey HH1.out
            rw [Zr _ _ _ _ _ (by simp at h3;have:=HF.out;omega),if_neg e]
            exact h2
        · by_cases e:x=f
          · subst e;exact .refl
          · refine HRE.out x hx h1 ?_
            have h3:=Zey HH1.out
            rw [Zr _ _ _ _ _ (by simp at h3;have:=HF.out;omega),if_neg e]
            exact h2
structure Fr where
 at_:Nat
 done:Nat
 ex:List Nat
structure TS where
 num:List Nat
 back:List Nat
 on:List Bool
 inn:List Bool
 S:List Fr
 met:Nat
 fin:List Nat
def Xu:List Fr->List Nat
 | []=>[]
 | f::r=>Xu r++f.at_::f.ex
section
variable (n:Nat) (next:Nat->List Nat)
def FOK (fin:List Nat):Option Nat->List Fr->Prop
 | _,[]=>True
 | ch,f::r=>(∀ j:Nat,j<f.done->∀ y,(next f.at_)[j]? = some y->y∈fin\/ch=some y)/\FOK fin (some f.at_) r
def Zse:List Nat->Prop
 | []=>True
 | x::r=>(∀ y∈next x,y∈r)/\Zse r
structure Xbu (s:TS):Prop where
 fr:∀ f∈s.S,f.ex=[]/\s.back.getD f.at_ 0=s.num.getD f.at_ 0
 ent:∀ x,x<n->s.num.getD x 0≠0->x∈Xu s.S\/x∈s.fin
 fok:FOK next s.fin none s.S
 fin:Zse next s.fin
def Xbt (s:TS):Prop:=(∃ x,x<n/\s.inn.getD x false=true)\/∃ f∈s.S,f.ex≠[]\/s.back.getD f.at_ 0<s.num.getD f.at_ 0
def Zxc (num:List Nat):List Fr->Prop
 | []=>True
 | [f]=>num.getD f.at_ 0=1
 | f::g::r=>num.getD g.at_ 0<num.getD f.at_ 0/\Zxc num (g::r)
structure Zlg (s:TS):Prop where
 l1:s.num.length=n
 l2:s.back.length=n
 l3:s.on.length=n
 l4:s.inn.length=n
 fr:∀ f∈s.S,f.done<=(next f.at_).length
 lt:∀ x∈Xu s.S,x<n
 nd:(Xu s.S).Nodup
 onr:∀ x,x<n->(s.on.getD x false=true ↔ x∈Xu s.S)
 num:∀ x∈Xu s.S,1<=s.num.getD x 0/\s.num.getD x 0<=s.met
 bk:∀ x∈Xu s.S,1<=s.back.getD x 0/\s.back.getD x 0<=s.num.getD x 0
 inc:Zxc s.num s.S
 dc:Xbt n s\/Xbu n next s
 zero:s.num.getD 0 0≠0
def Zan (num:List Nat):Nat:=((List.range n).map fun x=>if num.getD x 0=0 then 4 else 0).sum
def Ypp:List Fr->Nat
 | []=>0
 | f::r=>((next f.at_).length+1 - f.done)+Ypp r
def Jt (s:TS):Nat:=Zan n s.num+Ypp next s.S
end
theorem Zyj {S:List Fr} {f:Fr} (h:f∈S):f.at_∈Xu S:=by
 induction S with
 | nil=>cases h
 | cons g r ih =>
   rcases List.mem_cons.1 h with rfl|h
   · simp [Xu]
   · simp [Xu,ih h]
theorem Yhh {next:Nat->List Nat} {fin fin':List Nat} (hf:∀ x∈fin,x∈fin'):∀ {ch:Option Nat} {S:List Fr},FOK next fin ch S->FOK next fin' ch S
 | _,[],_=>trivial
 | _,f::r,h=>⟨fun j hj y hy=>(h.1 j hj y hy).imp (hf y) id,Yhh hf h.2⟩
theorem Yhi {next:Nat->List Nat} {fin:List Nat} {x:Nat} (hx:x∈fin):∀ {S:List Fr},FOK next fin (some x) S->FOK next fin none S
 | [],_=>trivial
 | f::r,h=>⟨fun j hj y hy=>(h.1 j hj y hy).elim Or.inl (fun e=>by injection e with e;subst e;exact Or.inl hx),h.2⟩
theorem Zz {α:Type} (l:List α) (i j:Nat) (d x:α) (hi:i<l.length):(l.set i x).getD j d=if j=i then x else l.getD j d:=Zr l i j d x hi
theorem Zzj {num:List Nat} {m v:Nat} (hm:m<num.length):∀ {S:List Fr},(∀ f∈S,f.at_≠m)->Zxc num S->Zxc (num.set m v) S
 | [],_,_=>trivial
 | [f],h,hi=>by simp only [Zxc] at hi ⊢;rw [Zz _ _ _ _ _ hm,if_neg (h f (List.mem_cons_self ..))];exact hi
 | f::g::r,h,hi=>by
   simp only [Zxc] at hi ⊢
   rw [Zz _ _ _ _ _ hm,if_neg (h g (by simp)),Zz _ _ _ _ _ hm,if_neg (h f (by simp))]
   exact ⟨hi.1,Zzj hm (fun x hx=>h x (List.mem_cons_of_mem _ hx)) hi.2⟩
theorem Zgw {num:List Nat} {f f':Fr} {r:List Fr} (h:f.at_=f'.at_) (hi:Zxc num (f::r)):Zxc num (f'::r):=by
 cases r with
 | nil=>simp only [Zxc] at hi ⊢;rw [<- h];exact hi
 | cons g r=>simp only [Zxc] at hi ⊢;rw [<- h];exact hi
theorem Zue {num:List Nat} {f:Fr} {r:List Fr} (hi:Zxc num (f::r)):Zxc num r:=by
 cases r with
 | nil=>trivial
 | cons g r=>exact hi.2
theorem Zxb {num:List Nat}:∀ {f:Fr} {r:List Fr},Zxc num (f::r)->∀ g∈r,num.getD g.at_ 0<num.getD f.at_ 0
 | f,[],_,g,hg=>by cases hg
 | f,g::r,h,x,hx=>by
   rcases List.mem_cons.1 hx with rfl|hx
   · exact h.1
   · exact Nat.lt_trans (Zxb h.2 x hx) h.1
theorem Zjf {n m v:Nat} {num:List Nat} (hl:num.length=n) (hm:m<n) (h0:num.getD m 0=0) (hv:v≠0):Zan n (num.set m v)+4<=Zan n num:=by
 unfold Zan
 have key:∀ l:List Nat,l.Nodup->m∈l->(l.map fun x=>if (num.set m v).getD x 0=0 then 4 else 0).sum+4<=(l.map fun x=>if num.getD x 0=0 then 4 else 0).sum:=by
  intro l
  induction l with
  | nil=>intro _ h;cases h
  | cons x r ih =>
    intro hnd hmem
    have hx:=(List.nodup_cons.1 hnd).1
    have hr:=(List.nodup_cons.1 hnd).2
    simp only [List.map_cons,List.sum_cons]
    by_cases e:x=m
    · subst e
      have hsame:(r.map fun y=>if (num.set x v).getD y 0=0 then 4 else 0)=r.map fun y=>if num.getD y 0=0 then 4 else 0:=by
       refine List.map_congr_left fun y hy => ?_
       have e:(num.set x v).getD y 0=num.getD y 0:=by rw [Zz _ _ _ _ _ (by omega),if_neg (by intro e;subst e;exact hx hy)]
       rw [e]
      rw [hsame,Zz _ _ _ _ _ (by omega),if_pos rfl,if_neg hv,if_pos h0]
      omega
    · have hm2:m∈r:=(List.mem_cons.1 hmem).resolve_left (fun h=>e h.symm)
      have:=ih hr hm2
      rw [Zz _ _ _ _ _ (by omega),if_neg e]
      omega
 exact key _ List.nodup_range (List.mem_range.2 hm)
section
variable {n:Nat} {next:Nat->List Nat} {s:TS} {f:Fr} {r:List Fr}
theorem Zcg (f:Fr) (r:List Fr):Xu (f::r)=Xu r++f.at_::f.ex:=rfl
theorem Zgs (h:(Xu (f::r)).Nodup):(Xu r).Nodup/\f.at_ ∉ f.ex/\(∀ x∈Xu r,x≠f.at_/\x ∉ f.ex)/\f.ex.Nodup:=by
 rw [Zcg] at h
 have h1:=List.nodup_append.1 h
 have h2:=List.nodup_cons.1 h1.2.1
 exact ⟨h1.1,h2.1,fun x hx=>⟨fun e=>h1.2.2 x hx f.at_ (List.mem_cons_self ..) e,fun e=>h1.2.2 x hx x (List.mem_cons_of_mem _ e) rfl⟩,h2.2⟩
theorem Ypw (hn:∀ x,x<n->∀ y∈next x,y<n) (hlen:∀ x,(next x).length<=2) (I:Zlg n next s) (hS:s.S=f::r) {m:Nat} (hm:(next f.at_)[f.done]? = some m) (h0:s.num.getD m 0=0) :
 Zlg n next { s with num:=s.num.set m (s.met+1),back:=s.back.set m (s.met+1),on:=s.on.set m true,S:=⟨m,0,[]⟩::⟨f.at_,f.done+1,f.ex⟩::r,met:=s.met+1 } /\
 Jt n next { s with num:=s.num.set m (s.met+1),back:=s.back.set m (s.met+1),on:=s.on.set m true,S:=⟨m,0,[]⟩::⟨f.at_,f.done+1,f.ex⟩::r,met:=s.met+1 }<Jt n next s:=by
 obtain ⟨l1,l2,l3,l4,fr,lt,nd,onr,num,bk,inc,dc,zero⟩:=I
 rw [hS] at fr lt nd onr num bk inc
 have hfm:f.at_∈Xu (f::r):=by simp [Xu]
 have hfn:=lt _ hfm
 have hmn:m<n:=hn _ hfn m (List.mem_of_getElem? hm)
 have hdl:=(List.getElem?_eq_some_iff.1 hm).1
 have hmr:m ∉ Xu (f::r):=fun h=>by have:=(num m h).1;omega
 have hrow:Xu (⟨m,0,[]⟩::⟨f.at_,f.done+1,f.ex⟩::r)=Xu (f::r)++[m]:=by simp [Xu]
 have hne:∀ g∈f::r,g.at_≠m:=fun g hg e=>hmr (e ▸ Zyj hg)
 refine ⟨⟨by simp [l1],by simp [l2],by simp [l3],l4,fun g hg => ?_,fun x hx => ?_,?_,fun x hx => ?_,fun x hx => ?_,fun x hx => ?_,?_,?_,?_⟩,?_⟩
 · rcases List.mem_cons.1 hg with rfl|hg
   · exact Nat.zero_le _
   · rcases List.mem_cons.1 hg with rfl|hg
     · exact hdl
     · exact fr g (List.mem_cons_of_mem _ hg)
 · rw [hrow] at hx
   rcases List.mem_append.1 hx with hx|hx
   · exact lt x hx
   · simp at hx;omega
 · rw [hrow]
   refine List.nodup_append.2 ⟨nd,by simp,fun a ha b hb => ?_⟩
   simp at hb;subst hb
   intro e;subst e;exact hmr ha
 · rw [hrow]
   simp only []
   rw [Zz _ _ _ _ _ (by omega)]
   by_cases e:x=m
   · subst e;simp
   · rw [if_neg e,onr x hx];simp [e]
 · rw [hrow] at hx
   simp only []
   rw [Zz _ _ _ _ _ (by omega)]
   by_cases e:x=m
   · rw [if_pos e];omega
   · rw [if_neg e]
     have:=num x ((List.mem_append.1 hx).resolve_right (by simpa using e))
     omega
 · rw [hrow] at hx
   simp only []
   rw [Zz _ _ _ _ _ (by omega),Zz _ _ _ _ _ (by omega)]
   by_cases e:x=m
   · rw [if_pos e,if_pos e];omega
   · rw [if_neg e,if_neg e]
     exact bk x ((List.mem_append.1 hx).resolve_right (by simpa using e))
 · have h0':=Zzj (S:=f::r) (v:=s.met+1) (by omega:m<s.num.length) hne inc
   have h1:=Zgw (f:=f) (f':=⟨f.at_,f.done+1,f.ex⟩) rfl h0'
   refine ⟨?_,h1⟩
   simp only []
   rw [Zz _ _ _ _ _ (by omega),Zz _ _ _ _ _ (by omega),if_pos rfl,if_neg (hne f (by simp))]
   have:=num _ hfm
   omega
 · rcases dc with hd|hc
   · left
     rcases hd with ⟨x,hx,hi⟩|⟨g,hg,hg2⟩
     · exact Or.inl ⟨x,hx,hi⟩
     · right
       rw [hS] at hg
       have hgm:=hne g hg
       rcases List.mem_cons.1 hg with rfl|hg'
       · refine ⟨⟨g.at_,g.done+1,g.ex⟩,by simp,?_⟩
         simp only []
         rw [Zz _ _ _ _ _ (by omega),Zz _ _ _ _ _ (by omega),if_neg hgm,if_neg hgm]
         exact hg2
       · refine ⟨g,by simp [hg'],?_⟩
         simp only []
         rw [Zz _ _ _ _ _ (by omega),Zz _ _ _ _ _ (by omega),if_neg hgm,if_neg hgm]
         exact hg2
   · right
     obtain ⟨c1,c2,c3,c4⟩:=hc
     rw [hS] at c1 c2 c3
     refine ⟨fun g hg => ?_,fun x hx h => ?_,?_,c4⟩
     · simp only []
       rcases List.mem_cons.1 hg with rfl|hg
       · simp only []
         rw [Zz _ _ _ _ _ (by omega),Zz _ _ _ _ _ (by omega),if_pos rfl,if_pos rfl];simp
       · rcases List.mem_cons.1 hg with rfl|hg
         · have hgm:=hne f (by simp)
           simp only []
           rw [Zz _ _ _ _ _ (by omega),Zz _ _ _ _ _ (by omega),if_neg hgm,if_neg hgm];exact c1 f (by simp)
         · have hgm:=hne g (by simp [hg])
           rw [Zz _ _ _ _ _ (by omega),Zz _ _ _ _ _ (by omega),if_neg hgm,if_neg hgm];exact c1 g (by simp [hg])
     · simp only [] at h
       rw [hrow]
       rw [Zz _ _ _ _ _ (by omega)] at h
       by_cases e:x=m
       · left;simp [e]
       · rw [if_neg e] at h
         rcases c2 x hx h with h|h
         · left;simp [h]
         · right;exact h
     · refine ⟨fun j hj=>(Nat.not_lt_zero _ hj).elim,?_,c3.2⟩
       intro j hj y hy
       simp only [] at hj hy
       by_cases e:j=f.done
       · subst e;rw [hm] at hy;injection hy with hy;subst hy;exact Or.inr rfl
       · exact (c3.1 j (by omega) y hy).imp id (fun e=>by cases e)
 · simp only []
   rw [Zz _ _ _ _ _ (by omega)]
   split
   · omega
   · exact zero
 · unfold Jt
   simp only [hS,Ypp]
   have h1:=Zjf (v:=s.met+1) l1 hmn h0 (by omega)
   have h2:=hlen m
   omega
theorem Ypx (I:Zlg n next s) (hn:∀ x,x<n->∀ y∈next x,y<n) (hS:s.S=f::r) {m:Nat} (hm:(next f.at_)[f.done]? = some m) (h0:s.num.getD m 0≠0) (hon:s.on.getD m false=false) :
 Zlg n next { s with S:=⟨f.at_,f.done+1,f.ex⟩::r }/\Jt n next { s with S:=⟨f.at_,f.done+1,f.ex⟩::r }<Jt n next s:=by
 obtain ⟨l1,l2,l3,l4,fr,lt,nd,onr,num,bk,inc,dc,zero⟩:=I
 rw [hS] at fr lt nd onr num bk inc
 have hfn:=lt _ (show f.at_∈Xu (f::r) by simp [Xu])
 have hmn:m<n:=hn _ hfn m (List.mem_of_getElem? hm)
 have hdl:=(List.getElem?_eq_some_iff.1 hm).1
 have hmr:m ∉ Xu (f::r):=fun h=>by rw [(onr m hmn).2 h] at hon;cases hon
 refine ⟨⟨l1,l2,l3,l4,fun g hg => ?_,lt,nd,onr,num,bk,Zgw (f:=f) rfl inc,?_,zero⟩,?_⟩
 · rcases List.mem_cons.1 hg with rfl|hg
   · exact hdl
   · exact fr g (List.mem_cons_of_mem _ hg)
 · rcases dc with hd|hc
   · left
     rcases hd with hd|⟨g,hg,hg2⟩
     · exact Or.inl hd
     · right
       rw [hS] at hg
       rcases List.mem_cons.1 hg with rfl|hg'
       · exact ⟨⟨g.at_,g.done+1,g.ex⟩,by simp,hg2⟩
       · exact ⟨g,by simp [hg'],hg2⟩
   · right
     obtain ⟨c1,c2,c3,c4⟩:=hc
     rw [hS] at c1 c2 c3
     refine ⟨fun g hg => ?_,c2,⟨fun j hj y hy => ?_,c3.2⟩,c4⟩
     · rcases List.mem_cons.1 hg with rfl|hg
       · exact c1 f (by simp)
       · exact c1 g (by simp [hg])
     · simp only [] at hj hy
       by_cases e:j=f.done
       · subst e;rw [hm] at hy;injection hy with hy;subst hy
         exact Or.inl ((c2 m hmn h0).resolve_left hmr)
       · exact c3.1 j (by omega) y hy
 · unfold Jt
   simp only [hS,Ypp]
   omega
theorem Yof (I:Zlg n next s) (hn:∀ x,x<n->∀ y∈next x,y<n) (hS:s.S=f::r) {m:Nat} (hm:(next f.at_)[f.done]? = some m) (hon:s.on.getD m false=true) {inn':List Bool} (hi:inn'=if m=f.at_ then s.inn.set f.at_ true else s.inn) :
 Zlg n next { s with back:=s.back.set f.at_ (min (s.back.getD f.at_ 0) (s.num.getD m 0)),inn:=inn',S:=⟨f.at_,f.done+1,f.ex⟩::r } /\
 Jt n next { s with back:=s.back.set f.at_ (min (s.back.getD f.at_ 0) (s.num.getD m 0)),inn:=inn',S:=⟨f.at_,f.done+1,f.ex⟩::r }<Jt n next s:=by
 obtain ⟨l1,l2,l3,l4,fr,lt,nd,onr,num,bk,inc,dc,zero⟩:=I
 rw [hS] at fr lt nd onr num bk inc
 have hfm:f.at_∈Xu (f::r):=by simp [Xu]
 have hfn:=lt _ hfm
 have hmn:m<n:=hn _ hfn m (List.mem_of_getElem? hm)
 have hdl:=(List.getElem?_eq_some_iff.1 hm).1
 have hmr:m∈Xu (f::r):=(onr m hmn).1 hon
 obtain ⟨np1,np2,np3,np4⟩:=Zgs nd
 have hbf:=bk _ hfm
 have hbm:=num m hmr
 have hil:inn'.length=n:=by rw [hi];split <;> simp [l4]
 have hinn:∀ x,s.inn.getD x false=true->inn'.getD x false=true:=fun x hx=>by
  rw [hi]
  split
  · rw [Zz _ _ _ _ _ (by omega)]
    split
    · rfl
    · exact hx
  · exact hx
 have hself:m=f.at_->inn'.getD f.at_ false=true:=fun e=>by rw [hi,if_pos e,Zz _ _ _ _ _ (by omega),if_pos rfl]
 refine ⟨⟨l1,by simp [l2],l3,hil,fun g hg => ?_,lt,nd,onr,num,fun x hx => ?_,Zgw (f:=f) rfl inc,?_,zero⟩,?_⟩
 · rcases List.mem_cons.1 hg with rfl|hg
   · exact hdl
   · exact fr g (List.mem_cons_of_mem _ hg)
 · simp only []
   rw [Zz _ _ _ _ _ (by omega)]
   by_cases e:x=f.at_
   · rw [if_pos e,e];omega
   · rw [if_neg e];exact bk x hx
 · by_cases hself':m=f.at_
   · exact Or.inl (Or.inl ⟨f.at_,hfn,hself hself'⟩)
   rcases dc with hd|hc
   · left
     rcases hd with ⟨x,hx,hx2⟩|⟨g,hg,hg2⟩
     · exact Or.inl ⟨x,hx,hinn x hx2⟩
     · right
       rw [hS] at hg
       rcases List.mem_cons.1 hg with rfl|hg'
       · refine ⟨⟨g.at_,g.done+1,g.ex⟩,by simp,hg2.imp id fun h => ?_⟩
         simp only []
         rw [Zz _ _ _ _ _ (by omega),if_pos rfl];omega
       · refine ⟨g,by simp [hg'],hg2.imp id fun h => ?_⟩
         simp only []
         rw [Zz _ _ _ _ _ (by omega),if_neg (np3 _ (Zyj hg')).1];exact h
   · left
     right
     obtain ⟨c1,c2,c3,c4⟩:=hc
     rw [hS] at c1
     have hex:=(c1 f (by simp)).1
     have hmr2:m∈Xu r:=by
      rw [Zcg,hex] at hmr
      simp at hmr
      exact hmr.resolve_right hself'
     have hfl:∀ S:List Fr,(∀ g∈S,g.ex=[])->∀ x∈Xu S,∃ g∈S,g.at_=x:=by
      intro S
      induction S with
      | nil=>intro _ x hx;cases hx
      | cons g t ih =>
        intro h x hx
        rw [Zcg,h g (by simp)] at hx
        rcases List.mem_append.1 hx with hx|hx
        · obtain ⟨g',hg',e⟩:=ih (fun g hg=>h g (by simp [hg])) x hx
          exact ⟨g',by simp [hg'],e⟩
        · simp at hx;exact ⟨g,by simp,hx.symm⟩
     obtain ⟨g,hg,hgm⟩:=hfl r (fun g hg=>(c1 g (by simp [hg])).1) m hmr2
     have hlt:=Zxb inc g hg
     rw [hgm] at hlt
     refine ⟨⟨f.at_,f.done+1,f.ex⟩,by simp,Or.inr ?_⟩
     simp only []
     rw [Zz _ _ _ _ _ (by omega),if_pos rfl]
     omega
 · unfold Jt
   simp only [hS,Ypp]
   omega
theorem Ykb (I:Zlg n next s) (hS:s.S=[f]):s.back.getD f.at_ 0=s.num.getD f.at_ 0:=by
 have h1:=I.inc
 have h2:=I.bk f.at_ (by rw [hS];simp [Xu])
 rw [hS] at h1
 simp only [Zxc] at h1
 omega
theorem Yup (I:Zlg n next s) {up:Fr} (hS:s.S=f::up::r) (hd:f.done=(next f.at_).length) (hb:s.back.getD f.at_ 0≠s.num.getD f.at_ 0) :
 Zlg n next { s with back:=s.back.set up.at_ (min (s.back.getD up.at_ 0) (s.back.getD f.at_ 0)),S:=⟨up.at_,up.done,up.ex++f.at_::f.ex⟩::r } /\
 Jt n next { s with back:=s.back.set up.at_ (min (s.back.getD up.at_ 0) (s.back.getD f.at_ 0)),S:=⟨up.at_,up.done,up.ex++f.at_::f.ex⟩::r }<Jt n next s:=by
 obtain ⟨l1,l2,l3,l4,fr,lt,nd,onr,num,bk,inc,dc,zero⟩:=I
 rw [hS] at fr lt nd onr num bk inc
 have hrow:Xu (⟨up.at_,up.done,up.ex++f.at_::f.ex⟩::r)=Xu (f::up::r):=by simp [Xu]
 have hum:up.at_∈Xu (f::up::r):=by simp [Xu]
 have hun:=lt _ hum
 have hfm:f.at_∈Xu (f::up::r):=by simp [Xu]
 have hbf:=bk _ hfm
 have hbu:=bk _ hum
 refine ⟨⟨l1,by simp [l2],l3,l4,fun g hg => ?_,by rw [hrow];exact lt,by rw [hrow];exact nd,by rw [hrow];exact onr,by rw [hrow];exact num,fun x hx => ?_,Zgw (f:=up) rfl (Zue inc),?_,zero⟩,?_⟩
 · rcases List.mem_cons.1 hg with rfl|hg
   · exact fr up (by simp)
   · exact fr g (by simp [hg])
 · rw [hrow] at hx
   simp only []
   rw [Zz _ _ _ _ _ (by omega)]
   by_cases e:x=up.at_
   · rw [if_pos e,e];omega
   · rw [if_neg e];exact bk x hx
 · exact Or.inl (Or.inr ⟨⟨up.at_,up.done,up.ex++f.at_::f.ex⟩,by simp,Or.inl (by simp)⟩)
 · unfold Jt
   simp only [hS,Ypp]
   omega
def Zfr (back:List Nat) (v:Nat):List Fr->List Nat
 | []=>back
 | up::_=>back.set up.at_ (min (back.getD up.at_ 0) v)
theorem Yoe (I:Zlg n next s) (hS:s.S=f::r) (hd:f.done=(next f.at_).length) (hb:s.back.getD f.at_ 0=s.num.getD f.at_ 0) {on' inn':List Bool} (ho1:on'.length=n) (hi1:inn'.length=n)
 (ho:∀ x,x<n->on'.getD x false=if x=f.at_\/x∈f.ex then false else s.on.getD x false)
 (hi:∀ x,x<n->inn'.getD x false=if x=f.at_\/x∈f.ex then (s.inn.getD x false || !f.ex.isEmpty) else s.inn.getD x false) :
 Zlg n next { s with back:=Zfr s.back (s.back.getD f.at_ 0) r,on:=on',inn:=inn',S:=r,fin:=f.at_::s.fin } /\
 Jt n next { s with back:=Zfr s.back (s.back.getD f.at_ 0) r,on:=on',inn:=inn',S:=r,fin:=f.at_::s.fin }<Jt n next s:=by
 obtain ⟨l1,l2,l3,l4,fr,lt,nd,onr,num,bk,inc,dc,zero⟩:=I
 rw [hS] at fr lt nd onr num bk inc
 obtain ⟨np1,np2,np3,np4⟩:=Zgs nd
 have hfm:f.at_∈Xu (f::r):=by simp [Xu]
 have hfn:=lt _ hfm
 have hsub:∀ x∈Xu r,x∈Xu (f::r):=fun x hx=>by rw [Zcg];simp [hx]
 have hbl:(Zfr s.back (s.back.getD f.at_ 0) r).length=n:=by
  cases r with
  | nil=>exact l2
  | cons up t=>simp [Zfr,l2]
 have hub:∀ x,(Zfr s.back (s.back.getD f.at_ 0) r).getD x 0=s.back.getD x 0\/((∃ g∈r,g.at_=x)/\(Zfr s.back (s.back.getD f.at_ 0) r).getD x 0=min (s.back.getD x 0) (s.back.getD f.at_ 0)):=by
  intro x
  cases r with
  | nil=>exact Or.inl rfl
  | cons up t =>
    have hun:up.at_<s.back.length:=by rw [l2];exact lt _ (hsub _ (by simp [Xu]))
    simp only [Zfr]
    rw [Zz _ _ _ _ _ hun]
    by_cases e:x=up.at_
    · right;rw [if_pos e];exact ⟨⟨up,by simp,e.symm⟩,by rw [e]⟩
    · left;rw [if_neg e]
 have hbf:=bk _ hfm
 refine ⟨⟨l1,hbl,ho1,hi1,fun g hg=>fr g (by simp [hg]),fun x hx=>lt x (hsub x hx),np1,fun x hx => ?_,fun x hx=>num x (hsub x hx),fun x hx => ?_,Zue inc,?_,zero⟩,?_⟩
 · simp only []
   rw [ho x hx]
   by_cases e:x=f.at_\/x∈f.ex
   · rw [if_pos e]
     constructor
     · intro h;cases h
     · intro h
       obtain ⟨h1,h2⟩:=np3 x h
       rcases e with e|e
       · exact absurd e h1
       · exact absurd e h2
   · rw [if_neg e,onr x hx,Zcg]
     constructor
     · intro h
       rcases List.mem_append.1 h with h|h
       · exact h
       · exact absurd (List.mem_cons.1 h) e
     · intro h;exact List.mem_append.2 (Or.inl h)
 · simp only []
   have h1:=bk x (hsub x hx)
   rcases hub x with h|⟨_,h⟩ <;> rw [h] <;> omega
 · rcases dc with hdy|hc
   · left
     rcases hdy with ⟨x,hx,hx2⟩|⟨g,hg,hg2⟩
     · refine Or.inl ⟨x,hx,?_⟩
       simp only []
       rw [hi x hx]
       split
       · rw [hx2];rfl
       · exact hx2
     · rw [hS] at hg
       rcases List.mem_cons.1 hg with rfl|hg'
       · rcases hg2 with h|h
         · left
           refine ⟨g.at_,hfn,?_⟩
           simp only []
           rw [hi _ hfn,if_pos (Or.inl rfl)]
           cases he:g.ex with
           | nil=>exact absurd he h
           | cons a t=>simp
         · omega
       · right
         refine ⟨g,hg',hg2.imp id fun h => ?_⟩
         simp only []
         rcases hub g.at_ with h1|⟨_,h1⟩ <;> rw [h1] <;> omega
   · right
     obtain ⟨c1,c2,c3,c4⟩:=hc
     rw [hS] at c1 c2 c3
     have hex:=(c1 f (by simp)).1
     refine ⟨fun g hg=>⟨(c1 g (by simp [hg])).1,?_⟩,fun x hx h => ?_,?_,⟨fun y hy => ?_,c4⟩⟩
     · simp only []
       have h2:=(c1 g (by simp [hg])).2
       have h3:=Zxb inc g hg
       rcases hub g.at_ with h1|⟨_,h1⟩ <;> rw [h1]
       · exact h2
       · omega
     · rcases c2 x hx h with h|h
       · rw [Zcg,hex] at h
         rcases List.mem_append.1 h with h|h
         · exact Or.inl h
         · simp at h;right;simp [h]
       · right;simp [h]
     · exact Yhi (x:=f.at_) (by simp) (Yhh (fun x hx=>by simp [hx]) c3.2)
     · obtain ⟨j,hj,rfl⟩:=List.getElem_of_mem hy
       exact (c3.1 j (by omega) _ (List.getElem?_eq_getElem hj)).elim id (fun e=>by cases e)
 · unfold Jt
   simp only [hS,Ypp]
   omega
def Yts (next:Nat->List Nat):Prop:=∃ (Zdd:Nat->Nat) (T:Nat->Prop),T 0/\∀ x,T x->∀ y∈next x,T y/\Zdd y<Zdd x
def rk:List Nat->Nat->Nat
 | [],_=>0
 | z::r,x=>if x∈r then rk r x else r.length+1
theorem Ykq:∀ (l:List Nat) (x:Nat),x∈l->rk l x<=l.length
 | z::r,x,h=>by
   unfold rk
   by_cases e:x∈r
   · rw [if_pos e];have:=Ykq r x e;simp;omega
   · rw [if_neg e];simp
theorem Zqd:∀ {l:List Nat},Zse next l->∀ x∈l,∀ y∈next x,y∈l/\rk l y<rk l x
 | z::r,h,x,hx,y,hy=>by
   by_cases e:x∈r
   · obtain ⟨h1,h2⟩:=Zqd h.2 x e y hy
     refine ⟨List.mem_cons_of_mem _ h1,?_⟩
     unfold rk
     rw [if_pos h1,if_pos e];exact h2
   · have hxz:x=z:=(List.mem_cons.1 hx).resolve_right e
     subst hxz
     have h1:=h.1 y hy
     refine ⟨List.mem_cons_of_mem _ h1,?_⟩
     unfold rk
     rw [if_pos h1,if_neg e]
     have:=Ykq r y h1
     omega
theorem Yzo (h1:0<n) (I:Zlg n next s) (hS:s.S=[]) (hno:∀ x,x<n->s.inn.getD x false=false):Yts next:=by
 rcases I.dc with hd|hc
 · exfalso
   rcases hd with ⟨x,hx,hx2⟩|⟨g,hg,_⟩
   · rw [hno x hx] at hx2;cases hx2
   · rw [hS] at hg;cases hg
 · have h0:=hc.ent 0 h1 I.zero
   rw [hS] at h0
   have h0:0∈s.fin:=h0.resolve_left (by simp [Xu])
   exact ⟨rk s.fin,fun x=>x∈s.fin,h0,fun x hx y hy=>Zqd hc.fin x hx y hy⟩
end
end Go.Proofs.Ythlkflagancdfaa.CK
