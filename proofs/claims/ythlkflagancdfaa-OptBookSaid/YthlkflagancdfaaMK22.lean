/-
  Part of a proof: contracts of functions and lemmas, each stated by its own theorem. Conditions: as each theorem states.
-/
import Derived.Test.YthlkflagancdfaaMK15
import Derived.Test.YthlkflagancdfaaMK13
import Derived.ScopeJumps
import Derived.Test.YthlkflagancdfaaMK21
import Derived.Test.YthlkflagancdfaaMK19
set_option linter.unusedSimpArgs false
set_option linter.unusedVariables false
set_option maxRecDepth 100000
set_option maxHeartbeats 16000000
namespace Go.Proofs.Ythlkflagancdfaa.CK
open Go.RowKit Go.Great
theorem Zbt {fn:Func} {p u v:Tmp} {ty:TypeId} (h:fn.results = #[.tmp u,.tmp v,.cell p ty]) (tmps:Array Value) (P:Program) (w:World) :
 (results fn tmps).run P w =
   ((asAddr (tmps.getD p undef)).run P w).andThen fun a w₁=>((loadVar ty a).run P w₁).andThen fun x w₂ => .ok (.tuple #[tmps.getD u undef,tmps.getD v undef,x]) w₂:=by
 simp only [results,h]
 simp [Sem.run_bind,Result.andThen]
theorem Zst:Try.prog.underlying 33=some (.slice 4):=by kernel_rfl
theorem Zwj:(Try.prog.info? 4).map (fun i=>(i.zero,i.size,i.bytes))=some (some (.bool false),1,1):=by kernel_rfl
structure HtW (w0 wr:World) (gh gw:Nat) (mem:Int) (vd vF:Value) (n:Nat) (h:List Int) (wt:List Bool):Prop where
 gr:w0.grownBy wr none
 hr:wr.ownsRow (w0.heap.size+2) 3 1 (.slice (some ⟨gh,0,none⟩) n n) n (h.map (Value.int .i64))
 wr_:wr.ownsRow (w0.heap.size+2) 4 1 (.slice (some ⟨gw,0,none⟩) n n) n (wt.map Value.bool)
 pb:Yej wr w0.heap.size mem vd vF
 fb:wr.heap[w0.heap.size+1]? = some (.cells #[.int .i64 0,.int .i64 0,.int .i64 0] 39 (0,0))
theorem Zkq {w0 wr:World} {gh gw n:Nat} {mem:Int} {vd vF:Value} {h:List Int} {wt:List Bool} (H:HtW w0 wr gh gw mem vd vF n h wt):(w0.heap.size+2<=gh/\gh<wr.heap.size)/\(w0.heap.size+2<=gw/\gw<wr.heap.size)/\gh≠gw :=
 ⟨H.hr.lt gh rfl,H.wr_.lt gw rfl,fun e=>Yz H.hr H.wr_ (by decide) (k:=gh) rfl (by rw [e];rfl)⟩
theorem Zng {w0 wr w':World} {gh gw n:Nat} {mem:Int} {vd vF:Value} {h:List Int} {wt:List Bool} (H:HtW w0 wr gh gw mem vd vF n h wt) (g:wr.grownBy w' none):HtW w0 w' gh gw mem vd vF n h wt :=
 ⟨Za H.gr g,H.hr.kept g (Classical.em _),H.wr_.kept g (Classical.em _),Zck H.pb g (by simp),Zb H.fb g (by simp)⟩
theorem Yvq {w0 wr:World} {gh gw n k:Nat} {b:Int} {mem:Int} {vd vF:Value} {h:List Int} {wt:List Bool} (H:HtW w0 wr gh gw mem vd vF n h wt):HtW w0 (wr.setCell ⟨gh,k,none⟩ (.int .i64 b)) gh gw mem vd vF n (h.set k b) wt:=by
 obtain ⟨⟨h1,h2⟩,⟨h3,h4⟩,hne⟩:=Zkq H
 have hs:=H.hr.stored k (.int .i64 b)
 exact ⟨Zd H.gr (by omega),by rw [List.map_set];exact hs.1,H.wr_.kept hs.2 (Or.inr (by intro e;injection e with e;exact hne e.symm)),Zck H.pb hs.2 (by intro e;injection e with e;omega),Zb H.fb hs.2 (by intro e;injection e with e;omega)⟩
theorem Yvp {w0 wr:World} {gh gw n k:Nat} {x:Bool} {mem:Int} {vd vF:Value} {h:List Int} {wt:List Bool} (H:HtW w0 wr gh gw mem vd vF n h wt):HtW w0 (wr.setCell ⟨gw,k,none⟩ (.bool x)) gh gw mem vd vF n h (wt.set k x):=by
 obtain ⟨⟨h1,h2⟩,⟨h3,h4⟩,hne⟩:=Zkq H
 have hs:=H.wr_.stored k (.bool x)
 exact ⟨Zd H.gr (by omega),H.hr.kept hs.2 (Or.inr (by intro e;injection e with e;exact hne e)),by rw [List.map_set];exact hs.1,Zck H.pb hs.2 (by intro e;injection e with e;omega),Zb H.fb hs.2 (by intro e;injection e with e;omega)⟩
theorem Znh {w0 wr:World} {gh gw n:Nat} {mem:Int} {vd vF:Value} {h:List Int} {wt:List Bool} (H:HtW w0 wr gh gw mem vd vF n h wt) (k:Nat) (hk:k<n):wr.cell? ⟨gh,k,none⟩=some (.int .i64 (h.getD k 0))/\wr.frozen? ⟨gh,k,none⟩=false:=by
 have hl:h.length=n:=by have:=H.hr.1;simpa using this
 refine ⟨?_,H.hr.frozenAt k⟩
 rw [H.hr.cellAt k (by omega),List.getElem?_map,List.getD_eq_getElem?_getD,List.getElem?_eq_getElem (by omega:k<h.length)]
 rfl
theorem Yaq {w0 wr:World} {gh gw n:Nat} {mem:Int} {vd vF:Value} {h:List Int} {wt:List Bool} (H:HtW w0 wr gh gw mem vd vF n h wt) (k:Nat) (hk:k<n):wr.cell? ⟨gw,k,none⟩=some (.bool (wt.getD k false))/\wr.frozen? ⟨gw,k,none⟩=false:=by
 have hl:wt.length=n:=by have:=H.wr_.1;simpa using this
 refine ⟨?_,H.wr_.frozenAt k⟩
 rw [H.wr_.cellAt k (by omega),List.getElem?_map,List.getD_eq_getElem?_getD,List.getElem?_eq_getElem (by omega:k<wt.length)]
 rfl
open Classical in
noncomputable def mW (n gh gw:Nat) (wr:World):Nat:=((List.range n).map fun i=>(if wr.cell? ⟨gh,i,none⟩=some (.int .i64 (-1)) then 2 else 0)+(if wr.cell? ⟨gw,i,none⟩=some (.bool true) then 1 else 0)).sum
theorem Yut {w0 wr:World} {gh gw n:Nat} {mem:Int} {vd vF:Value} {h:List Int} {wt:List Bool} (H:HtW w0 wr gh gw mem vd vF n h wt):mW n gh gw wr=mS n h wt:=by
 unfold mW mS
 congr 1
 refine List.map_congr_left fun i hi => ?_
 have hi:=List.mem_range.1 hi
 unfold mI
 rw [(Znh H i hi).1,(Yaq H i hi).1]
 congr 1
 · by_cases e:h.getD i 0 = -1
   · rw [if_pos (by rw [e]),if_pos e]
   · rw [if_neg (by intro h1;injection h1 with h1;injection h1 with _ h1;exact e h1),if_neg e]
 · by_cases e:wt.getD i false=true
   · rw [if_pos (by rw [e]),if_pos e]
   · rw [if_neg (by intro h1;injection h1 with h1;injection h1 with h1;exact e h1),if_neg e]
theorem Yjf {w w1 w2:World} {mem:Int} {vd vF:Value} {n:Nat} {o1 o2:Obj} (g1:((w.alloc o1).alloc o2).grownBy w1 none) (g2:w1.grownBy w2 none) (pb:Yej ((w.alloc o1).alloc o2) w.heap.size mem vd vF) (fb:((w.alloc o1).alloc o2).heap[w.heap.size+1]? = some (.cells #[.int .i64 0,.int .i64 0,.int .i64 0] 39 (0,0)))
 (r1:w1.ownsRow (w.heap.size+2) 4 1 (.slice (some ⟨((w.alloc o1).alloc o2).heap.size,0,none⟩) n n) n (madeCells (Value.bool false).cells (n*1)).toList) (r2:w2.ownsRow (w.heap.size+2) 3 1 (.slice (some ⟨w1.heap.size,0,none⟩) n n) n (madeCells (Value.int .i64 0).cells (n*1)).toList) :
 HtW w w2 w1.heap.size (w.heap.size+1+1) mem vd vF n (List.replicate n 0) (List.replicate n false):=by
 have e1:(madeCells (Value.bool false).cells (n*1)).toList=(List.replicate n false).map Value.bool:=by rw [Nat.mul_one];exact (toList_madeCells_one _ _).trans (by rw [List.map_replicate])
 have e2:(madeCells (Value.int .i64 0).cells (n*1)).toList=(List.replicate n (0:Int)).map (Value.int .i64):=by rw [Nat.mul_one];exact (toList_madeCells_one _ _).trans (by rw [List.map_replicate])
 rw [e1,World.size_alloc,World.size_alloc] at r1
 rw [e2] at r2
 refine ⟨Za (Za (Ga _ _ _) (Ga _ _ _)) (Za g1 g2),r2,r1.kept g2 (Classical.em _),Zck (Zck pb g1 (by simp)) g2 (by simp),Zb (Zb fb g1 (by simp)) g2 (by simp)⟩
theorem Yke {k n:Nat} (h:k<n):(List.replicate k (-1:Int)++List.replicate (n - k) 0).set k (-1)=List.replicate (k+1) (-1)++List.replicate (n - (k+1)) 0:=by
 obtain ⟨m,hm⟩:∃ m,n - k=m+1:=⟨n - k - 1,by omega⟩
 rw [hm,show n - (k+1)=m by omega,List.set_append_right _ _ (by simp),List.replicate_succ,List.replicate_succ']
 simp
def Zpt:Value := .agg #[.int .i64 0,.int .i64 0,.int .i64 0]
theorem Yvy {b:Int} {h:List Int} {wt:List Bool} {least:Nat} {L:List Nat} {k:Nat} (hk:k=L.length):goL b (L.drop k) h wt least=some (h,wt,least):=by rw [hk,List.drop_length];rfl
theorem Zsj {b:Int} {h:List Int} {wt:List Bool} {least m:Nat} {L:List Nat} {k:Nat} (hm:L[k]? = some m):goL b (L.drop k) h wt least=if h.getD m 0 = -1 then goL b (L.drop (k+1)) (h.set m b) (wt.set m true) (min least m) else if h.getD m 0=b then goL b (L.drop (k+1)) h wt least else none:=by
 obtain ⟨hk,e⟩:=List.getElem?_eq_some_iff.1 hm
 rw [List.drop_eq_getElem_cons hk,e]
 rfl
structure InS (w0 wr:World) (gh gw:Nat) (mem:Int) (vd vF:Value) (n:Nat) (b top:Int) (L:List Nat) (h0:List Int) (wt0:List Bool) (pl k:Nat) (h:List Int) (wt:List Bool) (least:Nat):Prop where
 go:goL b L h0 wt0 pl=goL b (L.drop k) h wt least
 inv:Zzb n ⟨h,wt,top⟩
 W:HtW w0 wr gh gw mem vd vF n h wt
 m:mS n h wt<=mS n h0 wt0
 le:least<=pl
theorem Yvn {w0 wr:World} {gh gw:Nat} {mem:Int} {vd vF:Value} {n:Nat} {b top:Int} {L:List Nat} {h0:List Int} {wt0:List Bool} {pl k:Nat} {h:List Int} {wt:List Bool} {least m:Nat} (I:InS w0 wr gh gw mem vd vF n b top L h0 wt0 pl k h wt least) (hm:L[k]? = some m) (hmn:m<n) (h1:h.getD m 0 = -1) (hb:0<=b/\b<=256) :
 InS w0 ((wr.setCell ⟨gh,m,none⟩ (.int .i64 b)).setCell ⟨gw,m,none⟩ (.bool true)) gh gw mem vd vF n b top L h0 wt0 pl (k+1) (h.set m b) (wt.set m true) (min least m) :=
 ⟨by rw [I.go,Zsj hm,if_pos h1],Ypp I.inv hmn hb,Yvp (Yvq I.W),Nat.le_trans (Nat.le_of_lt (Yzw I.inv.hl I.inv.wl hmn h1 hb.1)) I.m,by have:=I.le;omega⟩
theorem Ypm {w0 wr:World} {gh gw:Nat} {mem:Int} {vd vF:Value} {n:Nat} {b top:Int} {L:List Nat} {h0:List Int} {wt0:List Bool} {pl k:Nat} {h:List Int} {wt:List Bool} {least m:Nat} (I:InS w0 wr gh gw mem vd vF n b top L h0 wt0 pl k h wt least) (hm:L[k]? = some m) (h1:h.getD m 0 ≠ -1) (h2:h.getD m 0=b) :
 InS w0 wr gh gw mem vd vF n b top L h0 wt0 pl (k+1) h wt least :=
 ⟨by rw [I.go,Zsj hm,if_neg h1,if_pos h2],I.inv,I.W,I.m,I.le⟩
def Ylt (w:World) (fs:List FnP) (fn:FnP) (f:Nat) (e:Ending) (w':World):Prop:=w.grownBy w' none /\
 ((∃ s g,HRun fs fn (hs0 fn.2.2.2.length) 0 s fn.2.2.2.length/\Zzb fn.2.2.2.length s/\e = .returned (.tuple #[.slice (some ⟨g,0,none⟩) fn.2.2.2.length fn.2.2.2.length,.int .i64 s.top,Zpt])/\w'.ownsRow w.heap.size 3 1 (.slice (some ⟨g,0,none⟩) fn.2.2.2.length fn.2.2.2.length) fn.2.2.2.length (s.h.map (Value.int .i64))) \/
  (∃ s pl err,HRun fs fn (hs0 fn.2.2.2.length) 0 s pl/\Xfc fs fn s pl err/\e = .returned (.tuple #[.slice none 0 0,.int .i64 0,.agg #[.int .i64 err,.int .i64 f,.int .i64 pl]])))
def Ysb (t:Nat->Value) (gh n Fb:Nat) (top:Int):Act:={ tmps := #[t 0,t 1,t 2,t 3,.slice (some ⟨gh,0,none⟩) n n,.int .i64 top,.pointer (some ⟨Fb,0,none⟩),t 7,t 8,t 9,t 10,t 11,t 12,t 13,t 14,t 15,t 16,t 17,t 18,t 19,t 20,t 21,t 22,t 23,t 24,t 25,t 26,t 27,t 28,t 29,t 30,t 31,t 32,t 33,t 34,t 35,t 36,t 37,t 38,t 39,t 40,t 41,t 42,t 43,t 44,t 45,t 46,t 47,t 48,t 49,t 50,t 51,t 52,t 53,t 54,t 55,t 56,t 57,t 58,t 59,t 60,t 61,t 62,t 63,t 64,t 65,t 66,t 67,t 68,t 69,t 70,t 71,t 72,t 73,t 74,t 75,t 76,t 77,t 78,t 79,t 80,t 81,t 82,t 83,t 84,t 85,t 86,t 87,t 88,t 89,t 90,t 91,t 92,t 93,t 94,t 95,t 96,t 97,t 98,t 99,t 100,t 101,t 102,t 103,t 104,t 105,t 106,t 107,t 108,t 109,t 110,t 111,t 112,t 113,t 114,t 115,t 116,t 117,t 118,t 119,t 120],defers:=[] }
def Xar:Nat->Nat
 | 0=>56
 | 1=>57
 | 2=>58
 | 3=>59
 | 4=>60
 | 5=>61
 | 6=>62
 | 7=>63
 | 8=>64
 | 9=>55
 | 10=>65
 | 11=>66
 | 12=>11
 | 13=>12
 | _=>5000
theorem Zaq:∀ i,i<14->∀ j,j<14->j≠i->Xar j≠Xar i:=by decide
theorem Yvr (i:Nat) (h:i<14):i=0\/i=1\/i=2\/i=3\/i=4\/i=5\/i=6\/i=7\/i=8\/i=9\/i=10\/i=11\/i=12\/i=13:=by omega
theorem Zjc (j:Nat) (hj:j∈[1,2,4,10]):∀ i,i<14->Xar i≠j:=by revert j;decide
def Zfz (mem:Int) (pd:Option Addr) (nd cd b o nF cF f pl gh n:Nat) (hp se sb:Int):Nat->Value
 | 0 => .agg #[.int .i64 mem,.slice pd nd cd,.slice (some ⟨b,o,none⟩) nF cF]
 | 1 => .int .i64 f
 | 2 => .int .i64 pl
 | 3 => .agg #[.int .i64 f,.int .i64 pl]
 | 4 => .slice (some ⟨gh,0,none⟩) n n
 | 5 => .int .i64 pl
 | 6 => .pointer (some ⟨gh,pl,none⟩)
 | 7 => .int .i64 hp
 | 8 => .tuple #[.int .i64 se,.int .i64 sb]
 | 9 => .tuple #[.int .i64 se,.int .i64 sb]
 | 10 => .int .i64 se
 | 11 => .int .i64 sb
 | 12 => .int .i64 se
 | 13 => .int .i64 sb
 | _=>undef
theorem Yjk {a:Act} {gh n Fb:Nat} {top:Int} (hs:a.tmps.size=121) (hd:a.defers=[]) (h4:a.tmps.getD 4 undef = .slice (some ⟨gh,0,none⟩) n n) (h5:a.tmps.getD 5 undef = .int .i64 top) (h6:a.tmps.getD 6 undef = .pointer (some ⟨Fb,0,none⟩)):a=Ysb (fun i=>a.tmps.getD i undef) gh n Fb top:=by
 refine Zki hs hd fun j hj => ?_
 rw [hs] at hj
 unfold tm
 iterate 4 (rcases j with _|j;· rfl)
 rcases j with _|j
 · exact h4
 rcases j with _|j
 · exact h5
 rcases j with _|j
 · exact h6
 iterate 114 (rcases j with _|j;· rfl)
 omega
def HJ (w0:World) (mem:Int) (vd vF:Value) (fs:List FnP) (fn:FnP) (a:Act) (wr:World):Prop :=
 ∃ gh gw s,(a.tmps.size=121/\a.defers=[]/\a.tmps.getD 4 undef = .slice (some ⟨gh,0,none⟩) fn.2.2.2.length fn.2.2.2.length/\a.tmps.getD 5 undef = .int .i64 s.top/\a.tmps.getD 6 undef = .pointer (some ⟨w0.heap.size+1,0,none⟩)) /\
   HtW w0 wr gh gw mem vd vF fn.2.2.2.length s.h s.wt/\HRun fs fn (hs0 fn.2.2.2.length) 0 s fn.2.2.2.length/\Zzb fn.2.2.2.length s
theorem Zyc (mem:Int) (vd:Value) (fs:List FnP) (pF:Option Addr) (cF B f:Nat) (fn:FnP) (w:World) (hvd:∃ p n c,vd = .slice p n c) (hB:B<=w.heap.size) (hF:Yl w B pF fs) (hf:fs[f]? = some fn) (hok:Zjp fs) :
 Calls Try.prog 24 #[.agg #[.int .i64 mem,vd,.slice pF fs.length cF],.int .i64 f] w (Ylt w fs fn f):=by
 obtain ⟨pd,nd,cd,rfl⟩:=hvd
 have hmem:=List.mem_of_getElem? hf
 have hf1:=(List.getElem?_eq_some_iff.1 hf).1
 have hnf:=hok.nf
 obtain ⟨hlen1,hlen2⟩:=hok.len fn hmem
 have FF:=Hq hF
 have OK:=Hq hok
 have HF:=Hq hf
 obtain ⟨ar,lo,r,c⟩:=fn
 simp only [] at hlen1 hlen2
 obtain ⟨b,o,rfl,hb,hc⟩:=hF (by omega)
 obtain ⟨c0,c1,c2,pc,cc,c3,hcode⟩:=hc f ar lo r c hf
 obtain ⟨b',o',rfl,hb',hc'⟩:=hcode (by omega)
 have HC:=Hq hc'
 have hb2:b<w.heap.size:=by omega
 have q1:(f:Int)<(fs.length:Int):=by omega
 obtain ⟨ii,ii0,ii1,ii2,ii3⟩:=info_parts Zao
 obtain ⟨bi,bi0,bi1,bi2,bi3⟩:=info_parts Zwj
 have hbx:=Zss w mem (.slice pd nd cd) (.slice (some ⟨b,o,none⟩) fs.length cF)
 have hk1:ii.bytes*c.length<=281474976710656:=by rw [ii3];omega
 have hk2:bi.bytes*c.length<=281474976710656:=by rw [bi3];omega
 have hk3:c.length<=maxLen:=by unfold maxLen;omega
 have PB0:=Hq (Zck hbx (Ga _ (.cells #[.int .i64 0,.int .i64 0,.int .i64 0] 39) none) (by simp))
 have FB0:=Hq (Yr w (.cells #[.int .i64 mem,.slice pd nd cd,.slice (some ⟨b,o,none⟩) fs.length cF] 25) (.cells #[.int .i64 0,.int .i64 0,.int .i64 0] 39))
 clear hF hok hf hc hcode hc' c0 c1 c2 hbx hmem
 go_enter Try.func24,Try.ntmps24
 go_wp2
 refine wp_scope_jumps 0 (HJ w mem (.slice pd nd cd) (.slice (some ⟨b,o,none⟩) fs.length cF) fs (ar,lo,r,c)) (fun _ _=>0) rfl ?first ?pass
 case pass =>
  intro a1 w1 hJ
  obtain ⟨gh,gw,s,⟨k1,k2,k3,k4,k5⟩,HW,hrun,hinv⟩:=hJ
  rw [Yjk k1 k2 k3 k4 k5]
  generalize (fun i=>a1.tmps.getD i undef)=t
  clear k1 k2 k3 k4 k5 a1
  simp only [Ysb]
  have hfb:=HW.fb
  have f0:=Cq _ _ 0 _ _ _ hfb
  have f1:=Cq _ _ 1 _ _ _ hfb
  have f2:=Cq _ _ 2 _ _ _ hfb
  have z0:=frozen_of_row _ _ 0 _ _ hfb
  have z1:=frozen_of_row _ _ 1 _ _ hfb
  have z2:=frozen_of_row _ _ 2 _ _ hfb
  have HF2:=Hq hfb
  have HW2:=Hq HW
  have HR2:=Hq hrun
  have HI2:=Hq hinv
  clear HW hfb hrun hinv
  go_wp2
  simp only [Exit.jump]
  refine bodyPost_ret (v := .tuple #[.slice (some ⟨gh,0,none⟩) c.length c.length,.int .i64 s.top,Zpt]) ?_ rfl ⟨Zd (Zd (Zd HW2.out.gr (by omega)) (by omega)) (by omega),Or.inl ⟨s,_,HR2.out,HI2.out,rfl,Zz (Zdx (Zdx (Zdx HW2.out.hr (by omega)) (by omega)) (by omega)) (by omega)⟩⟩
  have hq:(((w1.setCell ⟨w.heap.size+1,0,none⟩ (.int .i64 0)).setCell ⟨w.heap.size+1,1,none⟩ (.int .i64 0)).setCell ⟨w.heap.size+1,2,none⟩ (.int .i64 0)).heap[w.heap.size+1]? = some (.cells #[.int .i64 0,.int .i64 0,.int .i64 0] 39 (0,0)):=by
   rw [Zg (Zg (Zg HF2.out))];rfl
  clear f0 f1 f2 z0 z1 z2
  have k0:=Cq _ _ 0 _ _ _ hq
  have k1:=Cq _ _ 1 _ _ _ hq
  have k2:=Cq _ _ 2 _ _ _ hq
  clear hq
  generalize ((w1.setCell ⟨w.heap.size+1,0,none⟩ (.int .i64 0)).setCell ⟨w.heap.size+1,1,none⟩ (.int .i64 0)).setCell ⟨w.heap.size+1,2,none⟩ (.int .i64 0)=w9 at *
  rw [Zbt rfl]
  go_simp
  rfl
 case first =>
  go_wp2_with (first
   | (refine wpList_make_full _ rfl _ _ 33 rfl (w.heap.size+2) 4 bi (.bool false) 1 Zst bi0 bi1 bi2 .i64 .i64 _ _ c.length rfl rfl rfl rfl hk2 hk3 (by simp) ?_;intro w1 hr1 hg1;have R1:=Hq hr1;have G1:=Hq hg1;clear hr1 hg1)
   | (refine wpList_make_full _ rfl _ _ 32 rfl (w.heap.size+2) 3 ii (.int .i64 0) 1 Zbv ii0 ii1 ii2 .i64 .i64 _ _ c.length rfl rfl rfl rfl hk1 hk3 (by have:=G1.out.size;simp at this;omega) ?_;intro w2 hr2 hg2;have R2:=Hq hr2;have G2:=Hq hg2;clear hr2 hg2))
  have H0:=Hq (Yjf (mem:=mem) G1.out G2.out PB0.out FB0.out R1.out R2.out)
  clear R1 R2 PB0 FB0 G1 G2 hk1 hk2
  generalize w1.heap.size=gh at *
  generalize w.heap.size+1+1=gw at *
  go_loopw [30] (fun i wr=>∃ k:Nat,i = .int .i64 k/\k<=c.length/\HtW w wr gh gw mem (.slice pd nd cd) (.slice (some ⟨b,o,none⟩) fs.length cF) c.length (List.replicate k (-1)++List.replicate (c.length - k) 0) (List.replicate c.length false)) (fun i _=>c.length - (intOf i).toNat)
  case atStart=>exact ⟨0,rfl,Nat.zero_le _,by simpa using H0.out⟩
  case round =>
   obtain ⟨k,rfl,hk,hH⟩:=hrel
   have HH:=Hq hH
   by_cases hlt:(k:Int)<(c.length:Int)
   · obtain ⟨e0,z0⟩:=Znh hH k (by omega)
     clear hH
     go_wp2
     go_roundw
     case rel=>exact ⟨k+1,by go_num,by omega,by rw [<- Yke (by omega)];exact Yvq HH.out⟩
     case measure=>simp [intOf];omega
   · have hkn:k=c.length:=by omega
     subst hkn
     have H1:=hH
     rw [Nat.sub_self,List.replicate_zero,List.append_nil] at H1
     obtain ⟨e0,z0⟩:=Znh H1 0 (by omega)
     obtain ⟨e1,z1⟩:=Yaq H1 0 (by omega)
     have q0:(0:Int)<(c.length:Int):=by omega
     obtain ⟨⟨n1,n2⟩,⟨n3,n4⟩,n5⟩:=Zkq H1
     have H1':=Hq H1
     clear hH H1 HH
     go_wp2
     go_step3
     go_wp2
     have H2:=Hq (Yvp (k:=0) (x:=true) (Yvq (k:=0) (b:=0) H1'.out))
     clear e0 z0 e1 z1 n4 n2 H1'
     generalize (wr.setCell ⟨gh,0,none⟩ (.int .i64 0)).setCell ⟨gw,0,none⟩ (.bool true)=w3 at *
     go_loopw [4,5,10] (fun v4 v i wr=>∃ (s:HS) (pl:Nat),v4 = .slice (some ⟨gh,0,none⟩) c.length c.length/\i = .int .i64 pl/\v = .int .i64 s.top/\pl<=c.length/\HRun fs (ar,lo,r,c) (hs0 c.length) 0 s pl/\Zzb c.length s/\HtW w wr gh gw mem (.slice pd nd cd) (.slice (some ⟨b,o,none⟩) fs.length cF) c.length s.h s.wt) (fun _ _ i wr=>mW c.length gh gw wr*(c.length+1)+(c.length - (intOf i).toNat))
     case atStart=>exact ⟨hs0 c.length,0,rfl,rfl,rfl,Nat.zero_le _,HRun.refl _ _,Ysa hlen1,H2.out⟩
     case round =>
      obtain ⟨s,pl,rfl,rfl,rfl,hpl,hrun,hinv,hW⟩:=hrel
      have HR:=Hq hrun
      have HI:=Hq hinv
      have HW:=Hq hW
      obtain ⟨⟨n1',n2⟩,⟨n3',n4⟩,n5'⟩:=Zkq hW
      have npb:=(Gs hW.pb)
      by_cases hend:pl=c.length
      · have hb1:((pl:Int) == (c.length:Int))=true:=by simp [hend]
        subst hend
        clear hrun hinv hW
        go_wp2
        go_step3
        show (0:Nat)=0/\HJ w mem (.slice pd nd cd) (.slice (some ⟨b,o,none⟩) fs.length cF) fs (ar,lo,r,c) _ _
        exact ⟨rfl,gh,gw,s,⟨rfl,rfl,rfl,rfl,rfl⟩,HW.out,HR.out,HI.out⟩
      · have hb1:((pl:Int) == (c.length:Int))=false:=beq_eq_false_iff_ne.2 (by omega)
        have hlt:(pl:Int)<(c.length:Int):=by omega
        obtain ⟨e1,z1⟩:=Yaq hW pl (by omega)
        obtain ⟨e0,z0⟩:=Znh hW pl (by omega)
        cases hwt:s.wt.getD pl false with
        | false =>
          rw [hwt] at e1
          have HST:=Hq (HRun.step hrun (HStep.skip (by simp only [];omega) hwt))
          clear hrun hinv hW
          go_wp2
          refine ⟨⟨s,pl+1,rfl,by go_num,rfl,by omega,HST.out,HI.out,HW.out⟩,?_⟩
          simp [intOf];omega
        | true =>
          rw [hwt] at e1
          obtain ⟨⟨op,a⟩,hins⟩:∃ x,c[pl]? = some x:=⟨_,List.getElem?_eq_getElem (by omega)⟩
          have hio:=OK.out.ins _ (List.mem_of_getElem? HF.out) _ (List.mem_of_getElem? hins)
          simp only [] at hio
          have hh:=hinv.rng pl (by omega)
          have hh2:=hinv.wts pl (by omega) hwt
          have hspot:Znz fs f pl (ar,lo,r,c) op a:=⟨HF.out,hins,hnf,hlen2⟩
          have hsA:Xe fs (ar,lo,r,c) pl (s.h.getD pl 0)=Zdc fs (ar,lo,r,c) pl op a (s.h.getD pl 0):=by unfold Xe;simp only [hins]
          have H3:=Hq (Yvp (k:=pl) (x:=false) hW)
          have ST:=Hq (fun (W:World) (g:w.grownBy W none)=>Yfx mem (.slice pd nd cd) fs (some ⟨b,o,none⟩) cF B f pl (ar,lo,r,c) op a (s.h.getD pl 0) W ⟨_,_,_,rfl⟩ (Nat.le_trans hB g.size) (Zq FF.out g (by simp)) hspot hio.ok (by omega) ⟨hio.t0,hio.t1,hio.g0,hio.g1⟩ hio.copy)
          generalize hhp:s.h.getD pl 0=hp at *
          have HWT:=Hq hwt
          have HHP:=Hq hhp
          have HSA:=Hq hsA
          have HIN:=Hq hins
          have HIO:=Hq hio
          have hx0:=hW.pb
          clear hrun hinv hW hspot hsA hwt hins hio e0 z0 hhp
          go_wp2
          rename_i K hK
          have mS1:=Yut HW.out
          have mS2:=Yut H3.out
          clear n2 n4 npb e1 z1 hx0
          obtain ⟨wo,hwo⟩:∃ wo,wo=wr:=⟨_,rfl⟩
          subst hwo
          generalize wo.setCell ⟨gw,pl,none⟩ (.bool false)=w5 at *
          have hx:=H3.out.pb
          have x0:=Cq _ _ 0 _ _ _ hx
          have x1:=Cq _ _ 1 _ _ _ hx
          have x2:=Cq _ _ 2 _ _ _ hx
          have sx:=(Gs hx)
          have e0:=(Znh H3.out pl (by omega)).1
          rw [HHP.out] at e0
          obtain ⟨⟨_,n2⟩,⟨_,n4⟩,_⟩:=Zkq H3.out
          have H3d:=Hq (Zng H3.out (Ze (Zc w5 none)))
          have S5:=Hq (ST.out w5.drew H3d.out.gr)
          obtain ⟨se,sb,hse⟩:∃ se sb,Zdc fs (ar,lo,r,c) pl op a hp=(se,sb):=⟨_,_,rfl⟩
          rw [hse] at S5
          have HSE:=Hq (HSA.out.trans hse)
          clear hx ST hse
          have hcell:=HC.out pl op a HIN.out
          have hlt2:pl<c.length:=by omega
          have GO:=Hq (fun (W:World)=>Zsi op a pl W (by omega) (by omega))
          refine Je (n:=14) (J:=fun a0 l a1 w1=>RJ a0 121 14 Xar (Zfz mem pd nd cd b o fs.length cF f pl gh c.length hp se sb) l a1/\WC 8 14 w5.drew l w1) (by kernel_rfl) rfl (Zai (by kernel_rfl)) (fun l a1 w1 h=>h.2.sz) ⟨Jd rfl,Zzh _ _ _⟩ ?step ?fin
          case step =>
           intro l a1 w' i hJJ hi hin
           obtain ⟨hJ,hW⟩:=hJJ
           have hun:l.getD i false=false:=getD_both (mem_ready.1 hi).1
           have gW:w5.grownBy w' none:=Za (Ze (Zc w5 none)) hW.g
           rcases Yvr i hin with rfl|rfl|rfl|rfl|rfl|rfl|rfl|rfl|rfl|rfl|rfl|rfl|rfl|rfl
           · have e2:a1.tmps.getD 2 undef = .pointer (some ⟨w.heap.size,0,none⟩):=hJ.un 2 (fun i hi _=>Zjc 2 (by decide) i hi)
             have h0:=gW.cell x0 (by simp)
             have h1:=gW.cell x1 (by simp)
             have h2:=gW.cell x2 (by simp)
             exact Zo hW hJ rfl (by rfl) rfl (by decide) (by decide) (Zaq _ (by decide)) (w':=w') (by simp [execOp,resolve,invoke,builtin,Act.eval,e2,h0,h1,h2,hlt2,go_sem,Zfz]) (Xd hW (by decide))
           · have e1:a1.tmps.getD 1 undef = .int .i64 f:=hJ.un 1 (fun i hi _=>Zjc 1 (by decide) i hi)
             exact Zo hW hJ rfl (by rfl) rfl (by decide) (by decide) (Zaq _ (by decide)) (w':=w') (by simp [execOp,resolve,invoke,builtin,Act.eval,e1,hlt2,go_sem,Zfz]) (Xd hW (by decide))
           · have e10:a1.tmps.getD 10 undef = .int .i64 pl:=hJ.un 10 (fun i hi _=>Zjc 10 (by decide) i hi)
             exact Zo hW hJ rfl (by rfl) rfl (by decide) (by decide) (Zaq _ (by decide)) (w':=w') (by simp [execOp,resolve,invoke,builtin,Act.eval,e10,hlt2,go_sem,Zfz]) (Xd hW (by decide))
           · have e57:a1.tmps.getD 57 undef = .int .i64 f:=(Zu hJ hi 1 (by kernel_rfl))
             have f57:=e57
             rw [Array.getD_eq_getD_getElem?] at f57
             have e58:a1.tmps.getD 58 undef = .int .i64 pl:=(Zu hJ hi 2 (by kernel_rfl))
             have f58:=e58
             rw [Array.getD_eq_getD_getElem?] at f58
             exact Zo hW hJ rfl (by rfl) rfl (by decide) (by decide) (Zaq _ (by decide)) (w':=w') (by simp [execOp,resolve,invoke,builtin,Act.eval,e57,f57,e58,f58,hlt2,go_sem,Zfz]) (Xd hW (by decide))
           · have e4:a1.tmps.getD 4 undef = .slice (some ⟨gh,0,none⟩) c.length c.length:=hJ.un 4 (fun i hi _=>Zjc 4 (by decide) i hi)
             exact Zo hW hJ rfl (by rfl) rfl (by decide) (by decide) (Zaq _ (by decide)) (w':=w') (by simp [execOp,resolve,invoke,builtin,Act.eval,e4,hlt2,go_sem,Zfz]) (Xd hW (by decide))
           · have e10:a1.tmps.getD 10 undef = .int .i64 pl:=hJ.un 10 (fun i hi _=>Zjc 10 (by decide) i hi)
             exact Zo hW hJ rfl (by rfl) rfl (by decide) (by decide) (Zaq _ (by decide)) (w':=w') (by simp [execOp,resolve,invoke,builtin,Act.eval,e10,hlt2,go_sem,Zfz]) (Xd hW (by decide))
           · have e60:a1.tmps.getD 60 undef = .slice (some ⟨gh,0,none⟩) c.length c.length:=(Zu hJ hi 4 (by kernel_rfl))
             have e61:a1.tmps.getD 61 undef = .int .i64 pl:=(Zu hJ hi 5 (by kernel_rfl))
             exact Zo hW hJ rfl (by rfl) rfl (by decide) (by decide) (Zaq _ (by decide)) (w':=w') (by first|(simp [execOp,resolve,invoke,builtin,Act.eval,e60,e61,hlt2,go_sem,Zfz];done)|(simp [execOp,resolve,invoke,builtin,Act.eval,e60,e61,hlt2,go_sem,Zfz];omega)|(simp [execOp,resolve,invoke,builtin,Act.eval,e60,e61,hlt2,go_sem,Zfz];intro h;omega)|(simp [execOp,resolve,invoke,builtin,Act.eval,e60,e61,hlt2,go_sem,Zfz];intros;omega)) (Xd hW (by decide))
           · have e62:a1.tmps.getD 62 undef = .pointer (some ⟨gh,pl,none⟩):=(Zu hJ hi 6 (by kernel_rfl))
             have h0:=gW.cell e0 (by simp)
             exact Zo hW hJ rfl (by rfl) rfl (by decide) (by decide) (Zaq _ (by decide)) (w':=w') (by simp [execOp,resolve,invoke,builtin,Act.eval,e62,h0,hlt2,go_sem,Zfz]) (Xd hW (by decide))
           · have e56:a1.tmps.getD 56 undef = .agg #[.int .i64 mem,.slice pd nd cd,.slice (some ⟨b,o,none⟩) fs.length cF]:=(Zu hJ hi 0 (by kernel_rfl))
             have e59:a1.tmps.getD 59 undef = .agg #[.int .i64 f,.int .i64 pl]:=(Zu hJ hi 3 (by kernel_rfl))
             have e63:a1.tmps.getD 63 undef = .int .i64 hp:=(Zu hJ hi 7 (by kernel_rfl))
             have hw0:=hW.h0 hun
             subst hw0
             exact Zxi (WS:=fun l w=>WC 8 14 w5.drew l w) hJ rfl (by rfl) rfl (by decide) (by decide) (Zaq _ (by decide)) (by simp [execOp,resolve,invoke,Act.eval,e56,e59,e63,go_sem]) (S5.out.mono fun e w2 he=>⟨he.1,Yes hW.sz (by decide) he.2⟩)
           · have e64:a1.tmps.getD 64 undef = .tuple #[.int .i64 se,.int .i64 sb]:=(Zu hJ hi 8 (by kernel_rfl))
             exact Zo hW hJ rfl (by rfl) rfl (by decide) (by decide) (Zaq _ (by decide)) (w':=w') (by simp [execOp,resolve,invoke,builtin,Act.eval,e64,hlt2,go_sem,Zfz]) (Xd hW (by decide))
           · have e55:a1.tmps.getD 55 undef = .tuple #[.int .i64 se,.int .i64 sb]:=(Zu hJ hi 9 (by kernel_rfl))
             exact Zo hW hJ rfl (by rfl) rfl (by decide) (by decide) (Zaq _ (by decide)) (w':=w') (by simp [execOp,resolve,invoke,builtin,Act.eval,e55,hlt2,go_sem,Zfz]) (Xd hW (by decide))
           · have e55:a1.tmps.getD 55 undef = .tuple #[.int .i64 se,.int .i64 sb]:=(Zu hJ hi 9 (by kernel_rfl))
             exact Zo hW hJ rfl (by rfl) rfl (by decide) (by decide) (Zaq _ (by decide)) (w':=w') (by simp [execOp,resolve,invoke,builtin,Act.eval,e55,hlt2,go_sem,Zfz]) (Xd hW (by decide))
           · have e65:a1.tmps.getD 65 undef = .int .i64 se:=(Zu hJ hi 10 (by kernel_rfl))
             exact Zo hW hJ rfl (by rfl) rfl (by decide) (by decide) (Zaq _ (by decide)) (w':=w') (by simp [execOp,resolve,invoke,builtin,Act.eval,e65,hlt2,go_sem,Zfz]) (Xd hW (by decide))
           · have e66:a1.tmps.getD 66 undef = .int .i64 sb:=(Zu hJ hi 11 (by kernel_rfl))
             exact Zo hW hJ rfl (by rfl) rfl (by decide) (by decide) (Zaq _ (by decide)) (w':=w') (by simp [execOp,resolve,invoke,builtin,Act.eval,e66,hlt2,go_sem,Zfz]) (Xd hW (by decide))
          intro l a1 w6 hJJ hl
          obtain ⟨hJ,hW⟩:=hJJ
          have hput:=Zag hJ rfl hl (fun i j h1 h2 h3=>Zaq j h2 i h1 h3)
          subst hput
          have H6:=Hq (Zng H3d.out hW.g)
          clear hJ hW hl S5 H3d x0 x1 x2 sx e0 n2 n4
          refine hK _ _ ?_
          simp only [Zay,Xar,Zfz,Act.put,List.setIfInBounds_toArray,List.set_cons_zero,List.set_cons_succ]
          clear hK K
          by_cases hse0:se=0
          · subst hse0
            obtain ⟨⟨sb0,sb1⟩,hnx⟩:=Zmh HIO.out (by omega) (HSA.out.symm.trans HSE.out)
            simp only [] at hnx
            have HNX:=Hq hnx
            clear hnx
            have e0:=(Znh H6.out pl (by omega)).1
            rw [HHP.out] at e0
            have n2:=(Zkq H6.out).1.2
            have d0:=H6.out.gr.cell hcell.1 (by simp)
            have d1:=H6.out.gr.cell hcell.2 (by simp)
            have nb':b'<w6.heap.size:=by have:=H6.out.gr.size;omega
            go_wp2_with (first
             | (go_at_call 39;refine (GO.out _).mono ?_;rintro e w7 ⟨v7,rfl,hg7,ho7⟩;obtain ⟨p7,k7,hv7⟩:=Zp ho7;subst hv7;have H7:=Hq (Zng H6.out hg7);have O7:=Hq ho7;clear e0 n2 d0 d1 nb' hg7 ho7))
            all_goals (
             obtain ⟨⟨_,g6⟩,⟨_,w6l⟩,_⟩:=Zkq H6.out
             have hoff:=Ypq (t':=max (max s.top hp) sb) HI.out (k:=pl) (by omega) (by have:=HI.out.t0;have:=HI.out.t1;omega)
             have hmS:=Yzx (h:=s.h) HI.out.wl (by omega) HWT.out
             have HOF:=Hq hoff
             have hLl:=Zgp op a pl
             have hLi:((Yy op a pl).length:Int)<=2:=by omega
             have hnexts:Jc c pl=(Yy op a pl).map Int.toNat:=by unfold Jc;rw [HIN.out]
             have HNE:=Hq hnexts
             clear hoff hcell GO hnexts H6
             generalize Yy op a pl=L at *
             go_loopw [4,5,13,89] (fun v4 v5 v i wr=>∃ (k least:Nat) (h':List Int) (wt':List Bool),v4 = .slice (some ⟨gh,0,none⟩) c.length c.length/\v5 = .int .i64 (max (max s.top hp) sb)/\i = .int .i64 k/\v = .int .i64 least/\k<=L.length/\w7.heap.size<=wr.heap.size/\wr.ownsRow w6.heap.size 3 1 (.slice p7 L.length k7) L.length (L.map (Value.int .i64))/\InS w wr gh gw mem (.slice pd nd cd) (.slice (some ⟨b,o,none⟩) fs.length cF) c.length sb (max (max s.top hp) sb) (L.map Int.toNat) s.h (s.wt.set pl false) pl k h' wt' least) (fun _ _ _ i _=>L.length - (intOf i).toNat)
             case atStart=>exact ⟨0,pl,_,_,rfl,(by congr 1;omega),rfl,rfl,Nat.zero_le _,Nat.le_refl _,O7.out,⟨rfl,HOF.out,H7.out,Nat.le_refl _,Nat.le_refl _⟩⟩
             case round =>
              obtain ⟨k,least,h',wt',rfl,rfl,rfl,rfl,hk,hsz,hown,hin⟩:=hrel
              have IN:=Hq hin
              have OW:=Hq hown
              obtain ⟨⟨y1,y2⟩,⟨y3,y4⟩,y5⟩:=Zkq hin.W
              by_cases hlk:(k:Int)<(L.length:Int)
              · obtain ⟨m',hm'⟩:∃ x,L[k]? = some x:=⟨_,List.getElem?_eq_getElem (by omega)⟩
                obtain ⟨m0,m1⟩:=HNX.out m' (List.mem_of_getElem? hm')
                obtain ⟨m,rfl⟩:=Int.eq_ofNat_of_zero_le m0
                have hmL:(L.map Int.toNat)[k]? = some m:=by rw [List.getElem?_map,hm'];rfl
                obtain ⟨gL,kL,eL,lL,cL⟩:=Zx hown (by omega)
                injection eL with eL1 eL2 eL3
                subst eL1
                have cm:=cL k (.int .i64 m) (by rw [List.getElem?_map,hm'];rfl) (by omega)
                obtain ⟨eh,zh⟩:=Znh hin.W m (by omega)
                obtain ⟨ew,zw⟩:=Yaq hin.W m (by omega)
                have hmn:m<c.length:=by omega
                have hrm:=hin.inv.rng m hmn
                simp only [] at hrm
                generalize hgm:h'.getD m 0=hm at *
                have HGM:=Hq hgm
                have HML:=Hq hmL
                have OK1:=Hq (hown.kept (Zh _ gh m (.int .i64 sb)) (Zpe hown g6))
                have OK2:=Hq (OK1.out.kept (Zh _ gw m (.bool true)) (Zpe OK1.out w6l))
                clear cL hown hin hm' hmL hgm
                by_cases hn1:hm = -1
                · subst hn1
                  go_wp2
                  all_goals
                   refine ⟨⟨k+1,min least m,_,_,rfl,rfl,by go_num,(by congr 1;omega),by omega,(by simp only [World.size_setCell];omega),OK2.out,Yvn IN.out HML.out hmn HGM.out ⟨sb0,sb1⟩⟩,?_⟩
                   simp [intOf];omega
                · have b1:(hm == -1)=false:=beq_eq_false_iff_ne.2 hn1
                  by_cases hsb:hm=sb
                  · subst hsb
                    go_wp2
                    refine ⟨⟨k+1,least,_,_,rfl,rfl,by go_num,rfl,by omega,hsz,OW.out,Ypm IN.out HML.out (by rw [HGM.out];exact hn1) HGM.out⟩,?_⟩
                    simp [intOf];omega
                  · have b2:(hm == sb)=false:=beq_eq_false_iff_ne.2 hsb
                    have hgn:goL sb (L.map Int.toNat) s.h (s.wt.set pl false) pl=none:=by rw [IN.out.go,Zsj HML.out,HGM.out,if_neg hn1,if_neg hsb]
                    have HGN:=Hq hgn
                    have hfb:=IN.out.W.fb
                    have f0:=Cq _ _ 0 _ _ _ hfb
                    have f1:=Cq _ _ 1 _ _ _ hfb
                    have f2:=Cq _ _ 2 _ _ _ hfb
                    have z0:=frozen_of_row _ _ 0 _ _ hfb
                    have z1:=frozen_of_row _ _ 1 _ _ hfb
                    have z2:=frozen_of_row _ _ 2 _ _ hfb
                    have HF6:=Hq hfb
                    clear hfb hgn
                    go_wp2
                    show bodyPost Try.prog Try.f24 (Ylt w fs (ar,lo,r,c) f) Exit.ret _ _
                    refine bodyPost_ret (v := .tuple #[.slice none 0 0,.int .i64 0,.agg #[.int .i64 136,.int .i64 f,.int .i64 pl]]) ?_ rfl ⟨Zd (Zd (Zd IN.out.W.gr (by omega)) (by omega)) (by omega),Or.inr ⟨s,pl,136,HR.out,⟨by simp only [];omega,HWT.out,Or.inr ⟨rfl,sb,by rw [HHP.out,HSE.out],by rw [HNE.out];exact HGN.out⟩⟩,rfl⟩⟩
                    have hq:(((wr.setCell ⟨w.heap.size+1,0,none⟩ (.int .i64 136)).setCell ⟨w.heap.size+1,1,none⟩ (.int .i64 f)).setCell ⟨w.heap.size+1,2,none⟩ (.int .i64 pl)).heap[w.heap.size+1]? = some (.cells #[.int .i64 136,.int .i64 f,.int .i64 pl] 39 (0,0)):=by
                     rw [Zg (Zg (Zg HF6.out))];rfl
                    clear f0 f1 f2 z0 z1 z2
                    have k0:=Cq _ _ 0 _ _ _ hq
                    have k1:=Cq _ _ 1 _ _ _ hq
                    have k2:=Cq _ _ 2 _ _ _ hq
                    clear hq
                    generalize ((wr.setCell ⟨w.heap.size+1,0,none⟩ (.int .i64 136)).setCell ⟨w.heap.size+1,1,none⟩ (.int .i64 f)).setCell ⟨w.heap.size+1,2,none⟩ (.int .i64 pl)=w9 at *
                    rw [Zbt rfl]
                    go_simp
              · have hgo:goL sb (Jc c pl) s.h (s.wt.set pl false) pl=some (h',wt',least):=by rw [HNE.out,hin.go];exact Yvy (by rw [List.length_map];omega)
                have HST:=Hq (HRun.step HR.out (HStep.take (by simp only [];omega) HWT.out (by rw [HHP.out];exact HSE.out) hgo))
                have hmm:=hin.m
                have mS3:=Yut hin.W
                have hle:=hin.le
                rw [HHP.out] at HST
                clear hin hown hgo
                go_wp2
                refine ⟨⟨_,least,rfl,rfl,rfl,by omega,HST.out,IN.out.inv,IN.out.W⟩,?_⟩
                have hM:mW c.length gh gw wr+1<=mW c.length gh gw wo:=by rw [mS3,mS1];omega
                have hM2:=Nat.mul_le_mul_right (c.length+1) hM
                rw [Nat.add_mul,Nat.one_mul] at hM2
                omega)
          · have hse1:(se != 0)=true:=by simpa using hse0
            have HS0:=Hq hse0
            clear hse0
            have hfb:=H6.out.fb
            have f0:=Cq _ _ 0 _ _ _ hfb
            have f1:=Cq _ _ 1 _ _ _ hfb
            have f2:=Cq _ _ 2 _ _ _ hfb
            have z0:=frozen_of_row _ _ 0 _ _ hfb
            have z1:=frozen_of_row _ _ 1 _ _ hfb
            have z2:=frozen_of_row _ _ 2 _ _ hfb
            have HF6:=Hq hfb
            clear hfb
            go_wp2
            show bodyPost Try.prog Try.f24 (Ylt w fs (ar,lo,r,c) f) Exit.ret _ _
            refine bodyPost_ret (v := .tuple #[.slice none 0 0,.int .i64 0,.agg #[.int .i64 se,.int .i64 f,.int .i64 pl]]) ?_ rfl ⟨Zd (Zd (Zd H6.out.gr (by omega)) (by omega)) (by omega),Or.inr ⟨s,pl,se,HR.out,⟨by simp only [];omega,HWT.out,Or.inl ⟨HS0.out,by rw [HHP.out,HSE.out]⟩⟩,rfl⟩⟩
            have hq:(((w6.setCell ⟨w.heap.size+1,0,none⟩ (.int .i64 se)).setCell ⟨w.heap.size+1,1,none⟩ (.int .i64 f)).setCell ⟨w.heap.size+1,2,none⟩ (.int .i64 pl)).heap[w.heap.size+1]? = some (.cells #[.int .i64 se,.int .i64 f,.int .i64 pl] 39 (0,0)):=by
             rw [Zg (Zg (Zg HF6.out))];rfl
            clear f0 f1 f2 z0 z1 z2
            have k0:=Cq _ _ 0 _ _ _ hq
            have k1:=Cq _ _ 1 _ _ _ hq
            have k2:=Cq _ _ 2 _ _ _ hq
            clear hq
            generalize ((w6.setCell ⟨w.heap.size+1,0,none⟩ (.int .i64 se)).setCell ⟨w.heap.size+1,1,none⟩ (.int .i64 f)).setCell ⟨w.heap.size+1,2,none⟩ (.int .i64 pl)=w9 at *
            rw [Zbt rfl]
            go_simp
def lm:Nat->Nat
 | 0=>27
 | 1=>28
 | 2=>29
 | 3=>30
 | 4=>31
 | 5=>32
 | 6=>8
 | 7=>9
 | 8=>1008
 | 9=>1009
 | _=>5000
theorem Zrx:∀ i,i<10->∀ j,j<10->j≠i->lm j≠lm i:=by decide
theorem Xak (i:Nat) (h:i<10):i=0\/i=1\/i=2\/i=3\/i=4\/i=5\/i=6\/i=7\/i=8\/i=9:=by omega
theorem Xal (j:Nat) (hj:j∈[5]):∀ i,i<10->lm i≠j:=by revert j;decide
def lmv (gh n:Nat) (blk:Nat->Nat):Nat->Value
 | 0 => .slice (some ⟨gh,0,none⟩) n n
 | 1 => .int .i64 n
 | 2 => .slice (some ⟨blk 2,0,none⟩) n n
 | 3 => .slice (some ⟨gh,0,none⟩) n n
 | 4 => .int .i64 n
 | 5 => .slice (some ⟨blk 5,0,none⟩) n n
 | 6 => .pointer (some ⟨blk 6,0,none⟩)
 | 7 => .pointer (some ⟨blk 7,0,none⟩)
 | _=>undef
def lmo (n:Nat) (blk:Nat->Nat) (l:Array Bool):Nat->Obj
 | 6 => .cells (if l.getD 8 false=true then #[.slice (some ⟨blk 2,0,none⟩) n n] else #[.slice none 0 0]) 32
 | 7 => .cells (if l.getD 9 false=true then #[.slice (some ⟨blk 5,0,none⟩) n n] else #[.slice none 0 0]) 32
 | _ => .cells (madeCells #[.int .i64 0] n) 3
abbrev LMB (gh n:Nat) (W:World) (blk:Nat->Nat) (l:Array Bool) (w:World):Prop:=MB 10 [2,5,6,7] [(8,2),(8,6),(9,5),(9,7)] W blk (lmo n) l w
theorem Xfj {l:Array Bool} {i:Nat} (h8:i≠8) (h9:i≠9):∀ p∈[(8,2),(8,6),(9,5),(9,7)],p.1=i->l.getD p.2 false=true:=by
 intro p hp e
 simp at hp
 rcases hp with rfl|rfl|rfl|rfl <;> simp at e <;> omega
theorem Xep {l:Array Bool} (h2:l.getD 2 false=true) (h6:l.getD 6 false=true):∀ p∈[(8,2),(8,6),(9,5),(9,7)],p.1=8->l.getD p.2 false=true:=by
 intro p hp e
 simp only [List.mem_cons,List.not_mem_nil,or_false] at hp
 rcases hp with rfl|rfl|rfl|rfl <;> simp only [] at e ⊢
 · exact h2
 · exact h6
 · omega
 · omega
theorem Xeo {l:Array Bool} (h2:l.getD 5 false=true) (h6:l.getD 7 false=true):∀ p∈[(8,2),(8,6),(9,5),(9,7)],p.1=9->l.getD p.2 false=true:=by
 intro p hp e
 simp only [List.mem_cons,List.not_mem_nil,or_false] at hp
 rcases hp with rfl|rfl|rfl|rfl <;> simp only [] at e ⊢
 · omega
 · omega
 · exact h2
 · exact h6
theorem Zrv {n i k:Nat} {blk:Nat->Nat} {l:Array Bool} (hs:l.size=10) (hi:i<10) (h8:i≠8) (h9:i≠9):lmo n blk (l.setIfInBounds i true) k=lmo n blk l k:=by
 unfold lmo
 rw [Yd l i 8 (by omega),if_neg (Ne.symm h8),Yd l i 9 (by omega),if_neg (Ne.symm h9)]
theorem Yim {n i k v:Nat} {blk:Nat->Nat} {l:Array Bool} (h8:l.getD 8 false=true->i≠2) (h9:l.getD 9 false=true->i≠5):lmo n (Yee blk i v) l k=lmo n blk l k:=by
 unfold lmo
 split
 · by_cases e:l.getD 8 false=true
   · rw [if_pos e,if_pos e,Zat (Ne.symm (h8 e))]
   · rw [if_neg e,if_neg e]
 · by_cases e:l.getD 9 false=true
   · rw [if_pos e,if_pos e,Zat (Ne.symm (h9 e))]
   · rw [if_neg e,if_neg e]
 · rfl
theorem Ypd {gh n:Nat} {W w:World} {blk:Nat->Nat} {l:Array Bool} (h:LMB gh n W blk l w):(l.getD 8 false=true->l.getD 2 false=true/\l.getD 6 false=true)/\(l.getD 9 false=true->l.getD 5 false=true/\l.getD 7 false=true) :=
 ⟨fun e=>⟨h.x (8,2) (by simp) e,h.x (8,6) (by simp) e⟩,fun e=>⟨h.x (9,5) (by simp) e,h.x (9,7) (by simp) e⟩⟩
theorem Zlo {gh n i:Nat} {W w:World} {blk:Nat->Nat} {l:Array Bool} (h:LMB gh n W blk l w) (hi:i<10) (hk:i ∉ [2,5,6,7]) (h8:i≠8) (h9:i≠9):LMB gh n W blk (l.setIfInBounds i true) w :=
 Yuq h hi hk (Xfj h8 h9) fun k _ _=>Zrv h.sz hi h8 h9
theorem Xaj {gh n i:Nat} {W w:World} {blk:Nat->Nat} {l:Array Bool} (h:LMB gh n W blk l w) (hun:l.getD i false=false):(l.getD 8 false=true->i≠2)/\(l.getD 9 false=true->i≠5):=by
 refine ⟨fun e e2 => ?_,fun e e2 => ?_⟩
 · subst e2;rw [((Ypd h).1 e).1] at hun;cases hun
 · subst e2;rw [((Ypd h).2 e).1] at hun;cases hun
theorem Zrw {gh n i:Nat} {W w:World} {blk:Nat->Nat} {l:Array Bool} {o:Obj} (h:LMB gh n W blk l w) (hi:i<10) (hk:i∈[2,5,6,7]) (hun:l.getD i false=false) (h8:i≠8) (h9:i≠9) (ho:lmo n blk l i=o):LMB gh n W (Yee blk i w.heap.size) (l.setIfInBounds i true) (w.alloc o):=by
 have hne:=Xaj h hun
 refine Yzv h hi hk (Xfj h8 h9) ?_ fun k _ _ _ => ?_
 · rw [Zrv h.sz hi h8 h9,Yim hne.1 hne.2];exact ho
 · rw [Zrv h.sz hi h8 h9,Yim hne.1 hne.2]
theorem Xen {gh n:Nat} {W w:World} {blk:Nat->Nat} {l:Array Bool} (h:LMB gh n W blk l w) (hun:l.getD 6 false=false):lmo n blk l 6 = .cells #[.slice none 0 0] 32:=by
 have:l.getD 8 false≠true:=fun e=>by rw [((Ypd h).1 e).2] at hun;cases hun
 unfold lmo;simp only [];rw [if_neg this]
theorem Xem {gh n:Nat} {W w:World} {blk:Nat->Nat} {l:Array Bool} (h:LMB gh n W blk l w) (hun:l.getD 7 false=false):lmo n blk l 7 = .cells #[.slice none 0 0] 32:=by
 have:l.getD 9 false≠true:=fun e=>by rw [((Ypd h).2 e).2] at hun;cases hun
 unfold lmo;simp only [];rw [if_neg this]
theorem Zru {gh n i v:Nat} {blk:Nat->Nat} {l:Array Bool} (hun:l.getD i false=false):∀ k,k<10->l.getD k false=true->lm k<211->lmv gh n (Yee blk i v) k=lmv gh n blk k:=by
 intro k hk hl _
 have hki:k≠i:=fun e=>by subst e;rw [hun] at hl;cases hl
 rcases Xak k hk with rfl|rfl|rfl|rfl|rfl|rfl|rfl|rfl|rfl|rfl <;> first|rfl|(unfold lmv;simp only [];rw [Zat hki])
theorem Yag (n:Nat) (blk:Nat->Nat) (l:Array Bool):∃ v,lmo n blk l 6 = .cells #[v] 32:=by
 unfold lmo;simp only [];split <;> exact ⟨_,rfl⟩
theorem Yaf (n:Nat) (blk:Nat->Nat) (l:Array Bool):∃ v,lmo n blk l 7 = .cells #[v] 32:=by
 unfold lmo;simp only [];split <;> exact ⟨_,rfl⟩
theorem Yvb {gh n:Nat} {W w:World} {blk:Nat->Nat} {l:Array Bool} (h:LMB gh n W blk l w) (h2:l.getD 2 false=true) (h6:l.getD 6 false=true) :
 LMB gh n W blk (l.setIfInBounds 8 true) (w.setCell ⟨blk 6,0,none⟩ (.slice (some ⟨blk 2,0,none⟩) n n)):=by
 refine Yab (k:=6) h (by decide) (by decide) (by decide) h6 (Xep h2 h6) (Zh _ _ _ _) ?_ fun j hj hne _ => ?_
 · obtain ⟨v,hv⟩:=Yag n blk l
   have hb:=(h.b 6 (by decide) h6).2
   rw [hv] at hb
   rw [Zg hb]
   unfold lmo
   simp only []
   rw [Yd l 8 8 (by rw [h.sz];decide),if_pos rfl,if_pos rfl]
   rfl
 · unfold lmo
   split
   · exact absurd rfl hne
   · rw [Yd l 8 9 (by rw [h.sz];decide),if_neg (show ¬ 9=8 by decide)]
   · rfl
theorem Yva {gh n:Nat} {W w:World} {blk:Nat->Nat} {l:Array Bool} (h:LMB gh n W blk l w) (h2:l.getD 5 false=true) (h6:l.getD 7 false=true) :
 LMB gh n W blk (l.setIfInBounds 9 true) (w.setCell ⟨blk 7,0,none⟩ (.slice (some ⟨blk 5,0,none⟩) n n)):=by
 refine Yab (k:=7) h (by decide) (by decide) (by decide) h6 (Xeo h2 h6) (Zh _ _ _ _) ?_ fun j hj hne _ => ?_
 · obtain ⟨v,hv⟩:=Yaf n blk l
   have hb:=(h.b 7 (by decide) h6).2
   rw [hv] at hb
   rw [Zg hb]
   unfold lmo
   simp only []
   rw [Yd l 9 9 (by rw [h.sz];decide),if_pos rfl,if_pos rfl]
   rfl
 · unfold lmo
   split
   · rw [Yd l 9 8 (by rw [h.sz];decide),if_neg (show ¬ 8=9 by decide)]
   · exact absurd rfl hne
   · rfl
structure Xbp (n:Nat) (W w:World) (gn gb bn bb:Nat):Prop where
 g:W.grownBy w none
 l1:W.heap.size<=gn/\gn<w.heap.size
 l2:W.heap.size<=gb/\gb<w.heap.size
 l3:W.heap.size<=bn/\bn<w.heap.size
 l4:W.heap.size<=bb/\bb<w.heap.size
 n1:gn≠gb
 n2:gn≠bn
 n3:gn≠bb
 n4:gb≠bn
 n5:gb≠bb
 n6:bn≠bb
 rn:w.ownsRow W.heap.size 3 1 (.slice (some ⟨gn,0,none⟩) n n) n (Zex (List.replicate n 0))
 rb:w.ownsRow W.heap.size 3 1 (.slice (some ⟨gb,0,none⟩) n n) n (Zex (List.replicate n 0))
 bn:Bx w bn 32 (.slice (some ⟨gn,0,none⟩) n n)
 bb:Bx w bb 32 (.slice (some ⟨gb,0,none⟩) n n)
theorem Zlu {w:World} {g B n:Nat} (h:w.heap[g]? = some (.cells (madeCells #[.int .i64 0] n) 3)) (hb:B<=g) (hn:n<=maxLen):w.ownsRow B 3 1 (.slice (some ⟨g,0,none⟩) n n) n (Zex (List.replicate n 0)):=by
 refine ⟨by simp [Zex],.inr ⟨g,n,_,rfl,hb,h,Nat.le_refl _,hn,by simp [madeCells],?_⟩⟩
 have e:(madeCells #[.int .i64 0] n).toList=List.replicate n (.int .i64 0):=by
  refine List.ext_getElem (by simp [madeCells]) fun i h1 h2 => ?_
  simp [madeCells,Nat.mod_one]
 rw [e]
 simp [Zex]
theorem Yvc {gh n:Nat} {W w:World} {blk:Nat->Nat} {l:Array Bool} (h:LMB gh n W blk l w) (hl:∀ j,j<10->l.getD j false=true) (hn:n<=maxLen):Xbp n W w (blk 2) (blk 5) (blk 6) (blk 7):=by
 have b2:=h.b 2 (by decide) (hl 2 (by decide))
 have b5:=h.b 5 (by decide) (hl 5 (by decide))
 have b6:=h.b 6 (by decide) (hl 6 (by decide))
 have b7:=h.b 7 (by decide) (hl 7 (by decide))
 have lt:∀ {b:Nat} {o:Obj},w.heap[b]? = some o->b<w.heap.size:=fun h=>(Gs h)
 have nn:∀ i∈[2,5,6,7],∀ j∈[2,5,6,7],i<10->j<10->i≠j->blk i≠blk j:=fun i hi j hj h1 h2 hij=>h.d i hi j hj hij (hl i h1) (hl j h2)
 refine ⟨h.g,⟨b2.1,lt b2.2⟩,⟨b5.1,lt b5.2⟩,⟨b6.1,lt b6.2⟩,⟨b7.1,lt b7.2⟩,nn 2 (by decide) 5 (by decide) (by decide) (by decide) (by decide),nn 2 (by decide) 6 (by decide) (by decide) (by decide) (by decide),
  nn 2 (by decide) 7 (by decide) (by decide) (by decide) (by decide),nn 5 (by decide) 6 (by decide) (by decide) (by decide) (by decide),nn 5 (by decide) 7 (by decide) (by decide) (by decide) (by decide),nn 6 (by decide) 7 (by decide) (by decide) (by decide) (by decide),
  Zlu b2.2 b2.1 hn,Zlu b5.2 b5.1 hn,?_,?_⟩
 · have:=b6.2
   unfold lmo at this
   simp only [] at this
   rw [if_pos (hl 8 (by decide))] at this
   exact this
 · have:=b7.2
   unfold lmo at this
   simp only [] at this
   rw [if_pos (hl 9 (by decide))] at this
   exact this
def ls0 (n:Nat):LS:=⟨List.replicate n 0,List.replicate n 0,List.replicate n false,List.replicate n false,[],[],0⟩
def la0 (n0 gn gb bn bb s2 s3 s4:Nat):LA:=⟨n0,n0+1,n0+1+1,bn,bb,s3,s4,s4+1,s4+1+1,gn,gb,s2,s3+1⟩
def we0 (w4:World):World:=((w4.alloc (.cells #[.slice none 0 0] 32)).alloc (.cells #[.slice none 0 0] 88)).alloc (.cells #[.int .i64 0] 3)
theorem Yov {w W w2 w3 w4:World} {n gn gb bn bb f:Nat} {mem:Int} {vd vF vh:Value} (g3:w.grownBy W none) (z3:W.heap.size=w.heap.size+3)
 (t1:W.heap[w.heap.size]? = some (.cells #[.int .i64 mem,vd,vF] 25 (0,0))) (t2:W.heap[w.heap.size+1]? = some (.cells #[.int .i64 f] 3 (0,0))) (t3:W.heap[w.heap.size+1+1]? = some (.cells #[vh] 32 (0,0)))
 (M:Xbp n W.drew w2 gn gb bn bb) (h3:w2.grownBy w3 none) (h4:(w3.alloc (.cells #[.slice (some ⟨w2.heap.size,0,none⟩) n n] 33)).grownBy w4 none) (hs3:w2.heap.size<w3.heap.size) (hs4:w3.heap.size+1<w4.heap.size)
 (r3:w3.ownsRow w.heap.size 4 1 (.slice (some ⟨w2.heap.size,0,none⟩) n n) n (madeCells (Value.bool false).cells (n*1)).toList)
 (r4:w4.ownsRow w.heap.size 4 1 (.slice (some ⟨w3.heap.size+1,0,none⟩) n n) n (madeCells (Value.bool false).cells (n*1)).toList) :
 LpW w (we0 w4).heap.size (la0 w.heap.size gn gb bn bb w2.heap.size w3.heap.size w4.heap.size) ⟨mem,vd,vF,f,vh,n⟩ (.slice none 0 0) (.slice none 0 0) (ls0 n) (we0 w4):=by
 have e1:(madeCells (Value.bool false).cells (n*1)).toList=(List.replicate n false).map Value.bool:=by rw [Nat.mul_one];exact (toList_madeCells_one _ _).trans (by rw [List.map_replicate])
 rw [e1] at r3 r4
 obtain ⟨mg,l1,l2,l3,l4,n1,n2,n3,n4,n5,n6,rn,rb,xn,xb⟩:=M
 have zd:W.drew.heap.size=w.heap.size+3:=z3
 rw [zd] at l1 l2 l3 l4 rn rb
 have gWd:W.grownBy W.drew none:=Ze (Zc W none)
 have gW2:=Za gWd mg
 have g33:=Ga w3 (.cells #[.slice (some ⟨w2.heap.size,0,none⟩) n n] 33) none
 have g24:=Za h3 (Za g33 h4)
 have g4E:w4.grownBy (we0 w4) none:=Xm w4 _ _ _
 have g2E:=Za g24 g4E
 have gWE:=Za gW2 g2E
 have g3E:=Za h4 g4E
 have hE:(we0 w4).heap.size=w4.heap.size+3:=by simp [we0]
 have s4:=h4.size
 simp at s4
 have T:=Xl w4 (.cells #[.slice none 0 0] 32) (.cells #[.slice none 0 0] 88) (.cells #[.int .i64 0] 3)
 have zs2:=mg.size
 rw [zd] at zs2
 refine ⟨Za g3 gWE,?_,?_,?_,by rw [hE];omega,Zb t1 gWE (by simp),Zb t2 gWE (by simp),Zb t3 gWE (by simp),Zb xn g2E (by simp),Zb xb g2E (by simp),?_,T.1,T.2.1,T.2.2,?_,?_,?_,?_,World.ownsRow_nil _ _ _ _,World.ownsRow_nil _ _ _ _⟩
 · simp only [LA.all,la0,List.nodup_cons,List.mem_cons,List.not_mem_nil,or_false,not_or,List.nodup_nil,not_false_eq_true,and_true]
   omega
 · intro a ha
   simp only [LA.all,la0,List.mem_cons,List.not_mem_nil,or_false] at ha
   omega
 · intro a ha
   rw [hE]
   simp only [LA.all,la0,List.mem_cons,List.not_mem_nil,or_false] at ha
   omega
 · exact Zb (Zb (heap_alloc_new w3 _) h4 (by simp)) g4E (by simp)
 · exact Zz (rn.kept g2E (Classical.em _)) (by omega)
 · exact Zz (rb.kept g2E (Classical.em _)) (by omega)
 · exact r3.kept (Za g33 g3E) (Classical.em _)
 · exact r4.kept g4E (Classical.em _)
end Go.Proofs.Ythlkflagancdfaa.CK
