/-
  Part of a proof: contracts of functions and lemmas, each stated by its own theorem. Conditions: as each theorem states.
-/
import Derived.Test.YthlkflagancdfaaML24
import Derived.Laws.BytesArg
import Derived.Deep.QuietTactic
import Derived.BigQuiet
import Derived.Test.YthlkflagancdfaaML26
import Derived.Deep.Cut
import Derived.Outline
import Derived.Test.YthlkflagancdfaaML29
import Derived.Test.YthlkflagancdfaaML28
set_option linter.unusedSimpArgs false
set_option linter.unusedVariables false
set_option maxRecDepth 100000
set_option maxHeartbeats 16000000
namespace Go.Proofs.Ythlkflagancdfaa.OT
open Go.RowKit Go.Great
open Go.Proofs.Ythlkflagancdfaa.CK
theorem Zgk:Try.prog.underlying 22=some (.slice 5):=by kernel_rfl
theorem Zni:Try.prog.underlying 5=some (.int .u8):=by kernel_rfl
theorem Zpv:Try.prog.underlying 9=some .string:=by kernel_rfl
theorem Yif {w:World} {pd:Option Addr} {d:List Int} (h:Rd w pd (d.map (Value.int .u8))) (cd:Nat):(convert 22 9 (.slice pd d.length cd)).run Try.prog w = .ok (.string (strOfNums d)) w:=by
 rcases Nat.eq_zero_or_pos d.length with h0|h0
 · have hd:d=[]:=List.length_eq_zero_iff.1 h0
   subst hd
   cases pd with
   | none=>exact run_convert_bytes_nil w _ _ Zgk Zni _ _ _ Zpv
   | some ad =>
     have hl:(loadCells ad 0).run Try.prog w = .ok (([]:List Int).map (Value.int .u8)).toArray w:=by simpa using run_loadCells_list (P:=Try.prog) w ad [] (by simp)
     rw [run_convert_bytes_string w _ _ _ _ _ cd Zgk Zni Zpv]
     rw [show (([]:List Int).length)=0 from rfl,run_bytesToString w ad 0 cd [] hl]
     rfl
 · obtain ⟨b,o,rfl,hc⟩:=h (by intro e;simp at e;subst e;simp at h0)
   exact run_convert_bytes_arg w _ _ Zgk Zni b o d.length cd d rfl (fun i hi=>by
    rw [hc i (.int .u8 (d.getD i 0)) (by rw [List.getElem?_map,List.getElem?_eq_getElem hi];simp [List.getD_eq_getElem?_getD,List.getElem?_eq_getElem hi])]) _ Zpv
def Yyv (w:World) (b:Nat) (a l r:Int) (vc:Value):Prop:=w.heap[b]? = some (.cells #[.int .i64 a,.int .i64 l,.int .i64 r,vc] 52 (0,0))
theorem Zvj {w w':World} {b:Nat} {a l r:Int} {vc:Value} {row:Option Nat} (h:Yyv w b a l r vc) (g:w.grownBy w' row) (hr:row≠some b):Yyv w' b a l r vc:=Zb h g hr
def Yyu (w:World) (b:Nat) (m:Int) (vd vF:Value):Prop:=w.heap[b]? = some (.cells #[.int .i64 m,vd,vF] 25 (0,0))
theorem Zvi {w w':World} {b:Nat} {m:Int} {vd vF:Value} {row:Option Nat} (h:Yyu w b m vd vF) (g:w.grownBy w' row) (hr:row≠some b):Yyu w' b m vd vF:=Zb h g hr
theorem Zyg (mem:Int) (dl:List Int) (fs:List FnP) (pd pd' pF pF':Option Addr) (cd cd' cF cF' B B':Nat) (w:World) (hB:B<=w.heap.size) (hB':B'<=w.heap.size) (hn:fs.length<=1000000000000) (hc:∀ x∈fs,x.2.2.2.length<=1000000000000)
 (hD:Rd w pd (dl.map (Value.int .u8))) (hD':Rd w pd' (dl.map (Value.int .u8))) (hF:Yk w B pF fs) (hF':Yk w B' pF' fs) :
 Calls Try.prog 12 #[.agg #[.int .i64 mem,.slice pd dl.length cd,.slice pF fs.length cF],.agg #[.int .i64 mem,.slice pd' dl.length cd',.slice pF' fs.length cF']] w fun e w'=>e = .returned (.bool true)/\w.grownBy w' none:=by
 have G2:=Za (Ga w (.cells #[.int .i64 mem,.slice pd dl.length cd,.slice pF fs.length cF] 25) none) (Ga _ (.cells #[.int .i64 mem,.slice pd' dl.length cd',.slice pF' fs.length cF'] 25) none)
 have PA:=Hq (Zs hF G2 (by simp))
 have PB:=Hq (Zs hF' G2 (by simp))
 have k1:=Yif (Yy hD G2) cd
 have k2:=Yif (Yy hD' G2) cd'
 have GB:=Hq G2
 have BA:=Hq (show Yyu ((w.alloc (.cells #[.int .i64 mem,.slice pd dl.length cd,.slice pF fs.length cF] 25)).alloc (.cells #[.int .i64 mem,.slice pd' dl.length cd',.slice pF' fs.length cF'] 25)) w.heap.size mem (.slice pd dl.length cd) (.slice pF fs.length cF) from Zb (heap_alloc_new w _) (Ga _ _ none) (by simp))
 have BB:=Hq (show Yyu ((w.alloc (.cells #[.int .i64 mem,.slice pd dl.length cd,.slice pF fs.length cF] 25)).alloc (.cells #[.int .i64 mem,.slice pd' dl.length cd',.slice pF' fs.length cF'] 25)) (w.heap.size+1) mem (.slice pd' dl.length cd') (.slice pF' fs.length cF') from Yi w _ _)
 have HC:=Hq hc
 have hBB:=Hq hB
 have hBB':=Hq hB'
 have hni:(fs.length:Int)<=1000000000000:=by omega
 clear hD hD' hF hF' G2 hc hB hB'
 go_enter Try.func12,Try.ntmps12
 go_wp2
 clear k1 k2
 generalize (w.alloc (.cells #[.int .i64 mem,.slice pd dl.length cd,.slice pF fs.length cF] 25)).alloc (.cells #[.int .i64 mem,.slice pd' dl.length cd',.slice pF' fs.length cF'] 25)=w2 at *
 go_loopw [5] (fun i wr=>∃ k:Nat,i = .int .i64 k/\k<=fs.length/\w2.grownBy wr none) (fun i _=>fs.length - (intOf i).toNat)
 case atStart=>exact ⟨0,rfl,Nat.zero_le _,Zc _ _⟩
 case round =>
  obtain ⟨k,rfl,hk,hg⟩:=hrel
  have HG:=Hq hg
  have hba:=Zvi BA.out hg (by simp)
  have hbb:=Zvi BB.out hg (by simp)
  have a2:=Cq wr _ 2 _ _ _ hba
  have b2:=Cq wr _ 2 _ _ _ hbb
  have al:=(Gs hba)
  have bbl:=(Gs hbb)
  by_cases hlt:(k:Int)<(fs.length:Int)
  · obtain ⟨⟨a,l,r,c⟩,hkf⟩:∃ x,fs[k]? = some x:=⟨_,List.getElem?_eq_getElem (by omega)⟩
    obtain ⟨ga,oa,ea,la,ca⟩:=Zs PA.out hg (by simp) (by omega)
    obtain ⟨gb,ob,eb,lb,cb⟩:=Zs PB.out hg (by simp) (by omega)
    subst ea;subst eb
    obtain ⟨f0,f1,f2,pc,cc,f3,q4⟩:=ca k a l r c hkf
    obtain ⟨f4,f5,f6,pc',cc',f7,t4⟩:=cb k a l r c hkf
    have la:=Nat.lt_of_lt_of_le la (Nat.le_trans hBB.out (Nat.le_trans GB.out.size hg.size))
    have lb:=Nat.lt_of_lt_of_le lb (Nat.le_trans hBB'.out (Nat.le_trans GB.out.size hg.size))
    have hcl:=HC.out _ (List.mem_of_getElem? hkf)
    simp only [] at hcl
    have hci:(c.length:Int)<=1000000000000:=by omega
    have GW:=Za (Ga wr (.cells #[.int .i64 a,.int .i64 l,.int .i64 r,.slice pc c.length cc] 52) none) (Ga _ (.cells #[.int .i64 a,.int .i64 l,.int .i64 r,.slice pc' c.length cc'] 52) none)
    have OA:=Hq (Xh q4 GW (by simp))
    have OB:=Hq (Xh t4 GW (by simp))
    have HGW:=Hq (Za hg GW)
    have XA:=Hq (show Yyv ((wr.alloc (.cells #[.int .i64 a,.int .i64 l,.int .i64 r,.slice pc c.length cc] 52)).alloc (.cells #[.int .i64 a,.int .i64 l,.int .i64 r,.slice pc' c.length cc'] 52)) wr.heap.size a l r (.slice pc c.length cc) from Zb (heap_alloc_new wr _) (Ga _ _ none) (by simp))
    have XB:=Hq (show Yyv ((wr.alloc (.cells #[.int .i64 a,.int .i64 l,.int .i64 r,.slice pc c.length cc] 52)).alloc (.cells #[.int .i64 a,.int .i64 l,.int .i64 r,.slice pc' c.length cc'] 52)) (wr.heap.size+1) a l r (.slice pc' c.length cc') from Yi wr _ _)
    clear hg hba hbb hkf ca cb q4 t4 GW
    go_wp2
    clear f0 f1 f2 f3 f4 f5 f6 f7 a2 b2 al bbl la lb
    obtain ⟨wo,hwo⟩:∃ wo,wo=wr:=⟨_,rfl⟩
    subst hwo
    generalize (wo.alloc (.cells #[.int .i64 a,.int .i64 l,.int .i64 r,.slice pc c.length cc] 52)).alloc (.cells #[.int .i64 a,.int .i64 l,.int .i64 r,.slice pc' c.length cc'] 52)=W at *
    generalize wo.heap.size=g0 at *
    go_loopw [8] (fun i wr=>∃ j:Nat,i = .int .i64 j/\j<=c.length/\W.grownBy wr none) (fun i _=>c.length - (intOf i).toNat)
    case atStart=>exact ⟨0,rfl,Nat.zero_le _,Zc _ _⟩
    case round =>
     obtain ⟨j,rfl,hj,hg⟩:=hrel
     have HG3:=Hq hg
     have hxa:=Zvj XA.out hg (by simp)
     have hxb:=Zvj XB.out hg (by simp)
     have a3:=Cq wr _ 3 _ _ _ hxa
     have b3:=Cq wr _ 3 _ _ _ hxb
     have al:=(Gs hxa)
     have bbl:=(Gs hxb)
     by_cases hlt2:(j:Int)<(c.length:Int)
     · obtain ⟨⟨x,y⟩,hxy⟩:∃ x,c[j]? = some x:=⟨_,List.getElem?_eq_getElem (by omega)⟩
       obtain ⟨ga,oa,ea,la,ca⟩:=Xh OA.out hg (by simp) (by omega)
       obtain ⟨gb,ob,eb,lb,cb⟩:=Xh OB.out hg (by simp) (by omega)
       subst ea;subst eb
       obtain ⟨f0,f1⟩:=ca j x y hxy
       obtain ⟨f2,f3⟩:=cb j x y hxy
       have la:=World.block_lt_of_cell? _ _ f0
       have lb:=World.block_lt_of_cell? _ _ f2
       clear hg hxa hxb ca cb hxy
       go_wp2
       go_quiet (fail)
       go_wp2
       go_roundw
       case rel=>exact ⟨j+1,by go_num,by omega,Zh HG3.out _⟩
       case measure=>simp [intOf];omega
     · clear hg hxa hxb
       go_wp2
       go_roundw
       case rel=>exact ⟨k+1,by go_num,by omega,Za HGW.out HG3.out⟩
       case measure=>simp [intOf];omega
  · clear hg hba hbb
    go_wp2
    go_ret
    exact ⟨rfl,Za GB.out HG.out⟩
end Go.Proofs.Ythlkflagancdfaa.OT
namespace Go.Proofs.Ythlkflagancdfaa.CK
open Go.RowKit Go.Great
theorem Zah {ops:Array Oper} {Q:Exit->Act->World->Prop} {a:Act} {i:Nat} {w w':World} {o:Oper} {K:Act->World->Prop} {v:Value} (ho:ops[i]? = some o) (hw:Region.wanted o (yielded ops a.tmps)=true) (hrun:(execOp a.eval o).run Try.prog w = .ok (.value v) w')
 (hK:K (a.put o.dst v) w'):wpOp Try.prog ops Q i K a w:=by
 unfold wpOp
 simp only [ho]
 rw [if_pos hw]
 refine Or.inl ?_
 unfold Oper.wp
 rw [hrun,Oper.upon_value]
 exact hK
structure Zvn (s n c0:Nat) (D C:List (Nat × Nat)) (B B0:World->Prop) (F:Nat->World->Prop) (R:World->Prop) (l:Array Bool) (w:World):Prop where
 sz:l.size=n
 g:l.getD s false=false->B w
 u:l.getD c0 false=false->B0 w
 f:l.getD s false=false->∀ i,i<n->l.getD i false=true->(∀ p∈C,p.1=i->l.getD p.2 false=false)->F i w
 q:l.getD s false=true->R w
 x:l.getD s false=true->∀ j,j<n->l.getD j false=true
 cl:∀ p∈D,l.getD p.1 false=true->l.getD p.2 false=true
section
variable {s n c0 i:Nat} {D C:List (Nat × Nat)} {w w':World} {B B0:World->Prop} {F F':Nat->World->Prop} {R R':World->Prop} {l:Array Bool}
theorem Zfq (hb:B w) (h0:B0 w):Zvn s n c0 D C B B0 F R (Array.replicate n false) w :=
 ⟨by simp,fun _=>hb,fun _=>h0,fun _ i _ h=>(by rw [getD_replicate_false] at h;cases h),fun h=>(by rw [getD_replicate_false] at h;cases h),fun h=>(by rw [getD_replicate_false] at h;cases h),fun p _ h=>(by rw [getD_replicate_false] at h;cases h)⟩
theorem Zlk (h:Zvn s n c0 D C B B0 F R l w) (hin:i<n) (hun:l.getD i false=false):l.getD s false=false:=by
 cases e:l.getD s false with
 | false=>rfl
 | true=>rw [h.x e i hin] at hun;cases hun
theorem Ypi (h:Zvn n n c0 D C B B0 F R l w):l.getD n false=false:=by
 have:=h.sz
 rw [Array.getD_eq_getD_getElem?,Array.getElem?_eq_none (by omega)];rfl
theorem Zbe (h:Zvn s n c0 D C B B0 F R l w) (hin:i<n) (hun:l.getD i false=false) (hs:i≠s) (hp:∀ p∈D,p.1=i->l.getD p.2 false=true) (g:B w') (h0:i≠c0->l.getD c0 false=false->B0 w->B0 w') (hk:∀ j,j<n->j≠i->l.getD j false=true->(∀ p∈C,p.1=j->p.2≠i/\l.getD p.2 false=false)->F j w->F' j w') (hF:F' i w'):Zvn s n c0 D C B B0 F' R' (l.setIfInBounds i true) w':=by
 have gs:(l.setIfInBounds i true).getD s false=l.getD s false:=by rw [Yc l i s (by rw [h.sz];exact hin),if_neg (Ne.symm hs)]
 have ns:=Zlk h hin hun
 refine ⟨by simp [h.sz],fun _=>g,fun e => ?_,fun _ j hj e hc => ?_,fun e => ?_,fun e => ?_,Yjp h.sz hin h.cl hp⟩
 · rw [Yc l i c0 (by rw [h.sz];exact hin)] at e
   by_cases c:c0=i
   · rw [if_pos c] at e;cases e
   · rw [if_neg c] at e;exact h0 (Ne.symm c) e (h.u e)
 · have hc':∀ p∈C,p.1=j->p.2≠i/\l.getD p.2 false=false:=fun p hp e1=>by
    have h1:=hc p hp e1
    rw [Yc l i p.2 (by rw [h.sz];exact hin)] at h1
    by_cases e2:p.2=i
    · rw [if_pos e2] at h1;cases h1
    · rw [if_neg e2] at h1;exact ⟨e2,h1⟩
   rw [Yc l i j (by rw [h.sz];exact hin)] at e
   by_cases c:j=i
   · subst c;exact hF
   · rw [if_neg c] at e;exact hk j hj c e hc' (h.f ns j hj e fun p hp e1=>(hc' p hp e1).2)
 · rw [gs,ns] at e;cases e
 · rw [gs,ns] at e;cases e
theorem Yju (h:Zvn s n c0 D C B B0 F R l w) (hin:i<n) (hun:l.getD i false=false) (hs:i≠s) (hp:∀ p∈D,p.1=i->l.getD p.2 false=true) (hF:F i w):Zvn s n c0 D C B B0 F R (l.setIfInBounds i true) w :=
 Zbe h hin hun hs hp (h.g (Zlk h hin hun)) (fun _ _ h0=>h0) (fun j _ _ _ _ hj=>hj) hF
theorem Zht (h:Zvn s n c0 D C B B0 F R l w) (hin:s<n) (hc0:c0<n) (hall:∀ j,j<n->j≠s->l.getD j false=true) (hp:∀ p∈D,p.1=s->l.getD p.2 false=true) (hq:R w'):Zvn s n c0 D C B B0 F R (l.setIfInBounds s true) w':=by
 have gj:∀ j,j<n->(l.setIfInBounds s true).getD j false=true:=fun j hj=>by
  rw [Yc l s j (by rw [h.sz];exact hin)]
  by_cases e:j=s
  · rw [if_pos e]
  · rw [if_neg e];exact hall j hj e
 refine ⟨by simp [h.sz],fun e => ?_,fun e => ?_,fun e => ?_,fun _=>hq,fun _=>gj,Yjp h.sz hin h.cl hp⟩
 · rw [gj s hin] at e;cases e
 · rw [gj c0 hc0] at e;cases e
 · rw [gj s hin] at e;cases e
end
section
variable {ops:Array Oper} {Q:Exit->Act->World->Prop} {a0 a:Act} {s n c0 i N:Nat} {dst:Nat->Nat} {val:Nat->Value} {D C:List (Nat × Nat)} {B B0:World->Prop} {F:Nat->World->Prop} {R:World->Prop} {l:Array Bool} {w':World} {o:Oper}
theorem Ya (hJ:RJ a0 N n dst val l a) (hW:Zvn s n c0 D C B B0 F R l w') (hR:i∈Region.ready .any ops l) (hun:l.getD i false=false) (ho:ops[i]? = some o) (hw:Region.wanted o (yielded ops a.tmps)=true) (hdst:o.dst=some (dst i)) (hi:i<n) (hd:dst i<N) (hne:∀ j,j<n->j≠i->dst j≠dst i) (hrun:(execOp a.eval o).run Try.prog w' = .ok (.value (val i)) w')
 (h:i≠s/\(D.all fun p=>p.1 != i || ((ops[i]?).any fun o=>o.after.any fun e=>e.on == p.2 && Region.binds .any e))=true/\F i w') :
 wpOp Try.prog ops Q i (fun a' w''=>RJ a0 N n dst val (l.setIfInBounds i true) a'/\Zvn s n c0 D C B B0 F R (l.setIfInBounds i true) w'') a w' :=
 Zdc (WS:=fun l w=>Zvn s n c0 D C B B0 F R l w) hJ ho hw hdst hi hd hne hrun (Yju hW hi hun h.1 (Zn D hR h.2.1) h.2.2)
end
theorem Zjy {l:Array Bool} {C:List (Nat × Nat)} {i:Nat} (h:i ∉ C.map Prod.fst):∀ p∈C,p.1=i->l.getD p.2 false=false:=fun p hp e=>absurd (List.mem_map.2 ⟨p,hp,e⟩) h
theorem Zhw {l:Array Bool} {C:List (Nat × Nat)} {i c:Nat} (h:∀ p∈C,p.1=i->p.2=c) (hun:l.getD c false=false):∀ p∈C,p.1=i->l.getD p.2 false=false:=fun p hp e=>by rw [h p hp e];exact hun
theorem Yq {l:Array Bool} {c:Nat} {P:Prop} (h:l.getD c false=true) (hun:l.getD c false=false):P:=by rw [hun] at h;cases h
end Go.Proofs.Ythlkflagancdfaa.CK
namespace Go.Proofs.Ythlkflagancdfaa.OT
open Go.RowKit Go.Great
open Go.Proofs.Ythlkflagancdfaa.CK
theorem Yab:(Try.prog.info? 5).map (fun i=>(i.zero,i.size,i.bytes))=some (some (.int .u8 0),1,1):=by kernel_rfl
theorem Zuq (w:World) (e:TypeId) (size:Nat):(w.alloc (.cells #[] e)).ownsRow w.heap.size e size (.slice (some ⟨w.heap.size,0,none⟩) 0 0) 0 [] :=
 World.ownsRow_lit w #[] 0 (Nat.le_refl _) (by unfold maxLen;omega) (by simp)
theorem Zdb {P:Program} {w:World} (base:Nat) (t ty e:TypeId) (i:TypeInfo) (size:Nat) (ht:P.underlying t=some (.slice e)) (hi:P.info? e=some i)
 (v:Value) (n c:Nat) (xs:List Value) (hown:w.ownsRow base e size v n xs) :
 (Builtin.append_ #[t,t] ty #[v,.slice none 0 c]).run P w = .ok v w:=by
 rcases hown.2 with ⟨rfl,rfl⟩|⟨g,cap,cur,rfl,_,_,hnc,_⟩
 · simp [Builtin.append_,run_underlying ht,sizeOf,typeInfo,hi,Builtin.lenOf,Builtin.firstCells]
 · simp [Builtin.append_,run_underlying ht,sizeOf,typeInfo,hi,Builtin.lenOf,Builtin.firstCells,hnc,storeCells]
theorem Zib {P:Program} (w:World) (base:Nat) (t ty e:TypeId) (i:TypeInfo) (z:Value) (size bytes:Nat) (ht:P.underlying t=some (.slice e)) (hi:P.info? e=some i) (hz:i.zero=some z)
 (hsize:i.size=size) (hby:i.bytes=bytes) (hzs:z.cells.size=size) (hsz:0<size) (v:Value) (n:Nat) (xs:List Value) (hown:w.ownsRow base e size v n xs)
 (q:Option Addr) (m c:Nat) (news:List Value) (hl:news.length=m*size) (hq:Rd w q news) (h1:∀ u∈news,u.oneCell'=true)
 (h63:n+m<=maxLen) (hbytes:(n+m)*bytes<=140737488355328) (hbase:base<=w.heap.size) :
 ∃ (p':Option Addr) (c':Nat) (w':World),(Builtin.append_ #[t,t] ty #[v,.slice q m c]).run P w = .ok (.slice p' (n+m) c') w'/\w'.ownsRow base e size (.slice p' (n+m) c') (n+m) (xs++news)/\w.grownBy w' v.ownBlock:=by
 cases q with
 | some ad =>
   obtain ⟨v',w',h2,h3,h4,_⟩:=run_append_own_at (P:=P) (w:=w) base t ty e i z size bytes ht hi hz hsize hby hzs hsz v n xs hown ad m c news hl (Zgq hq) h1 h63 hbytes hbase
   obtain ⟨p',c',rfl⟩:=Zq h3
   exact ⟨p',c',w',h2,h3,h4⟩
 | none =>
   have e0:=Zjk hq
   subst e0
   have hm:m=0:=by
    have h2:m*size=0:=by simpa using hl.symm
    rcases Nat.mul_eq_zero.1 h2 with h3|h3
    · exact h3
    · omega
   subst hm
   obtain ⟨p',c',rfl⟩:=Zq hown
   exact ⟨p',c',w,Zdb (P:=P) (w:=w) base t ty e i size ht hi _ n c xs hown,by rw [List.append_nil];exact hown,by exact Zfi (Zc _ _)⟩
theorem Yki {w:World} {b:Nat} {x0 x1 x2 y0 y1 y2:Value} {t:TypeId} (h:w.heap[b]? = some (.cells #[y0,y1,y2] t (0,0))):(((w.setCell ⟨b,0,none⟩ x0).setCell ⟨b,1,none⟩ x1).setCell ⟨b,2,none⟩ x2).heap[b]? = some (.cells #[x0,x1,x2] t (0,0)):=by
 rw [Zi (Zi (Zi h))];rfl
theorem Yba {w w0:World} {b:Nat} {x0 x1 x2:Value} (g:w0.grownBy w none) (h:w0.heap.size<=b):w0.grownBy (((w.setCell ⟨b,0,none⟩ x0).setCell ⟨b,1,none⟩ x1).setCell ⟨b,2,none⟩ x2) none:=Ze (Ze (Ze g h) h) h
theorem Ykh {w:World} {b base n size:Nat} {e t:TypeId} {v x0 x1 x2:Value} {xs:List Value} {cs:Array Value} (h:w.ownsRow base e size v n xs) (hb:w.heap[b]? = some (.cells cs t (0,0))) (hne:e≠t):(((w.setCell ⟨b,0,none⟩ x0).setCell ⟨b,1,none⟩ x1).setCell ⟨b,2,none⟩ x2).ownsRow base e size v n xs:=by
 have g:w.grownBy (((w.setCell ⟨b,0,none⟩ x0).setCell ⟨b,1,none⟩ x1).setCell ⟨b,2,none⟩ x2) (some b):=Za (Za (Zg _ _ _ _) (Zg _ _ _ _)) (Zg _ _ _ _)
 exact h.kept g (Or.inr (Yd h hb hne))
section
variable {P:Program} {w:World}
theorem Yx {ops:Array Oper} {rest:List Oper} {o:Oper} {a:Act} {Q:Exit->Act->World->Prop} (hgd:o.guard=none) (s x:Operand) (t:TypeId)
 (ho:o.op = .call { callee := .builtin .append,args := #[s,x],argTypes := #[t,t] })
 (base:Nat) (e:TypeId) (i:TypeInfo) (z:Value) (size bytes:Nat) (ht:P.underlying t=some (.slice e)) (hi:P.info? e=some i) (hz:i.zero=some z)
 (hsize:i.size=size) (hby:i.bytes=bytes) (hzs:z.cells.size=size) (hsz:0<size)
 (v:Value) (n:Nat) (xs:List Value) (hs:a.eval s=v) (hown:w.ownsRow base e size v n xs)
 (q:Option Addr) (m c:Nat) (news:List Value) (hx:a.eval x = .slice q m c) (hl:news.length=m*size) (hq:Rd w q news) (h1:∀ u∈news,u.oneCell'=true)
 (h63:n+m<=maxLen) (hbytes:(n+m)*bytes<=140737488355328) (hbase:base<=w.heap.size)
 (h:∀ (p':Option Addr) (c':Nat) (w':World),w'.ownsRow base e size (.slice p' (n+m) c') (n+m) (xs++news)->w.grownBy w' v.ownBlock->wpList P ops Q rest (a.put o.dst (.slice p' (n+m) c')) w') :
 wpList P ops Q (o::rest) a w:=by
 obtain ⟨p',c',w',hrun,h2,h3⟩:=Zib (P:=P) w base t o.type e i z size bytes ht hi hz hsize hby hzs hsz v n xs hown q m c news hl hq h1 h63 hbytes hbase
 refine wpList_plain hgd fun K hK => ?_
 unfold Oper.wp
 simp [execOp,ho,resolve,invoke,builtin,hs,hx,hrun,Result.andThen]
 exact hK _ _ (h p' c' w' h2 h3)
end
theorem Yel (w:World) (x0 x1 x2 x3:Value) (t:TypeId):Rd (w.alloc (.cells #[x0,x1,x2,x3] t)) (some ⟨w.heap.size,0,none⟩) [x0,x1,x2,x3]:=fun _=>⟨w.heap.size,0,rfl,fun j u hj=>by
 rw [Nat.zero_add]
 have h:=heap_alloc_new w (.cells #[x0,x1,x2,x3] t)
 match j,hj with
 | 0,hj=>injection hj with hj;subst hj;exact Cq _ _ 0 _ _ _ h
 | 1,hj=>injection hj with hj;subst hj;exact Cq _ _ 1 _ _ _ h
 | 2,hj=>injection hj with hj;subst hj;exact Cq _ _ 2 _ _ _ h
 | 3,hj=>injection hj with hj;subst hj;exact Cq _ _ 3 _ _ _ h⟩
theorem Zys (a b c:Int) (p:Option Addr) (n k:Nat):∀ u∈[Value.int .i64 a,.int .i64 b,.int .i64 c,.slice p n k],u.oneCell'=true:=by
 intro u hu
 simp only [List.mem_cons,List.not_mem_nil,or_false] at hu
 rcases hu with rfl|rfl|rfl|rfl <;> rfl
theorem Yqs (w:World) (b o:Nat) (u x0 x1 x2 x3:Value) (t:TypeId):Rd ((w.setCell ⟨b,o,none⟩ u).alloc (.cells #[x0,x1,x2,x3] t)) (some ⟨w.heap.size,0,none⟩) [x0,x1,x2,x3]:=by
 have:=Yel (w.setCell ⟨b,o,none⟩ u) x0 x1 x2 x3 t
 rw [World.size_setCell] at this
 exact this
theorem Zpg:∀ (fs:List FnP) (cv:List Value) (f:FnP) (v:Value),cv.length=fs.length->Xa (fs++[f]) (cv++[v])=Xa fs cv++[.int .i64 f.1,.int .i64 f.2.1,.int .i64 f.2.2.1,v]
 | [],[],f,v,_=>rfl
 | [],_::_,f,v,h=>by simp at h
 | _::_,[],f,v,h=>by simp at h
 | g::r,u::s,f,v,h=>by
   have:=Zpg r s f v (by simpa using h)
   simp only [List.cons_append,Xa,this]
theorem Yqk {wr w5 w7:World} {base b3 k:Nat} {D F F' v5:Value} {dl:List Int} {fs:List FnP} {cv:List Value} {cs:Array Value} {f:FnP} (h:Zco wr base D F dl (fs.take k) cv) (hf:fs[k]? = some f) (hb:base<=wr.heap.size) (g5:wr.grownBy w5 none) (o5:w5.ownsRow wr.heap.size 49 2 v5 f.2.2.2.length (Zw f.2.2.2))
 (g7:w5.grownBy w7 F.ownBlock) (o7:w7.ownsRow base 52 4 F' (k+1) (Xa (fs.take k) cv++[.int .i64 f.1,.int .i64 f.2.1,.int .i64 f.2.2.1,v5])) (hx:w7.heap[b3]? = some (.cells cs 25 (0,0))) :
 Zco (w7.setCell ⟨b3,2,none⟩ F') base D F' dl (fs.take (k+1)) (cv++[v5]):=by
 have hkl:=(List.getElem?_eq_some_iff.1 hf).1
 have htk:fs.take (k+1)=fs.take k++[f]:=by
  rw [List.take_succ_eq_append_getElem hkl]
  rw [List.getElem?_eq_getElem hkl] at hf
  injection hf with hf
  rw [hf]
 have hcl:cv.length=k:=by rw [h.cl,List.length_take];omega
 have hlen:(fs.take (k+1)).length=k+1:=by rw [List.length_take];omega
 have gs:=Zg w7 b3 2 F'
 have hfr5:=h.fr.kept g5 (Classical.em _)
 have nf:∀ {v2:Value} {n sz b:Nat} {xs:List Value} {E:TypeId},w5.ownsRow b E sz v2 n xs->E≠52->v2.ownBlock=none\/v2.ownBlock≠F.ownBlock:=fun ho hE=>by
  rcases hF:F.ownBlock with _|g
  · rename_i v2 _ _ _ _ _
    cases hv:v2.ownBlock with
    | none=>exact Or.inl rfl
    | some q=>exact Or.inr (by simp)
  · obtain ⟨pF,cF,rfl⟩:=Zq hfr5
    have hg:pF=some ⟨g,0,none⟩:=by
     rcases hfr5.2 with ⟨e,_⟩|⟨g',cap,cur,e,_⟩
     · injection e with e _ _;subst e;cases hF
     · injection e with e _ _
       subst e
       simp only [Value.ownBlock] at hF
       injection hF with hF;rw [hF]
    subst hg
    exact Xr (Ye ho (Nat.zero_le _)) (Ye hfr5 (Nat.zero_le _)) hE
 have nx:∀ {v2:Value} {n sz b:Nat} {xs:List Value} {E:TypeId},w7.ownsRow b E sz v2 n xs->E≠25->v2.ownBlock=none\/v2.ownBlock≠some b3:=fun ho hE=>Or.inr (Yd ho hx hE)
 have hdt5:=h.dt.kept g5 (Classical.em _)
 have hdt7:=hdt5.kept g7 (nf hdt5 (by decide))
 have o57:=o5.kept g7 (nf o5 (by decide))
 refine ⟨hdt7.kept gs (nx hdt7 (by decide)),?_,by rw [List.length_append,hcl,hlen];rfl,fun j g v hj hv => ?_,fun i j v v' q hij hi hj hq => ?_⟩
 · rw [hlen,htk,Zpg _ _ _ _ h.cl]
   exact o7.kept gs (nx o7 (by decide))
 · by_cases e:j<k
   · rw [htk,List.getElem?_append_left (by rw [List.length_take];omega)] at hj
     rw [List.getElem?_append_left (by omega)] at hv
     have o:=(h.each j g v hj hv).kept g5 (Classical.em _)
     have o2:=o.kept g7 (nf o (by decide))
     exact o2.kept gs (nx o2 (by decide))
   · have hjl:=(List.getElem?_eq_some_iff.1 hv).1
     rw [List.length_append,hcl] at hjl
     simp at hjl
     have ej:j=k:=by omega
     subst ej
     rw [htk,List.getElem?_append_right (by rw [List.length_take];omega),List.length_take,Nat.min_eq_left (by omega),Nat.sub_self] at hj
     rw [List.getElem?_append_right (by omega),hcl,Nat.sub_self] at hv
     simp at hj hv
     subst hj;subst hv
     exact (Ye o57 hb).kept gs (nx o57 (by decide))
 · have low:∀ (i:Nat) (v:Value) (q:Nat),i<k->cv[i]? = some v->v.ownBlock=some q->q<wr.heap.size:=fun i v q hik hv hq=>by
    have:=h.each i _ v (List.getElem?_eq_getElem (by rw [List.length_take];omega)) hv
    exact (this.lt q hq).2
   have new:∀ (i:Nat) (v:Value),(cv++[v5])[i]? = some v->(i<k/\cv[i]? = some v)\/(i=k/\v=v5):=fun i v hv=>by
    by_cases e:i<k
    · rw [List.getElem?_append_left (by omega)] at hv;exact Or.inl ⟨e,hv⟩
    · have hjl:=(List.getElem?_eq_some_iff.1 hv).1
      rw [List.length_append,hcl] at hjl
      simp at hjl
      have ej:i=k:=by omega
      subst ej
      rw [List.getElem?_append_right (by omega),hcl,Nat.sub_self] at hv
      simp at hv
      exact Or.inr ⟨rfl,hv.symm⟩
   rcases new i v hi with ⟨h1,h2⟩|⟨rfl,rfl⟩
   · rcases new j v' hj with ⟨h3,h4⟩|⟨rfl,rfl⟩
     · exact h.dis i j v v' q hij h2 h4 hq
     · intro e
       have:=low i v q h1 h2 hq
       have:=(o5.lt q e).1
       omega
   · rcases new j v' hj with ⟨h3,h4⟩|⟨rfl,rfl⟩
     · intro e
       have:=low j v' q h3 h4 e
       have:=(o5.lt q hq).1
       omega
     · exact absurd rfl hij
theorem Xcm {wr w5:World} {base k:Nat} {D F:Value} {dl:List Int} {fs:List FnP} {cv:List Value} (h:Zco wr base D F dl (fs.take k) cv) (ht:(fs.take k).length=k) (g5:wr.grownBy w5 none) (u:Value) (o:Obj) :
 ((w5.setCell ⟨wr.heap.size,3,none⟩ u).alloc o).ownsRow base 52 4 F k (Xa (fs.take k) cv):=by
 have h5:=(h.fr.kept g5 (Classical.em _)).kept (Zg w5 wr.heap.size 3 u) (by
  cases hF:F.ownBlock with
  | none=>exact Or.inl rfl
  | some q =>
    refine Or.inr ?_
    intro e
    injection e with e
    have:=(h.fr.lt q hF).2
    omega)
 rw [ht] at h5
 exact h5.alloc o
section
variable {wr w5 w7:World} {base b3 k:Nat} {D F F' v5 u:Value} {dl:List Int} {fs:List FnP} {cv:List Value} {cs:Array Value} {f:FnP} {o:Obj}
theorem Xbp (h:Zco wr base D F dl fs cv) (hb:wr.heap[b3]? = some (.cells cs 25 (0,0))) (g5:wr.grownBy w5 none) (g7:((w5.setCell ⟨wr.heap.size,3,none⟩ u).alloc o).grownBy w7 F.ownBlock):w7.heap[b3]? = some (.cells cs 25 (0,0)):=by
 have hl:=(Gs hb)
 exact Zb (Zb (Zb (Zb hb g5 (by simp)) (Zg w5 wr.heap.size 3 u) (by intro e;injection e with e;omega)) (Ga _ o none) (by simp)) g7 (Yd h.fr hb (by decide))
theorem Zgx {w0 w w':World} {base:Nat} {e:TypeId} {size n:Nat} {v:Value} {xs:List Value} (h:w.ownsRow base e size v n xs) (hb:w0.heap.size<=base) (g0:w0.grownBy w none) {w1:World} (g1:w.grownBy w1 none) (g:w1.grownBy w' v.ownBlock):w0.grownBy w' none:=by
 cases hv:v.ownBlock with
 | none=>rw [hv] at g;exact Za (Za g0 g1) g
 | some q=>rw [hv] at g;exact Zcs (Za g0 g1) g (Nat.le_trans hb (h.lt q hv).1)
theorem Zsx {w w5:World} (g5:w.grownBy w5 none) (u:Value) (o:Obj):w.grownBy ((w5.setCell ⟨w.heap.size,3,none⟩ u).alloc o) none:=Za (Ze g5 (Nat.le_refl _)) (Ga _ o none)
theorem Ykl (h:Zco wr base D F dl (fs.take k) cv) (hf:fs[k]? = some f) (hb:base<=wr.heap.size) (g5:wr.grownBy w5 none) (o5:w5.ownsRow (wr.heap.size+1) 49 2 v5 f.2.2.2.length (Zw f.2.2.2))
 (g7:((w5.setCell ⟨wr.heap.size,3,none⟩ u).alloc o).grownBy w7 F.ownBlock) (o7:w7.ownsRow base 52 4 F' (k+1) (Xa (fs.take k) cv++[.int .i64 f.1,.int .i64 f.2.1,.int .i64 f.2.2.1,v5])) (hx:w7.heap[b3]? = some (.cells cs 25 (0,0))) :
 Zco (w7.setCell ⟨b3,2,none⟩ F') base D F' dl (fs.take (k+1)) (cv++[v5]):=by
 have gb:=Za (Zg w5 wr.heap.size 3 u) (Zfi (r:=some wr.heap.size) (Ga (w5.setCell ⟨wr.heap.size,3,none⟩ u) o none))
 exact Yqk h hf hb (Zsx g5 u o) (Ye (o5.kept gb (Zom o5 (Nat.lt_succ_self _))) (Nat.le_succ _)) g7 o7 hx
end
def rt1:Nat->Nat
 | 0=>6
 | 1=>7
 | 2=>8
 | 3=>9
 | 4=>10
 | 5=>11
 | 6=>12
 | 7=>3
 | 8=>1008
 | _=>5000
theorem Zic:∀ i,i<9->∀ j,j<9->j≠i->rt1 j≠rt1 i:=by decide
theorem Zjz (i:Nat) (h:i<9):i=0\/i=1\/i=2\/i=3\/i=4\/i=5\/i=6\/i=7\/i=8:=by omega
theorem Yeh (j:Nat) (hj:j∈[1]):∀ i,i<9->rt1 i≠j:=by revert j;decide
def Zoj (bs b1 nd cd:Nat) (mem:Int) (pd:Option Addr) (xs:List Value) (e2:Nat) (pv:Option Addr) (cv:Nat) (b3:Nat):Nat->Value
 | 0 => .pointer (some ⟨b1,0,none⟩)
 | 1 => .int .i64 mem
 | 2 => .slice (some ⟨e2,0,none⟩) 0 0
 | 3 => .pointer (some ⟨b1,1,none⟩)
 | 4 => .slice pd nd cd
 | 5 => .slice pv nd cv
 | 6 => .agg #[.int .i64 mem,.slice pv nd cv,.slice none 0 0]
 | 7 => .pointer (some ⟨b3,0,none⟩)
 | 8=>undef
 | _=>undef
def Xcj (bs b1 nd cd:Nat) (mem:Int) (pd:Option Addr) (xs:List Value) (e2:Nat) (pv:Option Addr) (cv:Nat) (b3:Nat):Nat->World->Prop
 | 2=>fun w9=>w9.ownsRow bs 5 1 (.slice (some ⟨e2,0,none⟩) 0 0) 0 []
 | 5=>fun w9=>w9.ownsRow bs 5 1 (.slice pv nd cv) nd xs
 | 7=>fun w9=>w9.heap[b3]? = some (.cells #[.int .i64 0,.slice none 0 0,.slice none 0 0] 25 (0,0))/\bs<=b3
 | _=>fun _=>True
theorem Yuz {bs b1 nd cd:Nat} {mem:Int} {pd:Option Addr} {xs:List Value} {e2:Nat} {pv:Option Addr} {cv:Nat} {b3:Nat} {e22:Nat} {l:Array Bool} (hcl:∀ p∈([(1,0),(4,3),(5,2),(5,4),(6,1),(6,5),(8,7),(8,6)]:List (Nat × Nat)),l.getD (Prod.fst p) false=true->l.getD (Prod.snd p) false=true) (hun:l.getD 2 false=false):∀ i,i<9->l.getD i false=true->rt1 i<37->Zoj bs b1 nd cd mem pd xs e22 pv cv b3 i=Zoj bs b1 nd cd mem pd xs e2 pv cv b3 i:=by
 intro i hi hl _
 rcases Zjz i hi with rfl|rfl|rfl|rfl|rfl|rfl|rfl|rfl|rfl
 · rfl
 · rfl
 · exact Yq (hl) hun
 · rfl
 · rfl
 · rfl
 · rfl
 · rfl
 · rfl
theorem Yuy {bs b1 nd cd:Nat} {mem:Int} {pd:Option Addr} {xs:List Value} {e2:Nat} {pv:Option Addr} {cv:Nat} {b3:Nat} {pv2:Option Addr} {cv2:Nat} {l:Array Bool} (hcl:∀ p∈([(1,0),(4,3),(5,2),(5,4),(6,1),(6,5),(8,7),(8,6)]:List (Nat × Nat)),l.getD (Prod.fst p) false=true->l.getD (Prod.snd p) false=true) (hun:l.getD 5 false=false):∀ i,i<9->l.getD i false=true->rt1 i<37->Zoj bs b1 nd cd mem pd xs e2 pv2 cv2 b3 i=Zoj bs b1 nd cd mem pd xs e2 pv cv b3 i:=by
 intro i hi hl _
 rcases Zjz i hi with rfl|rfl|rfl|rfl|rfl|rfl|rfl|rfl|rfl
 · rfl
 · rfl
 · rfl
 · rfl
 · rfl
 · exact Yq (hl) hun
 · exact Yq (hcl (6,5) (by decide) (hl)) hun
 · rfl
 · rfl
theorem Yux {bs b1 nd cd:Nat} {mem:Int} {pd:Option Addr} {xs:List Value} {e2:Nat} {pv:Option Addr} {cv:Nat} {b3:Nat} {b32:Nat} {l:Array Bool} (hcl:∀ p∈([(1,0),(4,3),(5,2),(5,4),(6,1),(6,5),(8,7),(8,6)]:List (Nat × Nat)),l.getD (Prod.fst p) false=true->l.getD (Prod.snd p) false=true) (hun:l.getD 7 false=false):∀ i,i<9->l.getD i false=true->rt1 i<37->Zoj bs b1 nd cd mem pd xs e2 pv cv b32 i=Zoj bs b1 nd cd mem pd xs e2 pv cv b3 i:=by
 intro i hi hl _
 rcases Zjz i hi with rfl|rfl|rfl|rfl|rfl|rfl|rfl|rfl|rfl
 · rfl
 · rfl
 · rfl
 · rfl
 · rfl
 · rfl
 · rfl
 · exact Yq (hl) hun
 · rfl
theorem Yeg (mem:Int) (dl:List Int) (fs:List FnP) (pd pF:Option Addr) (cd cF B:Nat) (w:World) (hB:B<=w.heap.size) (hF:Yk w B pF fs) (hD:Rd w pd (dl.map (Value.int .u8))) (hd:dl.length<=4194304) (hn:fs.length<=2097152) (hc:∀ f∈fs,f.2.2.2.length<=4194304) :
 Calls Try.prog 17 #[.agg #[.int .i64 mem,.slice pd dl.length cd,.slice pF fs.length cF]] w (Yae w mem dl fs):=by
 obtain ⟨bi,bi0,bi1,bi2,bi3⟩:=info_parts Yab
 have T0:=Hq (Yt w (.cells #[.int .i64 mem,.slice pd dl.length cd,.slice pF fs.length cF] 25) (.cells #[.int .i64 0,.slice none 0 0,.slice none 0 0] 25))
 have T1:=Hq (Yi w (.cells #[.int .i64 mem,.slice pd dl.length cd,.slice pF fs.length cF] 25) (.cells #[.int .i64 0,.slice none 0 0,.slice none 0 0] 25))
 have G0:=Hq (Za (Ga w (.cells #[.int .i64 mem,.slice pd dl.length cd,.slice pF fs.length cF] 25) none) (Ga _ (.cells #[.int .i64 0,.slice none 0 0,.slice none 0 0] 25) none))
 have HF:=Hq hF
 have HD:=Hq (Yy hD G0.out)
 have HC:=Hq hc
 clear hF hD hc
 go_enter Try.func17,Try.ntmps17
 go_upto_region 1 with fail
 rename_i K hK
 have hz2:((w.alloc (.cells #[.int .i64 mem,.slice pd dl.length cd,.slice pF fs.length cF] 25)).alloc (.cells #[.int .i64 0,.slice none 0 0,.slice none 0 0] 25)).heap.size=w.heap.size+1+1:=by rw [World.size_alloc,World.size_alloc]
 have HZ2:=Hq hz2
 clear hz2
 generalize (w.alloc (.cells #[.int .i64 mem,.slice pd dl.length cd,.slice pF fs.length cF] 25)).alloc (.cells #[.int .i64 0,.slice none 0 0,.slice none 0 0] 25)=w2 at *
 have z0:=(Gs T0.out)
 have c0:=Cq _ _ 0 _ _ _ T0.out
 have c1:=Cq _ _ 1 _ _ _ T0.out
 refine Xe (n:=9) (J:=fun a0 l a1 w1=>∃ (e2:Nat) (pv:Option Addr) (cv:Nat) (b3:Nat),RJ a0 37 9 rt1 (Zoj w2.drew.heap.size w.heap.size dl.length cd mem pd (dl.map (Value.int .u8)) e2 pv cv b3) l a1/\Zvn 8 9 0 [(1,0),(4,3),(5,2),(5,4),(6,1),(6,5),(8,7),(8,6)] [(2,5)] (fun w9=>World.grownBy (w2.drew) w9 none) (fun _=>True) (Xcj w2.drew.heap.size w.heap.size dl.length cd mem pd (dl.map (Value.int .u8)) e2 pv cv b3) (fun w9=>w2.drew.grownBy w9 none/\w9.heap[b3]? = some (.cells #[.int .i64 mem,.slice pv dl.length cv,.slice none 0 0] 25 (0,0))/\w9.ownsRow w2.drew.heap.size 5 1 (.slice pv dl.length cv) dl.length (dl.map (Value.int .u8))/\w2.drew.heap.size<=b3) l w1) (by kernel_rfl) rfl (Jh (by kernel_rfl)) (fun l a1 w1 h=>by obtain ⟨_,_,_,_,h,_⟩:=h;exact h.sz) ⟨0,none,0,0,Xd rfl,Zfq (Zc _ _) (True.intro)⟩ ?step ?fin
 case step =>
  intro l a1 w' i hJJ hi hin
  obtain ⟨e2,pv,cv,b3,hJ,hW⟩:=hJJ
  have hun:l.getD i false=false:=getD_both (mem_ready.1 hi).1
  have hns:=Zlk hW hin hun
  have hg:=hW.g hns
  have l0:=Nat.lt_of_lt_of_le z0 hg.size
  rcases Zjz i hin with rfl|rfl|rfl|rfl|rfl|rfl|rfl|rfl|rfl
  · have e1:a1.tmps.getD 1 undef = .pointer (some ⟨w.heap.size,0,none⟩):=hJ.un 1 (fun i hi _=>Yeh 1 (by decide) i hi)
    exact Zj (Ya hJ hW hi hun rfl (by rfl) rfl (by decide) (by decide) (Zic _ (by decide)) (w':=w') (by simp [execOp,resolve,invoke,builtin,Act.eval,e1,l0,go_sem,Zoj]) (⟨by decide,by kernel_rfl,True.intro⟩)) (fun a9 w9 h9=>⟨e2,pv,cv,b3,h9⟩)
  · have e6:a1.tmps.getD 6 undef = .pointer (some ⟨w.heap.size,0,none⟩):=(Zm hJ hi 0 (by kernel_rfl))
    have h0:=hg.cell c0 (by simp)
    exact Zj (Ya hJ hW hi hun rfl (by rfl) rfl (by decide) (by decide) (Zic _ (by decide)) (w':=w') (by simp [execOp,resolve,invoke,builtin,Act.eval,e6,h0,l0,go_sem,Zoj]) (⟨by decide,by kernel_rfl,True.intro⟩)) (fun a9 w9 h9=>⟨e2,pv,cv,b3,h9⟩)
  · refine Zah (v:=Zoj w2.drew.heap.size w.heap.size dl.length cd mem pd (dl.map (Value.int .u8)) w'.heap.size pv cv b3 2) (w':=w'.alloc (.cells #[] 5)) rfl (by rfl) (by kernel_rfl) ⟨w'.heap.size,pv,cv,b3,?_,Zbe hW (by decide) hun (by decide) (Zn _ hi (by kernel_rfl)) (Za hg (Ga _ _ none)) (fun hne0 hun0 hB0=>hB0) (fun j hj hne hl hcu hF => ?_) (Ye (Zuq w' 5 1) hg.size)⟩
    · exact Jq (val:=Zoj w2.drew.heap.size w.heap.size dl.length cd mem pd (dl.map (Value.int .u8)) w'.heap.size pv cv b3) (Jj hJ (Yuz hW.cl hun)) (by decide) (by decide) (Zic _ (by decide))
    · rcases Zjz j hj with rfl|rfl|rfl|rfl|rfl|rfl|rfl|rfl|rfl
      · exact True.intro
      · exact True.intro
      · exact absurd rfl hne
      · exact True.intro
      · exact True.intro
      · exact Yq (hW.cl (5,2) (by decide) (hl)) hun
      · exact True.intro
      · exact ⟨Zb hF.1 (Ga _ _ none) (by simp),hF.2⟩
      · exact True.intro
  · have e1:a1.tmps.getD 1 undef = .pointer (some ⟨w.heap.size,0,none⟩):=hJ.un 1 (fun i hi _=>Yeh 1 (by decide) i hi)
    exact Zj (Ya hJ hW hi hun rfl (by rfl) rfl (by decide) (by decide) (Zic _ (by decide)) (w':=w') (by simp [execOp,resolve,invoke,builtin,Act.eval,e1,l0,go_sem,Zoj]) (⟨by decide,by kernel_rfl,True.intro⟩)) (fun a9 w9 h9=>⟨e2,pv,cv,b3,h9⟩)
  · have e9:a1.tmps.getD 9 undef = .pointer (some ⟨w.heap.size,1,none⟩):=(Zm hJ hi 3 (by kernel_rfl))
    have h0:=hg.cell c1 (by simp)
    exact Zj (Ya hJ hW hi hun rfl (by rfl) rfl (by decide) (by decide) (Zic _ (by decide)) (w':=w') (by simp [execOp,resolve,invoke,builtin,Act.eval,e9,h0,l0,go_sem,Zoj]) (⟨by decide,by kernel_rfl,True.intro⟩)) (fun a9 w9 h9=>⟨e2,pv,cv,b3,h9⟩)
  · have e8:a1.tmps.getD 8 undef = .slice (some ⟨e2,0,none⟩) 0 0:=(Zm hJ hi 2 (by kernel_rfl))
    have e10:a1.tmps.getD 10 undef = .slice pd dl.length cd:=(Zm hJ hi 4 (by kernel_rfl))
    have F2:=hW.f hns 2 (by decide) (Zf hi 2 (by kernel_rfl)) (Zhw (c:=5) (by decide) hun)
    obtain ⟨pv2,cv2,w8,hap,hown,hgr⟩:=Zib (P:=Try.prog) w' w2.drew.heap.size 22 22 5 bi (.int .u8 0) 1 1 Zgk bi0 bi1 bi2 bi3 rfl (by decide) _ 0 [] F2 pd dl.length cd (dl.map (Value.int .u8)) (by simp) (Yy HD.out (Za (Zd (Zc w2 none)) hg)) (Zpk dl) (by unfold maxLen;omega) (by omega) hg.size
    rw [Nat.zero_add] at hap hown
    refine Zah (v:=Zoj w2.drew.heap.size w.heap.size dl.length cd mem pd (dl.map (Value.int .u8)) e2 pv2 cv2 b3 5) (w':=w8) rfl (by rfl) (by simp [execOp,resolve,invoke,builtin,Act.eval,e8,e10,hap,Result.andThen,Zoj]) ⟨e2,pv2,cv2,b3,?_,Zbe hW (by decide) hun (by decide) (Zn _ hi (by kernel_rfl)) (Zcs hg hgr (F2.lt _ rfl).1) (fun hne0 hun0 hB0=>hB0) (fun j hj hne hl hcu hF => ?_) (hown)⟩
    · exact Jq (val:=Zoj w2.drew.heap.size w.heap.size dl.length cd mem pd (dl.map (Value.int .u8)) e2 pv2 cv2 b3) (Jj hJ (Yuy hW.cl hun)) (by decide) (by decide) (Zic _ (by decide))
    · rcases Zjz j hj with rfl|rfl|rfl|rfl|rfl|rfl|rfl|rfl|rfl
      · exact True.intro
      · exact True.intro
      · exact absurd rfl (hcu (2,5) (by decide) rfl).1
      · exact True.intro
      · exact True.intro
      · exact absurd rfl hne
      · exact True.intro
      · exact ⟨Zb hF.1 hgr (Yd F2 hF.1 (by decide)),hF.2⟩
      · exact True.intro
  · have e7:a1.tmps.getD 7 undef = .int .i64 mem:=(Zm hJ hi 1 (by kernel_rfl))
    have f7:=e7
    rw [Array.getD_eq_getD_getElem?] at f7
    have e11:a1.tmps.getD 11 undef = .slice pv dl.length cv:=(Zm hJ hi 5 (by kernel_rfl))
    have f11:=e11
    rw [Array.getD_eq_getD_getElem?] at f11
    exact Zj (Ya hJ hW hi hun rfl (by rfl) rfl (by decide) (by decide) (Zic _ (by decide)) (w':=w') (by simp [execOp,resolve,invoke,builtin,Act.eval,e7,f7,e11,f11,l0,go_sem,Zoj]) (⟨by decide,by kernel_rfl,True.intro⟩)) (fun a9 w9 h9=>⟨e2,pv,cv,b3,h9⟩)
  · refine Zah (v:=Zoj w2.drew.heap.size w.heap.size dl.length cd mem pd (dl.map (Value.int .u8)) e2 pv cv w'.heap.size 7) (w':=w'.alloc (.cells #[.int .i64 0,.slice none 0 0,.slice none 0 0] 25)) rfl (by rfl) (by kernel_rfl) ⟨e2,pv,cv,w'.heap.size,?_,Zbe hW (by decide) hun (by decide) (Zn _ hi (by kernel_rfl)) (Za hg (Ga _ _ none)) (fun hne0 hun0 hB0=>hB0) (fun j hj hne hl hcu hF => ?_) (⟨heap_alloc_new w' _,hg.size⟩)⟩
    · exact Jq (val:=Zoj w2.drew.heap.size w.heap.size dl.length cd mem pd (dl.map (Value.int .u8)) e2 pv cv w'.heap.size) (Jj hJ (Yux hW.cl hun)) (by decide) (by decide) (Zic _ (by decide))
    · rcases Zjz j hj with rfl|rfl|rfl|rfl|rfl|rfl|rfl|rfl|rfl
      · exact True.intro
      · exact True.intro
      · exact hF.alloc _
      · exact True.intro
      · exact True.intro
      · exact hF.alloc _
      · exact True.intro
      · exact absurd rfl hne
      · exact True.intro
  · have e3:a1.tmps.getD 3 undef = .pointer (some ⟨b3,0,none⟩):=(Zm hJ hi 7 (by kernel_rfl))
    have e12:a1.tmps.getD 12 undef = .agg #[.int .i64 mem,.slice pv dl.length cv,.slice none 0 0]:=(Zm hJ hi 6 (by kernel_rfl))
    have F5:=hW.f hns 5 (by decide) (hW.cl (6,5) (by decide) (Zf hi 6 (by kernel_rfl))) (Zjy (by decide))
    have F7:=hW.f hns 7 (by decide) (Zf hi 7 (by kernel_rfl)) (Zjy (by decide))
    have k0:=Cq _ _ 0 _ _ _ F7.1
    have k1:=Cq _ _ 1 _ _ _ F7.1
    have k2:=Cq _ _ 2 _ _ _ F7.1
    have j0:=frozen_of_row _ _ 0 _ _ F7.1
    have j1:=frozen_of_row _ _ 1 _ _ F7.1
    have j2:=frozen_of_row _ _ 2 _ _ F7.1
    have lb:=(Gs F7.1)
    have hall:∀ j,j<9->j≠8->l.getD j false=true:=by
     intro j hj hne
     rcases Zjz j hj with rfl|rfl|rfl|rfl|rfl|rfl|rfl|rfl|rfl
     · exact hW.cl (1,0) (by decide) (hW.cl (6,1) (by decide) (Zf hi 6 (by kernel_rfl)))
     · exact hW.cl (6,1) (by decide) (Zf hi 6 (by kernel_rfl))
     · exact hW.cl (5,2) (by decide) (hW.cl (6,5) (by decide) (Zf hi 6 (by kernel_rfl)))
     · exact hW.cl (4,3) (by decide) (hW.cl (5,4) (by decide) (hW.cl (6,5) (by decide) (Zf hi 6 (by kernel_rfl))))
     · exact hW.cl (5,4) (by decide) (hW.cl (6,5) (by decide) (Zf hi 6 (by kernel_rfl)))
     · exact hW.cl (6,5) (by decide) (Zf hi 6 (by kernel_rfl))
     · exact Zf hi 6 (by kernel_rfl)
     · exact Zf hi 7 (by kernel_rfl)
     · exact absurd rfl hne
    exact Zj (Zbh hW hJ rfl rfl rfl (by decide) (by decide) (w':=((w'.setCell ⟨b3,0,none⟩ (.int .i64 mem)).setCell ⟨b3,1,none⟩ (.slice pv dl.length cv)).setCell ⟨b3,2,none⟩ (.slice none 0 0)) (by simp [execOp,Act.eval,e3,e12,k0,k1,k2,j0,j1,j2,lb,go_sem]) (Zht hW (by decide) (by decide) hall (Zn _ hi (by kernel_rfl)) (⟨Yba hg F7.2,Yki F7.1,Ykh F5 F7.1 (by decide),F7.2⟩))) (fun a9 w9 h9=>⟨e2,pv,cv,b3,h9⟩)
 case fin =>
  intro l a1 w9 hJJ hl
  obtain ⟨e2,pv,cv,b3,hJ,hW⟩:=hJJ
  have hq:=hW.q (hl 8 (by decide))
  have hput:=Jf hJ rfl hl (fun i j h1 h2 h3=>Zic j h2 i h1 h3)
  subst hput
  clear hJ hW hl c0 c1 z0
  obtain ⟨q1,q2,q3,q4⟩:=hq
  refine hK _ _ ?_
  simp only [Zai,rt1,Zoj,Act.put,List.setIfInBounds_toArray,List.set_cons_zero,List.set_cons_succ]
  clear hK K
  have T0':=Hq (Zb T0.out (Za (Zd (Zc w2 none)) q1) (by simp))
  have T1':=Hq (Zb T1.out (Za (Zd (Zc w2 none)) q1) (by simp))
  have G9:=Hq (Za G0.out (Za (Zd (Zc w2 none)) q1))
  have hwb:w.heap.size+2<=b3:=Nat.le_trans (Nat.le_of_eq HZ2.out.symm) q4
  have X9:=Hq q2
  have O9:=Hq (show Zco w9 w.heap.size (.slice pv dl.length cv) (.slice none 0 0) dl (fs.take 0) [] from ⟨Ye q3 (Nat.le_trans G0.out.size (Nat.le_refl _)),World.ownsRow_nil _ _ _ _,rfl,fun k f v h _=>by simp at h,fun k l v v' b _ h=>by simp at h⟩)
  have HWB:=Hq hwb
  clear q1 q2 q3 q4 hwb
  have hni:(fs.length:Int)<=2097152:=by omega
  obtain ⟨ni,ni0,ni1,ni2,ni3⟩:=info_parts Zgv
  obtain ⟨fi,fi0,fi1,fi2,fi3⟩:=info_parts Zlc
  go_wp2
  go_loopw [4] (fun i wr=>∃ (k:Nat) (F:Value) (cw:List Value),i = .int .i64 k/\k<=fs.length/\w.grownBy wr none/\wr.heap[w.heap.size]? = some (.cells #[.int .i64 mem,.slice pd dl.length cd,.slice pF fs.length cF] 25 (0,0))/\wr.heap[w.heap.size+1]? = some (.cells #[.int .i64 0,.slice none 0 0,.slice none 0 0] 25 (0,0))/\wr.heap[b3]? = some (.cells #[.int .i64 mem,.slice pv dl.length cv,F] 25 (0,0))/\Zco wr w.heap.size (.slice pv dl.length cv) F dl (fs.take k) cw) (fun i _=>fs.length - (intOf i).toNat)
  case atStart=>exact ⟨0,_,[],rfl,Nat.zero_le _,G9.out,T0'.out,T1'.out,X9.out,O9.out⟩
  case round =>
   obtain ⟨k,F,cw,rfl,hk,hg,t0,t1,hbx,ho⟩:=hrel
   have HG:=Hq hg
   have HB:=Hq hbx
   have gw:=hg
   have hb2:=HWB.out
   have hbs:w.heap.size<=wr.heap.size:=gw.size
   have HT0:=Hq t0
   have HT1:=Hq t1
   have a2:=Cq _ _ 2 _ _ _ t0
   have la:=(Gs t0)
   obtain ⟨pF',cF',rfl⟩:=Zq ho.fr
   have htl:(fs.take k).length=k:=by rw [List.length_take];omega
   rw [htl] at hbx ho HB
   have HO:=Hq ho
   have x0:=Cq _ _ 0 _ _ _ hbx
   have x1:=Cq _ _ 1 _ _ _ hbx
   have x2:=Cq _ _ 2 _ _ _ hbx
   have xl:=(Gs hbx)
   by_cases hlt:(k:Int)<(fs.length:Int)
   · obtain ⟨⟨a,lo,r,c⟩,hkf⟩:∃ x,fs[k]? = some x:=⟨_,List.getElem?_eq_getElem (by omega)⟩
     obtain ⟨gb,ob,eb,lb,cb⟩:=Zs HF.out gw (by simp) (by omega)
     subst eb
     obtain ⟨f0,f1,f2,pc,cc,f3,q4⟩:=cb k a lo r c hkf
     have lb:=World.block_lt_of_cell? _ _ f0
     have hcl:=HC.out _ (List.mem_of_getElem? hkf)
     simp only [] at hcl
     have RC:=Hq (Zwj q4)
     have HK:=Hq hkf
     have HTL:=Hq htl
     have HGW:=Hq gw
     clear hg hbx gw t0 t1 ho cb q4 hkf htl
     have nb:¬ b3=wr.heap.size:=by omega
     have nb':¬ wr.heap.size=b3:=by omega
     have GA:=Za (Ga wr (.cells #[.int .i64 a,.int .i64 lo,.int .i64 r,.slice pc c.length cc] 52) none) (Ga _ (.cells #[] 49) none)
     have E5:((wr.alloc (.cells #[.int .i64 a,.int .i64 lo,.int .i64 r,.slice pc c.length cc] 52)).alloc (.cells #[] 49)).ownsRow (wr.heap.size+1) 49 2 (.slice (some ⟨wr.heap.size+1,0,none⟩) 0 0) 0 []:=by
      have:=Zuq (wr.alloc (.cells #[.int .i64 a,.int .i64 lo,.int .i64 r,.slice pc c.length cc] 52)) 49 2
      rw [World.size_alloc] at this
      exact this
     have HE5:=Hq E5
     have HGA:=Hq GA
     have XA:=Hq (Yt wr (.cells #[.int .i64 a,.int .i64 lo,.int .i64 r,.slice pc c.length cc] 52) (.cells #[] 49))
     clear E5 GA
     go_wp2_with (first
      | (at_builtin;refine Yx rfl _ _ 50 rfl (wr.heap.size+1) 49 ni (.agg #[.int .i64 0,.int .i64 0]) 2 16 Zab ni0 ni1 ni2 ni3 rfl (by decide) (.slice (some ⟨wr.heap.size+1,0,none⟩) 0 0) 0 [] rfl HE5.out pc c.length cc (Zw c) rfl (Xo c) (Yy RC.out HGA.out) (Zbl c) (by unfold maxLen;omega) (by omega) (by simp) ?_;intro p5 c5 w5 o5 g5;rw [Nat.zero_add,List.nil_append] at o5;have G5:=Hq (Zcs HGA.out g5 (Nat.le_succ _));have X5:=Hq (Zb XA.out g5 (by simp [Value.ownBlock]));have B5:=Hq (Zb HB.out G5.out (by simp));have O5:=Hq o5;have y0:=Cq _ _ 0 _ _ _ X5.out;have y1:=Cq _ _ 1 _ _ _ X5.out;have y2:=Cq _ _ 2 _ _ _ X5.out;have y3:=Cq _ _ 3 _ _ _ X5.out;have yz:=frozen_of_row _ _ 3 _ _ X5.out;have yl:=(Gs X5.out);have u2:=Cq _ _ 2 _ _ _ B5.out;have ul:=(Gs B5.out);clear o5 g5)
      | (at_builtin;refine Yx rfl _ _ 23 rfl w.heap.size 52 fi (.agg #[.int .i64 0,.int .i64 0,.int .i64 0,.slice none 0 0]) 4 48 Zjp fi0 fi1 fi2 fi3 rfl (by decide) (.slice pF' k cF') k (Xa (fs.take k) cw) rfl (Xcm HO.out HTL.out G5.out _ _) (some ⟨w5.heap.size,0,none⟩) 1 1 [.int .i64 a,.int .i64 lo,.int .i64 r,.slice p5 c.length c5] rfl rfl (Yqs _ _ _ _ _ _ _ _ _) (Zys _ _ _ _ _ _) (by unfold maxLen;omega) (by omega) (by simp;have:=G5.out.size;omega) ?_;intro p7 c7 w7 o7 g7;have O7:=Hq o7;have GG7:=Hq g7;have B7:=Hq (Xbp HO.out HB.out G5.out g7);have u2:=Cq _ _ 2 _ _ _ B7.out;have uz:=frozen_of_row _ _ 2 _ _ B7.out;have ul:=(Gs B7.out);clear o7 g7))
     go_roundw
     case rel=>exact ⟨k+1,_,cw++[.slice p5 c.length c5],by go_num,by omega,Ze (Zgx HO.out.fr (Nat.le_refl _) HG.out (Zsx G5.out _ _) GG7.out) (by omega),(heap_setCell_other _ _ _ _ (by simp;omega)).trans (Xbp HO.out HT0.out G5.out GG7.out),(heap_setCell_other _ _ _ _ (by simp;omega)).trans (Xbp HO.out HT1.out G5.out GG7.out),Zi B7.out,Ykl HO.out HK.out hbs G5.out O5.out GG7.out O7.out B7.out⟩
     case measure=>simp [intOf];omega
   · have hkn:k=fs.length:=by omega
     subst hkn
     have y0:=Cq _ _ 0 _ _ _ t1
     have y1:=Cq _ _ 1 _ _ _ t1
     have y2:=Cq _ _ 2 _ _ _ t1
     have q0:=frozen_of_row _ _ 0 _ _ t1
     have q1:=frozen_of_row _ _ 1 _ _ t1
     have q2:=frozen_of_row _ _ 2 _ _ t1
     have yl:=(Gs t1)
     have nb:¬ b3=w.heap.size+1:=by omega
     clear hg hbx gw t0 t1 ho htl
     go_wp2
     have OF:=HO.out
     rw [List.take_length] at OF
     refine bodyPost_ret (v := .agg #[.int .i64 mem,.slice pv dl.length cv,.slice pF' fs.length cF']) ?_ rfl ⟨_,_,cw,rfl,Ze (Ze (Ze HG.out (by omega)) (by omega)) (by omega),Zag (mem:=mem) OF HT1.out⟩
     rw [Ym rfl]
     go_simp
theorem Zzn {w w':World} {e:Ending} {S:Int} (h:Zjb w 0 [] [(0,0,1,[(3,S),(18,0)])] e w'):∃ (pD:Option Addr) (cD gF cF gC cC:Nat),e = .returned (.tuple #[.agg #[.int .i64 0,.slice pD 0 cD,.slice (some ⟨gF,0,none⟩) 1 cF],.int .i64 0])/\w.grownBy w' none /\
 w'.cell? ⟨gF,3,none⟩=some (.slice (some ⟨gC,0,none⟩) 2 cC)/\w'.cell? ⟨gC,0,none⟩=some (.int .i64 3)/\w'.cell? ⟨gC,1,none⟩=some (.int .i64 S)/\w.heap.size<=gF/\∃ cv,Zco w' w.heap.size (.slice pD 0 cD) (.slice (some ⟨gF,0,none⟩) 1 cF) [] [(0,0,1,[(3,S),(18,0)])] cv:=by
 obtain ⟨D,F,cv,rfl,g,o⟩:=h
 obtain ⟨pD,pF,cD,cF,rfl,rfl⟩:=Jc o
 obtain ⟨gF,c',e⟩:=Xv (n:=0) o.fr
 injection e with e1 _ _
 subst e1
 have hcl:=o.cl
 obtain ⟨v,rfl⟩:∃ v,cv=[v]:=by
  match cv,hcl with
  | [v],_=>exact ⟨v,rfl⟩
 have ho:=o.each 0 _ v rfl rfl
 obtain ⟨gC,cC,rfl⟩:=Xv (n:=1) ho
 refine ⟨pD,cD,gF,cF,gC,cC,rfl,g,?_,?_,?_,(o.fr.lt gF rfl).1,_,o⟩
 · exact (o.fr.cellAt 3 (by simp)).trans rfl
 · exact (ho.cellAt 0 (by simp)).trans rfl
 · exact (ho.cellAt 1 (by simp)).trans rfl
theorem Ztp {w:World} {bc bf n:Nat} {c:List Ins} (hc:∀ i op a,c[i]? = some (op,a)->w.cell? ⟨bc,i*2,none⟩=some (.int .i64 op)/\w.cell? ⟨bc,i*2+1,none⟩=some (.int .i64 a)) (hb:bc<w.heap.size)
 (hf:w.heap[bf]? = some (.cells #[.int .i64 0,.int .i64 0,.int .i64 1,.slice (some ⟨bc,0,none⟩) c.length n] 52 (0,0))):Yk w w.heap.size (some ⟨bf,0,none⟩) [(0,0,1,c)]:=fun _=>by
 refine ⟨bf,0,rfl,(Gs hf),fun i a l r c' hi => ?_⟩
 match i,hi with
 | 0,hi =>
   injection hi with hi
   injection hi with h1 hi;injection hi with h2 hi;injection hi with h3 h4
   subst h1;subst h2;subst h3;subst h4
   exact ⟨Cq _ _ 0 _ _ _ hf,Cq _ _ 1 _ _ _ hf,Cq _ _ 2 _ _ _ hf,_,_,Cq _ _ 3 _ _ _ hf,fun _=>⟨bc,0,rfl,hb,fun i op a hi=>by
    rw [Nat.zero_add];exact hc i op a hi⟩⟩
theorem Ybg {w:World} {bf n B:Nat} {pc:Option Addr} {c:List Ins} (hc:Ji w B pc c) (hB:bf<B)
 (hf:w.heap[bf]? = some (.cells #[.int .i64 0,.int .i64 0,.int .i64 1,.slice pc c.length n] 52 (0,0))):Yk w B (some ⟨bf,0,none⟩) [(0,0,1,c)]:=fun _=>by
 refine ⟨bf,0,rfl,hB,fun i a l r c' hi => ?_⟩
 match i,hi with
 | 0,hi =>
   injection hi with hi
   injection hi with h1 hi;injection hi with h2 hi;injection hi with h3 h4
   subst h1;subst h2;subst h3;subst h4
   exact ⟨Cq _ _ 0 _ _ _ hf,Cq _ _ 1 _ _ _ hf,Cq _ _ 2 _ _ _ hf,_,_,Cq _ _ 3 _ _ _ hf,hc⟩
theorem Ygy (w:World):Rd w none (([]:List Int).map (Value.int .u8)):=fun h=>absurd rfl h
theorem Zzm:∀ f∈hdF,Zbd f.2.2.2:=fun f hf=>by
 obtain rfl:f=(0,0,1,hdC):=by simpa [hdF] using hf
 intro x hx
 simp [hdC] at hx
 rcases hx with rfl|rfl|rfl|rfl <;> exact ⟨by decide,by decide⟩
theorem Yrz (pF:Option Addr) (cF B:Nat) (w:World) (hBw:B<=w.heap.size) (hF:Yk w B pF hdF) :
 Calls Try.prog 11 #[.agg #[.int .i64 0,.slice none 0 0,.slice pF 1 cF]] w fun e w'=>e = .returned (.tuple #[.agg #[.int .i64 0,.int .i64 0],.int .i64 4,.bool true])/\w.grownBy w' none:=by
 refine (Yml 0 [] hdF none pF 0 cF B w hBw hF (Ygy w) (by simp) (by decide) Zzm).mono ?_
 rintro e w' ⟨g,h⟩
 rcases h with ⟨err,f,n,_,hb⟩|⟨hs,V,ho,hm⟩
 · exact absurd hb (Yxn err f n)
 · rw [Zrg ho] at hm
   exact ⟨hm,g⟩
theorem Yuw (pF:Option Addr) (cF B:Nat) (w:World) (hBw:B<=w.heap.size) (hF:Yk w B pF hdF) :
 Calls Try.prog 6 #[.agg #[.int .i64 0,.slice none 0 0,.slice pF 1 cF]] w (Zjb w 0 [] [(0,0,1,[(3,6),(18,0)])]) :=
 (Yef 0 [] hdF none pF 0 cF B w hBw hF (Ygy w) (by simp) (by decide) Zzm (fun f hf=>by
   obtain rfl:f=(0,0,1,hdC):=by simpa [hdF] using hf
   decide)).mono fun e w' h=>Yxm h
theorem Ymw (w:World):Calls Try.prog 8 #[] w fun e w'=>e = .returned (.bool true)/\w.grownBy w' none:=by
 have GZ:=Xf w (.cells #[.int .i64 3,.int .i64 2,.int .i64 3,.int .i64 3,.int .i64 22,.int .i64 0,.int .i64 18,.int .i64 0] 49) (.cells #[.int .i64 0,.int .i64 0,.int .i64 1,.slice (some ⟨w.heap.size,0,none⟩) 4 4] 52) (.cells #[.int .i64 0,.slice none 0 0,.slice (some ⟨w.heap.size+1,0,none⟩) 1 1] 25)
 have G3:=Hq (Xg w (.cells #[.int .i64 3,.int .i64 2,.int .i64 3,.int .i64 3,.int .i64 22,.int .i64 0,.int .i64 18,.int .i64 0] 49) (.cells #[.int .i64 0,.int .i64 0,.int .i64 1,.slice (some ⟨w.heap.size,0,none⟩) 4 4] 52) (.cells #[.int .i64 0,.slice none 0 0,.slice (some ⟨w.heap.size+1,0,none⟩) 1 1] 25))
 have Z0:=Hq GZ.1
 have Z1:=Hq GZ.2.1
 have Z2:=Hq GZ.2.2
 clear GZ
 go_enter Try.func8,Try.ntmps8
 go_wp2_with fail
 generalize ((w.alloc (.cells #[.int .i64 3,.int .i64 2,.int .i64 3,.int .i64 3,.int .i64 22,.int .i64 0,.int .i64 18,.int .i64 0] 49)).alloc (.cells #[.int .i64 0,.int .i64 0,.int .i64 1,.slice (some ⟨w.heap.size,0,none⟩) 4 4] 52)).alloc (.cells #[.int .i64 0,.slice none 0 0,.slice (some ⟨w.heap.size+1,0,none⟩) 1 1] 25)=w3 at *
 have FB:Yk w3 w3.heap.size (some ⟨w.heap.size+1,0,none⟩) hdF:=Ztp (c:=hdC) (fun i op a hi=>by
  match i,hi with
  | 0,hi=>injection hi with hi;injection hi with h1 h2;subst h1;subst h2;exact ⟨Cq _ _ 0 _ _ _ Z0.out,Cq _ _ 1 _ _ _ Z0.out⟩
  | 1,hi=>injection hi with hi;injection hi with h1 h2;subst h1;subst h2;exact ⟨Cq _ _ 2 _ _ _ Z0.out,Cq _ _ 3 _ _ _ Z0.out⟩
  | 2,hi=>injection hi with hi;injection hi with h1 h2;subst h1;subst h2;exact ⟨Cq _ _ 4 _ _ _ Z0.out,Cq _ _ 5 _ _ _ Z0.out⟩
  | 3,hi=>injection hi with hi;injection hi with h1 h2;subst h1;subst h2;exact ⟨Cq _ _ 6 _ _ _ Z0.out,Cq _ _ 7 _ _ _ Z0.out⟩) (Gs Z0.out) Z1.out
 have FH:=Hq FB
 clear FB
 refine (Yrz _ _ _ w3 (Nat.le_refl _) FH.out).mono ?_
 rintro e w4 ⟨rfl,g4⟩
 have ga:=Za g4 (Ga w4 (.cells #[.int .i64 0,.int .i64 0] 37) none)
 have Y2:=Zb Z2.out ga (by simp)
 have v0:=Cq _ _ 0 _ _ _ Y2
 have v1:=Cq _ _ 1 _ _ _ Y2
 have v2:=Cq _ _ 2 _ _ _ Y2
 have vl:=(Gs Y2)
 have GA:=Hq ga
 have SP:=Hq (heap_alloc_new w4 (.cells #[.int .i64 0,.int .i64 0] 37))
 clear Y2 ga g4
 go_upto_region 3 with fail
 generalize w4.alloc (.cells #[.int .i64 0,.int .i64 0] 37)=w5 at *
 generalize w4.heap.size=b4 at *
 go_wp2_with fail
 refine (Yuw _ _ _ w5 GA.out.size (Zs FH.out GA.out (by simp))).mono ?_
 intro e w6 hp
 obtain ⟨pD,cD,gF,cF,gC,cC,rfl,g6,k3,k0,k1,hgF,-⟩:=Zzn hp
 have gb:=Za g6 (Ga w6 (.cells #[.int .i64 0,.slice pD 0 cD,.slice (some ⟨gF,0,none⟩) 1 cF] 25) none)
 have QB:=heap_alloc_new w6 (.cells #[.int .i64 0,.slice pD 0 cD,.slice (some ⟨gF,0,none⟩) 1 cF] 25)
 have SB:=Zb SP.out gb (by simp)
 have m3:=(Ga w6 (.cells #[.int .i64 0,.slice pD 0 cD,.slice (some ⟨gF,0,none⟩) 1 cF] 25) none).cell k3 (by simp)
 have m0:=(Ga w6 (.cells #[.int .i64 0,.slice pD 0 cD,.slice (some ⟨gF,0,none⟩) 1 cF] 25) none).cell k0 (by simp)
 have m1:=(Ga w6 (.cells #[.int .i64 0,.slice pD 0 cD,.slice (some ⟨gF,0,none⟩) 1 cF] 25) none).cell k1 (by simp)
 have q2:=Cq _ _ 2 _ _ _ QB
 have ql:=(Gs QB)
 have s0:=Cq _ _ 0 _ _ _ SB
 have s1:=Cq _ _ 1 _ _ _ SB
 have sl:=(Gs SB)
 have lm:=World.block_lt_of_cell? _ _ m3
 have lc:=World.block_lt_of_cell? _ _ m0
 have GG:=Hq (Za G3.out (Za GA.out gb))
 clear QB SB k3 k0 k1 gb g6 v0 v1 v2 vl hp
 go_upto_region 4 with fail
 generalize w6.alloc (.cells #[.int .i64 0,.slice pD 0 cD,.slice (some ⟨gF,0,none⟩) 1 cF] 25)=w7 at *
 generalize w6.heap.size=b6 at *
 go_wp2
 go_ret
 exact ⟨rfl,GG.out⟩
theorem Zii {w:World} {b b':Nat} {E E':TypeId} {sz sz' n n':Nat} {v v':Value} {xs xs':List Value} (h:w.ownsRow b E sz v n xs) (h':w.ownsRow b' E' sz' v' n' xs') (hE:E≠E'):v.ownBlock=none\/v.ownBlock≠v'.ownBlock:=by
 cases hv:v.ownBlock with
 | none=>exact Or.inl rfl
 | some q =>
   cases hv':v'.ownBlock with
   | none=>exact Or.inr (by simp)
   | some g =>
     obtain ⟨p,c,rfl⟩:=Zq h'
     have hg:p=some ⟨g,0,none⟩:=by
      rcases h'.2 with ⟨e,_⟩|⟨g',cap,cur,e,_⟩
      · injection e with e _ _;subst e;cases hv'
      · injection e with e _ _
        subst e
        simp only [Value.ownBlock] at hv'
        injection hv' with hv';rw [hv']
     subst hg
     have:=Xr (Ye h (Nat.zero_le _)) (Ye h' (Nat.zero_le _)) hE
     rw [hv] at this
     exact this
theorem Zdw {P:Program} (w:World) (base:Nat) (t ty e:TypeId) (i:TypeInfo) (z:Value) (size bytes:Nat) (ht:P.underlying t=some (.slice e)) (hi:P.info? e=some i) (hz:i.zero=some z)
 (hsize:i.size=size) (hby:i.bytes=bytes) (hzs:z.cells.size=size) (hsz:0<size) (v:Value) (n:Nat) (xs:List Value) (hown:w.ownsRow base e size v n xs)
 (q:Option Addr) (m c:Nat) (news:List Value) (hl:news.length=m*size) (hq:Rd w q news) (h1:∀ u∈news,u.oneCell'=true)
 (h63:n+m<=maxLen) (hbytes:(n+m)*bytes<=140737488355328) (hbase:base<=w.heap.size) :
 ∃ (p':Option Addr) (c':Nat) (w':World),(Builtin.append_ #[t,t] ty #[v,.slice q m c]).run P w = .ok (.slice p' (n+m) c') w'/\w'.ownsRow base e size (.slice p' (n+m) c') (n+m) (xs++news)/\w.grownBy w' v.ownBlock /\
   ((Value.slice p' (n+m) c').ownBlock=v.ownBlock\/∃ g,(Value.slice p' (n+m) c').ownBlock=some g/\w.heap.size<=g):=by
 cases q with
 | some ad =>
   obtain ⟨v',w',h2,h3,h4,_,h6⟩:=run_append_own_at (P:=P) (w:=w) base t ty e i z size bytes ht hi hz hsize hby hzs hsz v n xs hown ad m c news hl (Zgq hq) h1 h63 hbytes hbase
   obtain ⟨p',c',rfl⟩:=Zq h3
   refine ⟨p',c',w',h2,h3,h4,?_⟩
   rcases h6 with h|h
   · exact Or.inl h
   · exact Or.inr ⟨_,h,Nat.le_refl _⟩
 | none =>
   have e0:=Zjk hq
   subst e0
   have hm:m=0:=by
    have h2:m*size=0:=by simpa using hl.symm
    rcases Nat.mul_eq_zero.1 h2 with h3|h3
    · exact h3
    · omega
   subst hm
   obtain ⟨p',c',rfl⟩:=Zq hown
   exact ⟨p',c',w,Zdb (P:=P) (w:=w) base t ty e i size ht hi _ n c xs hown,by rw [List.append_nil];exact hown,by exact Zfi (Zc _ _),Or.inl rfl⟩
theorem Zdj (p:Option Addr) (n m c c':Nat):(Value.slice p n c).ownBlock=(Value.slice p m c').ownBlock:=by cases p <;> rfl
def DtX (w:World) (base:Nat) (D:Value) (dl xd:List Int):Prop:=∃ p c,D = .slice p dl.length c/\w.ownsRow base 5 1 (.slice p (dl.length+xd.length) c) (dl.length+xd.length) ((dl++xd).map (Value.int .u8))
def FrX (w:World) (base:Nat) (F:Value) (fs:List FnP) (cv xf:List Value) (nx:Nat):Prop:=∃ p c,F = .slice p fs.length c/\w.ownsRow base 52 4 (.slice p (fs.length+nx) c) (fs.length+nx) (Xa fs cv++xf)
def CdX (w:World) (base:Nat) (v:Value) (c x:List Ins):Prop:=∃ p k,v = .slice p c.length k/\w.ownsRow base 49 2 (.slice p (c.length+x.length) k) (c.length+x.length) (Zw (c++x))
structure CsX (w:World) (base:Nat) (fs:List FnP) (cv:List Value) (xc:Nat->List Ins) (S:Nat->Prop):Prop where
 cl:cv.length=fs.length
 each:∀ (k:Nat) (f:FnP) (v:Value),S k->fs[k]? = some f->cv[k]? = some v->CdX w base v f.2.2.2 (xc k)
 dis:∀ (k l:Nat) (v v':Value) (b:Nat),k≠l->cv[k]? = some v->cv[l]? = some v'->v.ownBlock=some b->v'.ownBlock≠some b
theorem Zct {w w':World} {base:Nat} {D:Value} {dl xd:List Int} {row:Option Nat} (h:DtX w base D dl xd) (g:w.grownBy w' row) (hr:D.ownBlock=none\/D.ownBlock≠row):DtX w' base D dl xd:=by
 obtain ⟨p,c,rfl,h⟩:=h
 exact ⟨p,c,rfl,h.kept g (by rwa [Zdj p _ (_+_) c c] at hr)⟩
theorem Zfa {w w':World} {base nx:Nat} {F:Value} {fs:List FnP} {cv xf:List Value} {row:Option Nat} (h:FrX w base F fs cv xf nx) (g:w.grownBy w' row) (hr:F.ownBlock=none\/F.ownBlock≠row):FrX w' base F fs cv xf nx:=by
 obtain ⟨p,c,rfl,h⟩:=h
 exact ⟨p,c,rfl,h.kept g (by rwa [Zdj p _ (_+_) c c] at hr)⟩
theorem Ynl {w w':World} {base:Nat} {v:Value} {c x:List Ins} {row:Option Nat} (h:CdX w base v c x) (g:w.grownBy w' row) (hr:v.ownBlock=none\/v.ownBlock≠row):CdX w' base v c x:=by
 obtain ⟨p,k,rfl,h⟩:=h
 exact ⟨p,k,rfl,h.kept g (by rwa [Zdj p _ (_+_) k k] at hr)⟩
theorem Jr {w w':World} {base:Nat} {fs:List FnP} {cv:List Value} {xc:Nat->List Ins} {S:Nat->Prop} {row:Option Nat} (h:CsX w base fs cv xc S) (g:w.grownBy w' row) (hr:∀ k v,S k->cv[k]? = some v->v.ownBlock=none\/v.ownBlock≠row):CsX w' base fs cv xc S :=
 ⟨h.cl,fun k f v hk hf hv=>Ynl (h.each k f v hk hf hv) g (hr k v hk hv),h.dis⟩
section
variable {w w':World} {base b nx sz n:Nat} {E:TypeId} {D F v:Value} {dl xd:List Int} {fs:List FnP} {cv xf xs:List Value} {xc:Nat->List Ins} {S:Nat->Prop} {c x:List Ins}
theorem Zrp (h:DtX w base D dl xd) (ho:w.ownsRow b E sz v n xs) (hE:E≠5):D.ownBlock=none\/D.ownBlock≠v.ownBlock:=by
 obtain ⟨p,c,rfl,h⟩:=h
 rw [Zdj p _ (_+_) c c]
 exact Zii h ho (Ne.symm hE)
theorem Zzp (h:FrX w base F fs cv xf nx) (ho:w.ownsRow b E sz v n xs) (hE:E≠52):F.ownBlock=none\/F.ownBlock≠v.ownBlock:=by
 obtain ⟨p,c,rfl,h⟩:=h
 rw [Zdj p _ (_+_) c c]
 exact Zii h ho (Ne.symm hE)
theorem Ynm {u:Value} (h:CdX w base u c x) (ho:w.ownsRow b E sz v n xs) (hE:E≠49):u.ownBlock=none\/u.ownBlock≠v.ownBlock:=by
 obtain ⟨p,k,rfl,h⟩:=h
 rw [Zdj p _ (_+_) k k]
 exact Zii h ho (Ne.symm hE)
theorem Zrq (h:CsX w base fs cv xc S) (ho:w.ownsRow b E sz v n xs) (hE:E≠49):∀ k u,S k->cv[k]? = some u->u.ownBlock=none\/u.ownBlock≠v.ownBlock:=fun k u hk hu =>
 Ynm (h.each k _ u hk (List.getElem?_eq_getElem (by rw [<- h.cl];exact (List.getElem?_eq_some_iff.1 hu).1)) hu) ho hE
theorem Yia {q:Nat} {cs:Array Value} {t:TypeId} (h:DtX w base D dl xd) (hb:w.heap[q]? = some (.cells cs t (0,0))) (ht:5≠t):D.ownBlock=none\/D.ownBlock≠some q:=by
 obtain ⟨p,c,rfl,h⟩:=h
 rw [Zdj p _ (_+_) c c]
 exact Or.inr (Yd h hb ht)
theorem Yhf {q:Nat} {cs:Array Value} {t:TypeId} (h:FrX w base F fs cv xf nx) (hb:w.heap[q]? = some (.cells cs t (0,0))) (ht:52≠t):F.ownBlock=none\/F.ownBlock≠some q:=by
 obtain ⟨p,c,rfl,h⟩:=h
 rw [Zdj p _ (_+_) c c]
 exact Or.inr (Yd h hb ht)
theorem Zxj {q:Nat} {cs:Array Value} {t:TypeId} (h:CsX w base fs cv xc S) (hb:w.heap[q]? = some (.cells cs t (0,0))) (ht:49≠t):∀ k u,S k->cv[k]? = some u->u.ownBlock=none\/u.ownBlock≠some q:=fun k u hk hu=>by
 obtain ⟨p,c,hu',h⟩:=h.each k _ u hk (List.getElem?_eq_getElem (by rw [<- h.cl];exact (List.getElem?_eq_some_iff.1 hu).1)) hu
 rw [hu',Zdj p _ _ c c]
 exact Or.inr (Yd h hb ht)
end
theorem Zit {w:World} {base nx g c k:Nat} {fs:List FnP} {cv xf:List Value} {f:FnP} {v:Value} (h:FrX w base (.slice (some ⟨g,0,none⟩) fs.length c) fs cv xf nx) (hcl:cv.length=fs.length) (hf:fs[k]? = some f) (hv:cv[k]? = some v) :
 w.cell? ⟨g,k*4+3,none⟩=some v/\w.frozen? ⟨g,k*4+3,none⟩=false/\g<w.heap.size:=by
 obtain ⟨p,c',e,h⟩:=h
 injection e with e1 e2 e3
 subst e1;subst e3
 have hk:=(List.getElem?_eq_some_iff.1 hf).1
 obtain ⟨_,_,_,q3⟩:=Xs fs cv k f v hf hv
 have hl:=Ja fs cv hcl
 refine ⟨?_,Yf h _,(h.lt g rfl).2⟩
 rw [h.cellAt _ (by omega),List.getElem?_append_left (by omega)]
 exact q3
theorem Ysu {w:World} {base nx g c k:Nat} {fs:List FnP} {cv xf:List Value} (h:FrX w base (.slice (some ⟨g,0,none⟩) fs.length c) fs cv xf nx) (hcl:cv.length=fs.length) (hk:k<fs.length) (v:Value) :
 FrX (w.setCell ⟨g,k*4+3,none⟩ v) base (.slice (some ⟨g,0,none⟩) fs.length c) fs (cv.set k v) xf nx:=by
 obtain ⟨p,c',e,h⟩:=h
 injection e with e1 e2 e3
 subst e1;subst e3
 have hl:=Ja fs cv hcl
 have:=(h.stored (k*4+3) v).1
 rw [List.set_append_left _ _ (by omega),Ziu] at this
 exact ⟨_,_,rfl,this⟩
theorem Yst {w:World} {base nx g c:Nat} {fs:List FnP} {cv xf:List Value} (h:FrX w base (.slice (some ⟨g,0,none⟩) fs.length c) fs cv xf nx):w.ownsRow base 52 4 (.slice (some ⟨g,0,none⟩) (fs.length+nx) c) (fs.length+nx) (Xa fs cv++xf):=by
 obtain ⟨p,c',e,h⟩:=h
 injection e with e1 e2 e3
 subst e1;subst e3
 exact h
def xcK (k:Nat) (j:Nat):List Ins:=if j<k then [(-7,0)] else []
theorem Yxt {w:World} {base k:Nat} {fs:List FnP} {cv:List Value} (h:CsX w base fs cv (xcK k) (fun _=>True)):CsX w base fs cv (xcK k) (fun j=>j≠k):=⟨h.cl,fun j f v _ hf hv=>h.each j f v trivial hf hv,h.dis⟩
theorem Yxq {w:World} {base k:Nat} {fs:List FnP} {cv:List Value} {f:FnP} {v:Value} (h:CsX w base fs cv (xcK k) (fun _=>True)) (hf:fs[k]? = some f) (hv:cv[k]? = some v):w.ownsRow base 49 2 v f.2.2.2.length (Zw f.2.2.2):=by
 obtain ⟨p,c,e,h⟩:=h.each k f v trivial hf hv
 unfold xcK at h
 rw [if_neg (Nat.lt_irrefl _)] at h
 simp only [List.length_nil,Nat.add_zero,List.append_nil] at h
 rw [e];exact h
theorem Yxr {w:World} {base k:Nat} {fs:List FnP} {cv:List Value} {f:FnP} {v:Value} (h:CsX w base fs cv (xcK k) (fun j=>j≠k)) (hf:fs[k]? = some f) (hv:CdX w base v f.2.2.2 [(-7,0)]) (hd:∀ j u,j≠k->cv[j]? = some u->u.ownBlock=none\/u.ownBlock≠v.ownBlock):CsX w base fs (cv.set k v) (xcK (k+1)) (fun _=>True):=by
 have hk:=(List.getElem?_eq_some_iff.1 hf).1
 have hkc:k<cv.length:=by rw [h.cl];exact hk
 refine ⟨by rw [List.length_set,h.cl],fun j g u _ hg hu => ?_,fun i j u u' b hij hi hj hb => ?_⟩
 · by_cases e:j=k
   · subst e
     rw [List.getElem?_set_self hkc] at hu
     rw [hf] at hg
     injection hu with hu;injection hg with hg
     subst hu;subst hg
     unfold xcK
     rw [if_pos (Nat.lt_succ_self _)]
     exact hv
   · rw [List.getElem?_set_ne (Ne.symm e)] at hu
     have:=h.each j g u e hg hu
     unfold xcK at this ⊢
     by_cases c:j<k
     · rw [if_pos c] at this;rw [if_pos (by omega)];exact this
     · rw [if_neg c] at this;rw [if_neg (by omega)];exact this
 · by_cases e:i=k
   · subst e
     rw [List.getElem?_set_self hkc] at hi
     rw [List.getElem?_set_ne hij] at hj
     injection hi with hi;subst hi
     intro e2
     rcases hd j u' (Ne.symm hij) hj with h1|h1
     · rw [h1] at e2;cases e2
     · exact h1 (by rw [e2,hb])
   · rw [List.getElem?_set_ne (Ne.symm e)] at hi
     by_cases e2:j=k
     · subst e2
       rw [List.getElem?_set_self hkc] at hj
       injection hj with hj;subst hj
       intro e3
       rcases hd i u e hi with h1|h1
       · rw [h1] at hb;cases hb
       · exact h1 (by rw [e3,hb])
     · rw [List.getElem?_set_ne (Ne.symm e2)] at hj
       exact h.dis i j u u' b hij hi hj hb
theorem Zus {w:World} {base k:Nat} {fs:List FnP} {cv:List Value} {v:Value} (h:CsX w base fs cv (xcK k) (fun j=>j≠k)) (hv:cv[k]? = some v):∀ j u,j≠k->cv[j]? = some u->u.ownBlock=none\/u.ownBlock≠v.ownBlock:=fun j u hj hu=>by
 cases hb:u.ownBlock with
 | none=>exact Or.inl rfl
 | some b=>exact Or.inr fun e=>h.dis j k u v b hj hu hv hb e.symm
theorem Yxs {w:World} {base k:Nat} {fs:List FnP} {cv:List Value} {v v':Value} (h:CsX w base fs cv (xcK k) (fun j=>j≠k)) (hv:cv[k]? = some v) (hl:v'.ownBlock=v.ownBlock\/∃ g,v'.ownBlock=some g/\w.heap.size<=g):∀ j u,j≠k->cv[j]? = some u->u.ownBlock=none\/u.ownBlock≠v'.ownBlock:=fun j u hj hu=>by
 rcases hl with e|⟨g,e,hg⟩
 · rw [e];exact Zus h hv j u hj hu
 · rw [e]
   cases hb:u.ownBlock with
   | none=>exact Or.inl rfl
   | some b =>
     refine Or.inr fun e2 => ?_
     injection e2 with e2
     subst e2
     obtain ⟨p,c,hu',ho⟩:=h.each j _ u hj (List.getElem?_eq_getElem (by rw [<- h.cl];exact (List.getElem?_eq_some_iff.1 hu).1)) hu
     rw [hu',Zdj p _ _ c c] at hb
     have:=(ho.lt b hb).2
     omega
theorem Ysx {w:World} {base:Nat} {fs:List FnP} {cv:List Value} (h:CsX w base fs cv (fun _=>[]) (fun _=>True)):CsX w base fs cv (xcK 0) (fun _=>True):=⟨h.cl,fun k f v hk hf hv=>by unfold xcK;rw [if_neg (Nat.not_lt_zero _)];exact h.each k f v hk hf hv,h.dis⟩
theorem Yoy {w:World} {base:Nat} {fs:List FnP} {cv:List Value} (h:CsX w base fs cv (xcK fs.length) (fun _=>True)):CsX w base fs cv (fun _=>[(-7,0)]) (fun _=>True):=⟨h.cl,fun k f v hk hf hv=>by
 have:=h.each k f v hk hf hv
 unfold xcK at this
 rw [if_pos (List.getElem?_eq_some_iff.1 hf).1] at this
 exact this,h.dis⟩
structure LnB (w0 w:World) (b1 b2 b3:Nat) (mem:Int) (pd pF:Option Addr) (nd cd nF cF:Nat) (D F:Value):Prop where
 g:w0.grownBy w none
 x1:w.heap[b1]? = some (.cells #[.int .i64 mem,.slice pd nd cd,.slice pF nF cF] 25 (0,0))
 x2:w.heap[b2]? = some (.cells #[.int .i64 0,.slice none 0 0,.slice none 0 0] 25 (0,0))
 x3:w.heap[b3]? = some (.cells #[.int .i64 mem,D,F] 25 (0,0))
 n1:b3≠b1
 n2:b3≠b2
 l3:w0.heap.size<=b3
section
variable {w0 w w':World} {b1 b2 b3 nd cd nF cF b n sz:Nat} {mem:Int} {pd pF:Option Addr} {D F v:Value} {E:TypeId} {xs:List Value}
theorem Zek (h:LnB w0 w b1 b2 b3 mem pd pF nd cd nF cF D F) (g:w.grownBy w' none):LnB w0 w' b1 b2 b3 mem pd pF nd cd nF cF D F :=
 ⟨Za h.g g,Zb h.x1 g (by simp),Zb h.x2 g (by simp),Zb h.x3 g (by simp),h.n1,h.n2,h.l3⟩
theorem Zqx (h:LnB w0 w b1 b2 b3 mem pd pF nd cd nF cF D F) (ho:w.ownsRow w0.heap.size E sz v n xs) (hE:E≠25) (g:w.grownBy w' v.ownBlock):LnB w0 w' b1 b2 b3 mem pd pF nd cd nF cF D F:=by
 refine ⟨?_,Zb h.x1 g (Yd ho h.x1 hE),Zb h.x2 g (Yd ho h.x2 hE),Zb h.x3 g (Yd ho h.x3 hE),h.n1,h.n2,h.l3⟩
 cases hv:v.ownBlock with
 | none=>rw [hv] at g;exact Za h.g g
 | some q=>rw [hv] at g;exact Zcs h.g g (ho.lt q hv).1
theorem Ymc (h:LnB w0 w b1 b2 b3 mem pd pF nd cd nF cF D F) (D':Value):LnB w0 (w.setCell ⟨b3,1,none⟩ D') b1 b2 b3 mem pd pF nd cd nF cF D' F :=
 ⟨Ze h.g h.l3,(heap_setCell_other _ _ _ _ (by simp;exact Ne.symm h.n1)).trans h.x1,(heap_setCell_other _ _ _ _ (by simp;exact Ne.symm h.n2)).trans h.x2,Zi h.x3,h.n1,h.n2,h.l3⟩
theorem Ymb (h:LnB w0 w b1 b2 b3 mem pd pF nd cd nF cF D F) (F':Value):LnB w0 (w.setCell ⟨b3,2,none⟩ F') b1 b2 b3 mem pd pF nd cd nF cF D F' :=
 ⟨Ze h.g h.l3,(heap_setCell_other _ _ _ _ (by simp;exact Ne.symm h.n1)).trans h.x1,(heap_setCell_other _ _ _ _ (by simp;exact Ne.symm h.n2)).trans h.x2,Zi h.x3,h.n1,h.n2,h.l3⟩
end
structure Yyh (w:World) (base:Nat) (D F:Value) (dl:List Int) (fs:List FnP) (cv:List Value):Prop where
 d:DtX w base D dl [169]
 f:FrX w base F fs cv [.int .i64 (-7),.int .i64 0,.int .i64 0,.slice none 0 0] 1
 c:CsX w base fs cv (fun _=>[(-7,0)]) (fun _=>True)
theorem Yxu {w:World} {base:Nat} {D F:Value} {dl:List Int} {fs:List FnP} {cv:List Value} (h:Zco w base D F dl fs cv):CsX w base fs cv (fun _=>[]) (fun _=>True) :=
 ⟨h.cl,fun k f v _ hf hv=>by
  have:=h.each k f v hf hv
  obtain ⟨p,c,rfl⟩:=Zq this
  exact ⟨p,c,rfl,by simpa using this⟩,h.dis⟩
def Ynv (w:World) (mem:Int) (dl:List Int) (fs:List FnP) (e:Ending) (w':World):Prop :=
 ∃ D F cv,e = .returned (.agg #[.int .i64 mem,D,F])/\w.grownBy w' none/\Yyh w' w.heap.size D F dl fs cv
end Go.Proofs.Ythlkflagancdfaa.OT
