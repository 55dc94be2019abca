/-
  Part of a proof: contracts of functions and lemmas, each stated by its own theorem. Conditions: as each theorem states.
-/
import Derived.Test.YthlkflagancdfaaMK15
import Derived.Test.YthlkflagancdfaaMK13
import Derived.Test.YthlkflagancdfaaMK18
set_option linter.unusedSimpArgs false
set_option linter.unusedVariables false
set_option maxRecDepth 100000
set_option maxHeartbeats 16000000
namespace Go.Proofs.Ythlkflagancdfaa.CK
open Go.RowKit Go.Great
def Zkx (len:Nat) (op a pl:Int):List Int:=(Yy op a pl).filter fun n=>decide (0<=n) && decide (n<len)
theorem Zyf {L:List Int} {q:Int->Bool} {k:Nat} {n:Int} (h:L[k]? = some n):(L.take (k+1)).filter q=if q n=true then (L.take k).filter q++[n] else (L.take k).filter q:=by
 obtain ⟨hk,e⟩:=List.getElem?_eq_some_iff.1 h
 rw [List.take_succ_eq_append_getElem hk,List.filter_append,e]
 by_cases hq:q n=true
 · rw [if_pos hq];simp [hq]
 · rw [if_neg hq];simp [hq]
theorem Zzx (mem:Int) (vd:Value) (fs:List FnP) (pF:Option Addr) (cF B f at_:Nat) (fn:FnP) (op a:Int) (w:World) (hvd:∃ p n c,vd = .slice p n c) (hB:B<=w.heap.size) (hF:Yl w B pF fs) (hS:Znz fs f at_ fn op a) :
 Calls Try.prog 41 #[.agg #[.int .i64 mem,vd,.slice pF fs.length cF],.agg #[.int .i64 f,.int .i64 at_]] w (Zfp w (Zkx fn.2.2.2.length op a at_)):=by
 obtain ⟨pd,nd,cd,rfl⟩:=hvd
 have g2:=Za (Ga w (.cells #[.int .i64 mem,.slice pd nd cd,.slice pF fs.length cF] 25) none) (Ga _ (.cells #[.int .i64 f,.int .i64 at_] 37) none)
 have I:=Hq (Zva mem (.slice pd nd cd) fs pF cF B f at_ fn op a _ ⟨_,_,_,rfl⟩ (Nat.le_trans hB g2.size) (Zq hF g2 (by simp)) hS)
 obtain ⟨ar,lo,r,c⟩:=fn
 have hf1:=(List.getElem?_eq_some_iff.1 hS.isf).1
 have ha1:=(List.getElem?_eq_some_iff.1 hS.ins).1
 have hnf:=hS.nf
 have hnc:=hS.nc
 simp only [] at ha1 hnc
 obtain ⟨b,o,rfl,hb,hc⟩:=hF (by omega)
 obtain ⟨-,-,-,pc,cc,c3,-⟩:=hc f ar lo r c hS.isf
 have hb2:b<w.heap.size:=by omega
 have q1:(f:Int)<(fs.length:Int):=by omega
 have hci:(c.length:Int)<=4096:=by omega
 have GO:=Hq (fun (W:World)=>Zsi op a at_ W (by omega) (by omega))
 obtain ⟨ii,ii0,ii1,ii2,ii3⟩:=info_parts Zao
 have hb0:=Xc w (.cells #[.int .i64 mem,.slice pd nd cd,.slice (some ⟨b,o,none⟩) fs.length cF] 25) (.cells #[.int .i64 f,.int .i64 at_] 37)
 have hb1:=Yr w (.cells #[.int .i64 mem,.slice pd nd cd,.slice (some ⟨b,o,none⟩) fs.length cF] 25) (.cells #[.int .i64 f,.int .i64 at_] 37)
 have HB0:=Hq hb0
 have HB1:=Hq hb1
 have G2:=Hq g2
 have hLi:((Yy op a at_).length:Int)<=2:=by have:=Zgp op a at_;omega
 simp only []
 unfold Zkx
 clear hc hS hF hb0 hb1 g2
 generalize Yy op a at_=L at *
 go_enter Try.func41,Try.ntmps41
 go_wp2_with (first
  | (go_at_call 64;refine I.out.mono ?_;rintro e w3 ⟨rfl,hg3⟩;have k0:=Zb HB0.out hg3 (by simp);have k1:=Zb HB1.out hg3 (by simp);have K0:=Hq k0;have K1:=Hq k1;have G3:=Hq (Za G2.out hg3);have y1:=Cq _ _ 1 _ _ _ k1;have s1:=(Gs k1);clear k0 k1 hg3)
  | (go_at_call 39;refine (GO.out _).mono ?_;rintro e w4 ⟨v4,rfl,hg4,ho4⟩;obtain ⟨p4,k4,hv4⟩:=Zp ho4;subst hv4;have hgA:=Za (Ga w3 (.cells #[.int .i64 op,.int .i64 a] 49) none) hg4;have HG0:=Hq (Zb K0.out hgA (by simp));have HG1:=Hq (Zb K1.out hgA (by simp));have G4:=Hq (Za G3.out hgA);have O4:=Hq ho4;clear y1 s1 hg4 ho4 hgA))
 replace c3:=G4.out.cell c3 (by simp)
 have hb4:b<w4.heap.size:=by have:=G4.out.size;omega
 clear K0 K1 G3 G2 HB0 HB1 I GO
 go_loopw [7,23] (fun v i wr=>∃ k:Nat,i = .int .i64 k/\k<=L.length/\wr.ownsRow w4.heap.size 3 1 v ((L.take k).filter fun n=>decide (0<=n) && decide (n<(c.length:Int))).length (((L.take k).filter fun n=>decide (0<=n) && decide (n<(c.length:Int))).map (Value.int .i64))/\w4.grownBy wr none) (fun _ i _=>L.length - (intOf i).toNat)
 case atStart=>exact ⟨0,rfl,Nat.zero_le _,World.ownsRow_nil _ _ _ _,Zc _ _⟩
 case round =>
  obtain ⟨k,rfl,hk,hown,hg⟩:=hrel
  obtain ⟨pv,cv,hv⟩:=Zp hown
  subst hv
  have OV:=Hq hown
  have GV:=Hq hg
  by_cases hlt:(k:Int)<(L.length:Int)
  · obtain ⟨n,hn⟩:∃ n,L[k]? = some n:=⟨_,List.getElem?_eq_getElem (by omega)⟩
    obtain ⟨gL,kL,eL,lL,cL⟩:=Zx (O4.out.kept hg (Classical.em _)) (by omega)
    injection eL with eL1 eL2 eL3
    subst eL1
    have cn:=cL k (.int .i64 n) (by rw [List.getElem?_map,hn];rfl) (by omega)
    have k0:=Zb HG0.out hg (by simp)
    have k1:=Zb HG1.out hg (by simp)
    have x2:=Cq _ _ 2 _ _ _ k0
    have y0:=Cq _ _ 0 _ _ _ k1
    have s0:=(Gs k0)
    have s1:=(Gs k1)
    have e3:=hg.cell c3 (by simp)
    have hb5:b<wr.heap.size:=by have:=hg.size;omega
    have HFT:=Hq (Zyf (q:=fun n=>decide (0<=n) && decide (n<(c.length:Int))) hn)
    have hml:(((L.take k).filter fun n=>decide (0<=n) && decide (n<(c.length:Int))).length:Int)<=2:=by
     have h1:=List.length_filter_le (fun n=>decide (0<=n) && decide (n<(c.length:Int))) (L.take k)
     have h2:=List.length_take_le k L
     omega
    clear cL hown hg k0 k1 hn
    generalize (L.take k).filter (fun n=>decide (0<=n) && decide (n<(c.length:Int)))=M at *
    have hc3:M.length+1<=maxLen:=by unfold maxLen;omega
    have hc4:(M.length+1)*8<=140737488355328:=by omega
    by_cases h0:0<=n
    · by_cases h1:n<(c.length:Int)
      · have hq:=HFT.out
        rw [if_pos (by simp [h0,h1])] at hq
        have HQ:=Hq hq
        have hE:w4.heap.size<=(wr.alloc (.cells #[.int .i64 n] 3)).heap.size:=by have:=GV.out.size;simp;omega
        clear hq HFT
        go_wp2_with (at_builtin;refine wpList_append_own_at _ rfl _ _ 32 rfl w4.heap.size 3 ii (.int .i64 0) 1 8 Zbv ii0 ii1 ii2 ii3 rfl (by decide) (.slice pv M.length cv) _ _ rfl (OV.out.alloc _) ⟨wr.heap.size,0,none⟩ 1 1 [.int .i64 n] rfl rfl (Zgl wr _ _) (Zcq _ _) hc3 hc4 hE ?_;intro v3 w5 hown3 hgr3 hnil3 hat3;obtain ⟨p3,k3,hv3⟩:=Zp hown3;subst hv3;have OW3:=Hq hown3;have GR3:=Hq hgr3;clear hown3 hgr3 hnil3 hat3)
        refine ⟨⟨_,_,_,⟨k+1,rfl,by omega,?_,Yw (Za GV.out (Ga _ _ none)) GR3.out fun q hq=>(OV.out.lt q hq).1⟩,rfl,rfl,by go_num⟩,by simp [intOf];omega⟩
        rw [HQ.out,List.length_append,List.map_append]
        exact OW3.out
      · have hq:=HFT.out
        rw [if_neg (by simp;omega)] at hq
        have HQ:=Hq hq
        clear hq HFT
        go_wp2
        refine ⟨⟨k+1,by go_num,by omega,?_,GV.out⟩,by simp [intOf];omega⟩
        rw [HQ.out]
        exact OV.out
    · have hq:=HFT.out
      rw [if_neg (by simp;omega)] at hq
      have HQ:=Hq hq
      clear hq HFT
      go_wp2
      refine ⟨⟨k+1,by go_num,by omega,?_,GV.out⟩,by simp [intOf];omega⟩
      rw [HQ.out]
      exact OV.out
  · have hkn:L.take k=L:=List.take_of_length_le (by omega)
    rw [hkn] at hown ⊢
    have OF:=Hq hown
    clear hown hg OV hkn
    go_wp2
    go_ret
    have:=GV.out.size
    have:=G4.out.size
    exact ⟨_,rfl,Za G4.out GV.out,Zz (base:=w4.heap.size) OF.out (by omega)⟩
theorem Zi {l:List Nat} (h:l.Nodup) (i j:Nat) {x y:Nat} (hi:l[i]? = some x) (hj:l[j]? = some y) (hij:i≠j):x≠y:=by
 obtain ⟨a1,a2⟩:=List.getElem?_eq_some_iff.1 hi
 obtain ⟨b1,b2⟩:=List.getElem?_eq_some_iff.1 hj
 have hp:=List.pairwise_iff_getElem.1 h
 rcases Nat.lt_or_gt_of_ne hij with c|c
 · have:=hp i j a1 b1 c;rw [a2,b2] at this;exact this
 · have:=hp j i b1 a1 c;rw [a2,b2] at this;exact fun e=>this e.symm
structure LA where
 p:Nat
 f:Nat
 h:Nat
 n:Nat
 b:Nat
 o:Nat
 r:Nat
 w:Nat
 m:Nat
 gn:Nat
 gb:Nat
 go:Nat
 gi:Nat
def LA.all (A:LA):List Nat:=[A.p,A.f,A.h,A.n,A.b,A.o,A.r,A.w,A.m,A.gn,A.gb,A.go,A.gi]
structure LC where
 mem:Int
 vd:Value
 vF:Value
 f:Nat
 vh:Value
 n:Nat
structure LS where
 num:List Nat
 back:List Nat
 on:List Bool
 inn:List Bool
 row:List Nat
 way:List (Int × Int)
 met:Nat
def Zex (l:List Nat):List Value:=l.map fun (x:Nat)=>Value.int .i64 (x:Int)
def Bx (w:World) (b:Nat) (t:TypeId) (v:Value):Prop:=w.heap[b]? = some (.cells #[v] t (0,0))
theorem Zw {w:World} {b:Nat} {t:TypeId} {v:Value} (h:Bx w b t v):w.cell? ⟨b,0,none⟩=some v:=Cq _ _ 0 _ _ _ h
theorem Zdi {w:World} {b:Nat} {t:TypeId} {v:Value} (h:Bx w b t v):w.frozen? ⟨b,0,none⟩=false:=frozen_of_row _ _ 0 _ _ h
theorem Zwa {w:World} {b:Nat} {t:TypeId} {v u:Value} (h:Bx w b t v):Bx (w.setCell ⟨b,0,none⟩ u) b t u:=by
 unfold Bx;rw [Zg h];rfl
theorem Zol {P:Nat->Prop} {w w':World} {b:Nat} {t:TypeId} {v:Value} (h:Bx w b t v) (g:Sp P w w') (hp:¬ P b):Bx w' b t v:=by
 unfold Bx;rw [g.block b (Gs h) hp];exact h
structure LpW (w0:World) (R:Nat) (A:LA) (C:LC) (vr vw:Value) (s:LS) (wr:World):Prop where
 gr:w0.grownBy wr none
 nd:A.all.Nodup
 lo:∀ a∈A.all,w0.heap.size<=a
 hi:∀ a∈A.all,a<R
 rs:R<=wr.heap.size
 bp:Yej wr A.p C.mem C.vd C.vF
 bf:Bx wr A.f 3 (.int .i64 C.f)
 bh:Bx wr A.h 32 C.vh
 bn:Bx wr A.n 32 (.slice (some ⟨A.gn,0,none⟩) C.n C.n)
 bb:Bx wr A.b 32 (.slice (some ⟨A.gb,0,none⟩) C.n C.n)
 bo:Bx wr A.o 33 (.slice (some ⟨A.go,0,none⟩) C.n C.n)
 br:Bx wr A.r 32 vr
 bw:Bx wr A.w 88 vw
 bm:Bx wr A.m 3 (.int .i64 (s.met:Int))
 rn:wr.ownsRow w0.heap.size 3 1 (.slice (some ⟨A.gn,0,none⟩) C.n C.n) C.n (Zex s.num)
 rb:wr.ownsRow w0.heap.size 3 1 (.slice (some ⟨A.gb,0,none⟩) C.n C.n) C.n (Zex s.back)
 ro:wr.ownsRow w0.heap.size 4 1 (.slice (some ⟨A.go,0,none⟩) C.n C.n) C.n (s.on.map Value.bool)
 ri:wr.ownsRow w0.heap.size 4 1 (.slice (some ⟨A.gi,0,none⟩) C.n C.n) C.n (s.inn.map Value.bool)
 rr:wr.ownsRow R 3 1 vr s.row.length (Zex s.row)
 rw_:wr.ownsRow R 90 2 vw s.way.length (Yc s.way)
section
variable {w0 wr wr':World} {R:Nat} {A:LA} {C:LC} {vr vw:Value} {s:LS}
structure LpF (P:Nat->Prop) (w0:World) (R:Nat) (A:LA) (C:LC) (vr vw:Value) (s:LS) (wr:World):Prop where
 gr:w0.grownBy wr none
 rs:R<=wr.heap.size
 bp:¬ P A.p->Yej wr A.p C.mem C.vd C.vF
 bf:¬ P A.f->Bx wr A.f 3 (.int .i64 C.f)
 bh:¬ P A.h->Bx wr A.h 32 C.vh
 bn:¬ P A.n->Bx wr A.n 32 (.slice (some ⟨A.gn,0,none⟩) C.n C.n)
 bb:¬ P A.b->Bx wr A.b 32 (.slice (some ⟨A.gb,0,none⟩) C.n C.n)
 bo:¬ P A.o->Bx wr A.o 33 (.slice (some ⟨A.go,0,none⟩) C.n C.n)
 br:¬ P A.r->Bx wr A.r 32 vr
 bw:¬ P A.w->Bx wr A.w 88 vw
 bm:¬ P A.m->Bx wr A.m 3 (.int .i64 (s.met:Int))
 rn:¬ P A.gn->wr.ownsRow w0.heap.size 3 1 (.slice (some ⟨A.gn,0,none⟩) C.n C.n) C.n (Zex s.num)
 rb:¬ P A.gb->wr.ownsRow w0.heap.size 3 1 (.slice (some ⟨A.gb,0,none⟩) C.n C.n) C.n (Zex s.back)
 ro:¬ P A.go->wr.ownsRow w0.heap.size 4 1 (.slice (some ⟨A.go,0,none⟩) C.n C.n) C.n (s.on.map Value.bool)
 ri:¬ P A.gi->wr.ownsRow w0.heap.size 4 1 (.slice (some ⟨A.gi,0,none⟩) C.n C.n) C.n (s.inn.map Value.bool)
 rr:(∀ k,vr.ownBlock=some k->¬ P k)->wr.ownsRow R 3 1 vr s.row.length (Zex s.row)
 rw_:(∀ k,vw.ownBlock=some k->¬ P k)->wr.ownsRow R 90 2 vw s.way.length (Yc s.way)
theorem Zrg {a k:Nat} {P:Nat->Prop} {n c:Nat} (h:¬ P a) (e:(Value.slice (some ⟨a,0,none⟩) n c).ownBlock=some k):¬ P k:=by
 simp only [Value.ownBlock] at e;injection e with e;subst e;exact h
theorem Zmz {P:Nat->Prop} (H:LpW w0 R A C vr vw s wr) (g:Sp P wr wr') (hp:∀ k,k<w0.heap.size->¬ P k):LpF P w0 R A C vr vw s wr' :=
 ⟨Zmi (Yo (Yf (P:=fun _=>False) H.gr (fun _ _ e=>by cases e)) (Yga g fun _ _ h=>h) (fun k hk h=>hp k hk h)) (fun _ _ h=>h),
  Nat.le_trans H.rs g.size,fun h=>by unfold Yej;rw [g.block _ (Gs H.bp) h];exact H.bp,Zol H.bf g,Zol H.bh g,Zol H.bn g,Zol H.bb g,Zol H.bo g,Zol H.br g,Zol H.bw g,Zol H.bm g,
  fun h=>Zdo H.rn g (fun _=>Zrg h),fun h=>Zdo H.rb g (fun _=>Zrg h),fun h=>Zdo H.ro g (fun _=>Zrg h),fun h=>Zdo H.ri g (fun _=>Zrg h),fun h=>Zdo H.rr g h,fun h=>Zdo H.rw_ g h⟩
theorem Ji (H:LpW w0 R A C vr vw s wr) {k:Nat} (h:vr.ownBlock=some k):R<=k/\k<wr.heap.size:=H.rr.lt k h
theorem Yt (H:LpW w0 R A C vr vw s wr) {k:Nat} (h:vw.ownBlock=some k):R<=k/\k<wr.heap.size:=H.rw_.lt k h
theorem Zfr (w:World) (b o:Nat) (v:Value):Sp (fun k=>k=b) w (w.setCell ⟨b,o,none⟩ v):=Yf (Zh w b o v) (fun k _ e=>by injection e with e;exact e.symm)
theorem Zzy (l:List Nat) (i v:Nat):(Zex l).set i (.int .i64 (v:Int))=Zex (l.set i v):=by unfold Zex;rw [List.map_set]
theorem Zhs (l m:List Nat):Zex (l++m)=Zex l++Zex m:=by unfold Zex;rw [List.map_append]
theorem Yht (l:List Nat) (k:Nat):(Zex l).take k=Zex (l.take k):=by unfold Zex;rw [List.map_take]
theorem Zvj:∀ (l:List (Int × Int)) (k:Nat) (a d0 d:Int),l[k]? = some (a,d0)->(Yc l).set (k*2+1) (.int .i64 d)=Yc (l.set k (a,d))
 | [],k,a,d0,d,h=>by simp at h
 | x::r,0,a,d0,d,h=>by simp at h;subst h;simp [Yc]
 | x::r,k+1,a,d0,d,h=>by
   have ih:=Zvj r k a d0 d (by simpa using h)
   have e:(k+1)*2+1=(k*2+1)+1+1:=by omega
   rw [e]
   simp only [Yc,List.set_cons_succ]
   rw [ih]
theorem Zke (l:List (Int × Int)) (k:Nat):(Yc l).take (k*2)=Yc (l.take k):=by
 induction l generalizing k with
 | nil=>simp [Yc]
 | cons x r ih =>
   cases k with
   | zero=>simp [Yc]
   | succ k=>have e:(k+1)*2=k*2+1+1:=by omega
             rw [e];simp [Yc,ih]
theorem Xab (H:LpW w0 R A C vr vw s wr) (m:Nat) (v:Nat) :
 LpW w0 R A C vr vw { s with num:=(s.num.set m v) } (wr.setCell ⟨A.gn,m,none⟩ (.int .i64 (v:Int))):=by
 have F:=Zmz H (Zfr wr A.gn m (.int .i64 (v:Int))) (fun k hk e=>by have:=H.lo A.gn (by simp [LA.all]);omega)
 exact ⟨F.gr,H.nd,H.lo,H.hi,F.rs,F.bp (fun e=>Zi H.nd 0 9 rfl rfl (by decide) e),F.bf (fun e=>Zi H.nd 1 9 rfl rfl (by decide) e),F.bh (fun e=>Zi H.nd 2 9 rfl rfl (by decide) e),F.bn (fun e=>Zi H.nd 3 9 rfl rfl (by decide) e),F.bb (fun e=>Zi H.nd 4 9 rfl rfl (by decide) e),F.bo (fun e=>Zi H.nd 5 9 rfl rfl (by decide) e),F.br (fun e=>Zi H.nd 6 9 rfl rfl (by decide) e),F.bw (fun e=>Zi H.nd 7 9 rfl rfl (by decide) e),F.bm (fun e=>Zi H.nd 8 9 rfl rfl (by decide) e),(by rw [<- Zzy];exact (H.rn.stored m (.int .i64 (v:Int))).1),F.rb (fun e=>Zi H.nd 10 9 rfl rfl (by decide) e),F.ro (fun e=>Zi H.nd 11 9 rfl rfl (by decide) e),F.ri (fun e=>Zi H.nd 12 9 rfl rfl (by decide) e),F.rr (fun k hk e=>by have h1:=Ji H hk;have h2:=H.hi A.gn (by simp [LA.all]);omega),F.rw_ (fun k hk e=>by have h1:=Yt H hk;have h2:=H.hi A.gn (by simp [LA.all]);omega)⟩
theorem Zna (H:LpW w0 R A C vr vw s wr) (m:Nat) (v:Nat) :
 LpW w0 R A C vr vw { s with back:=(s.back.set m v) } (wr.setCell ⟨A.gb,m,none⟩ (.int .i64 (v:Int))):=by
 have F:=Zmz H (Zfr wr A.gb m (.int .i64 (v:Int))) (fun k hk e=>by have:=H.lo A.gb (by simp [LA.all]);omega)
 exact ⟨F.gr,H.nd,H.lo,H.hi,F.rs,F.bp (fun e=>Zi H.nd 0 10 rfl rfl (by decide) e),F.bf (fun e=>Zi H.nd 1 10 rfl rfl (by decide) e),F.bh (fun e=>Zi H.nd 2 10 rfl rfl (by decide) e),F.bn (fun e=>Zi H.nd 3 10 rfl rfl (by decide) e),F.bb (fun e=>Zi H.nd 4 10 rfl rfl (by decide) e),F.bo (fun e=>Zi H.nd 5 10 rfl rfl (by decide) e),F.br (fun e=>Zi H.nd 6 10 rfl rfl (by decide) e),F.bw (fun e=>Zi H.nd 7 10 rfl rfl (by decide) e),F.bm (fun e=>Zi H.nd 8 10 rfl rfl (by decide) e),F.rn (fun e=>Zi H.nd 9 10 rfl rfl (by decide) e),(by rw [<- Zzy];exact (H.rb.stored m (.int .i64 (v:Int))).1),F.ro (fun e=>Zi H.nd 11 10 rfl rfl (by decide) e),F.ri (fun e=>Zi H.nd 12 10 rfl rfl (by decide) e),F.rr (fun k hk e=>by have h1:=Ji H hk;have h2:=H.hi A.gb (by simp [LA.all]);omega),F.rw_ (fun k hk e=>by have h1:=Yt H hk;have h2:=H.hi A.gb (by simp [LA.all]);omega)⟩
theorem Xaa (H:LpW w0 R A C vr vw s wr) (m:Nat) (v:Bool) :
 LpW w0 R A C vr vw { s with on:=(s.on.set m v) } (wr.setCell ⟨A.go,m,none⟩ (.bool v)):=by
 have F:=Zmz H (Zfr wr A.go m (.bool v)) (fun k hk e=>by have:=H.lo A.go (by simp [LA.all]);omega)
 exact ⟨F.gr,H.nd,H.lo,H.hi,F.rs,F.bp (fun e=>Zi H.nd 0 11 rfl rfl (by decide) e),F.bf (fun e=>Zi H.nd 1 11 rfl rfl (by decide) e),F.bh (fun e=>Zi H.nd 2 11 rfl rfl (by decide) e),F.bn (fun e=>Zi H.nd 3 11 rfl rfl (by decide) e),F.bb (fun e=>Zi H.nd 4 11 rfl rfl (by decide) e),F.bo (fun e=>Zi H.nd 5 11 rfl rfl (by decide) e),F.br (fun e=>Zi H.nd 6 11 rfl rfl (by decide) e),F.bw (fun e=>Zi H.nd 7 11 rfl rfl (by decide) e),F.bm (fun e=>Zi H.nd 8 11 rfl rfl (by decide) e),F.rn (fun e=>Zi H.nd 9 11 rfl rfl (by decide) e),F.rb (fun e=>Zi H.nd 10 11 rfl rfl (by decide) e),(by rw [List.map_set];exact (H.ro.stored m (.bool v)).1),F.ri (fun e=>Zi H.nd 12 11 rfl rfl (by decide) e),F.rr (fun k hk e=>by have h1:=Ji H hk;have h2:=H.hi A.go (by simp [LA.all]);omega),F.rw_ (fun k hk e=>by have h1:=Yt H hk;have h2:=H.hi A.go (by simp [LA.all]);omega)⟩
theorem Yrr (H:LpW w0 R A C vr vw s wr) (m:Nat) (v:Bool) :
 LpW w0 R A C vr vw { s with inn:=(s.inn.set m v) } (wr.setCell ⟨A.gi,m,none⟩ (.bool v)):=by
 have F:=Zmz H (Zfr wr A.gi m (.bool v)) (fun k hk e=>by have:=H.lo A.gi (by simp [LA.all]);omega)
 exact ⟨F.gr,H.nd,H.lo,H.hi,F.rs,F.bp (fun e=>Zi H.nd 0 12 rfl rfl (by decide) e),F.bf (fun e=>Zi H.nd 1 12 rfl rfl (by decide) e),F.bh (fun e=>Zi H.nd 2 12 rfl rfl (by decide) e),F.bn (fun e=>Zi H.nd 3 12 rfl rfl (by decide) e),F.bb (fun e=>Zi H.nd 4 12 rfl rfl (by decide) e),F.bo (fun e=>Zi H.nd 5 12 rfl rfl (by decide) e),F.br (fun e=>Zi H.nd 6 12 rfl rfl (by decide) e),F.bw (fun e=>Zi H.nd 7 12 rfl rfl (by decide) e),F.bm (fun e=>Zi H.nd 8 12 rfl rfl (by decide) e),F.rn (fun e=>Zi H.nd 9 12 rfl rfl (by decide) e),F.rb (fun e=>Zi H.nd 10 12 rfl rfl (by decide) e),F.ro (fun e=>Zi H.nd 11 12 rfl rfl (by decide) e),(by rw [List.map_set];exact (H.ri.stored m (.bool v)).1),F.rr (fun k hk e=>by have h1:=Ji H hk;have h2:=H.hi A.gi (by simp [LA.all]);omega),F.rw_ (fun k hk e=>by have h1:=Yt H hk;have h2:=H.hi A.gi (by simp [LA.all]);omega)⟩
theorem Xad (H:LpW w0 R A C vr vw s wr) (v:Nat) :
 LpW w0 R A C vr vw { s with met:=v } (wr.setCell ⟨A.m,0,none⟩ (.int .i64 (v:Int))):=by
 have F:=Zmz H (Zfr wr A.m 0 (.int .i64 (v:Int))) (fun k hk e=>by have:=H.lo A.m (by simp [LA.all]);omega)
 exact ⟨F.gr,H.nd,H.lo,H.hi,F.rs,F.bp (fun e=>Zi H.nd 0 8 rfl rfl (by decide) e),F.bf (fun e=>Zi H.nd 1 8 rfl rfl (by decide) e),F.bh (fun e=>Zi H.nd 2 8 rfl rfl (by decide) e),F.bn (fun e=>Zi H.nd 3 8 rfl rfl (by decide) e),F.bb (fun e=>Zi H.nd 4 8 rfl rfl (by decide) e),F.bo (fun e=>Zi H.nd 5 8 rfl rfl (by decide) e),F.br (fun e=>Zi H.nd 6 8 rfl rfl (by decide) e),F.bw (fun e=>Zi H.nd 7 8 rfl rfl (by decide) e),Zwa H.bm,F.rn (fun e=>Zi H.nd 9 8 rfl rfl (by decide) e),F.rb (fun e=>Zi H.nd 10 8 rfl rfl (by decide) e),F.ro (fun e=>Zi H.nd 11 8 rfl rfl (by decide) e),F.ri (fun e=>Zi H.nd 12 8 rfl rfl (by decide) e),F.rr (fun k hk e=>by have h1:=Ji H hk;have h2:=H.hi A.m (by simp [LA.all]);omega),F.rw_ (fun k hk e=>by have h1:=Yt H hk;have h2:=H.hi A.m (by simp [LA.all]);omega)⟩
theorem Yux (H:LpW w0 R A C vr vw s wr) {g c k:Nat} (hv:vr = .slice (some ⟨g,0,none⟩) s.row.length c) (hk:k<=s.row.length) :
 LpW w0 R A C (.slice (some ⟨g,0,none⟩) k c) vw { s with row:=s.row.take k } (wr.setCell ⟨A.r,0,none⟩ (.slice (some ⟨g,0,none⟩) k c)):=by
 subst hv
 have F:=Zmz H (Zfr wr A.r 0 (.slice (some ⟨g,0,none⟩) k c)) (fun k hk e=>by have:=H.lo A.r (by simp [LA.all]);omega)
 exact ⟨F.gr,H.nd,H.lo,H.hi,F.rs,F.bp (fun e=>Zi H.nd 0 6 rfl rfl (by decide) e),F.bf (fun e=>Zi H.nd 1 6 rfl rfl (by decide) e),F.bh (fun e=>Zi H.nd 2 6 rfl rfl (by decide) e),F.bn (fun e=>Zi H.nd 3 6 rfl rfl (by decide) e),F.bb (fun e=>Zi H.nd 4 6 rfl rfl (by decide) e),F.bo (fun e=>Zi H.nd 5 6 rfl rfl (by decide) e),Zwa H.br,F.bw (fun e=>Zi H.nd 7 6 rfl rfl (by decide) e),F.bm (fun e=>Zi H.nd 8 6 rfl rfl (by decide) e),F.rn (fun e=>Zi H.nd 9 6 rfl rfl (by decide) e),F.rb (fun e=>Zi H.nd 10 6 rfl rfl (by decide) e),F.ro (fun e=>Zi H.nd 11 6 rfl rfl (by decide) e),F.ri (fun e=>Zi H.nd 12 6 rfl rfl (by decide) e),(by simp only [List.length_take,Nat.min_eq_left hk];rw [<- Yht];have:=Zmr (F.rr (fun k hk e=>by have h1:=Ji H hk;have h2:=H.hi A.r (by simp [LA.all]);omega)) hk;rwa [Nat.mul_one] at this),F.rw_ (fun k hk e=>by have h1:=Yt H hk;have h2:=H.hi A.r (by simp [LA.all]);omega)⟩
theorem Zxv (H:LpW w0 R A C vr vw s wr) {g c k:Nat} (hv:vw = .slice (some ⟨g,0,none⟩) s.way.length c) (hk:k<=s.way.length) :
 LpW w0 R A C vr (.slice (some ⟨g,0,none⟩) k c) { s with way:=s.way.take k } (wr.setCell ⟨A.w,0,none⟩ (.slice (some ⟨g,0,none⟩) k c)):=by
 subst hv
 have F:=Zmz H (Zfr wr A.w 0 (.slice (some ⟨g,0,none⟩) k c)) (fun k hk e=>by have:=H.lo A.w (by simp [LA.all]);omega)
 exact ⟨F.gr,H.nd,H.lo,H.hi,F.rs,F.bp (fun e=>Zi H.nd 0 7 rfl rfl (by decide) e),F.bf (fun e=>Zi H.nd 1 7 rfl rfl (by decide) e),F.bh (fun e=>Zi H.nd 2 7 rfl rfl (by decide) e),F.bn (fun e=>Zi H.nd 3 7 rfl rfl (by decide) e),F.bb (fun e=>Zi H.nd 4 7 rfl rfl (by decide) e),F.bo (fun e=>Zi H.nd 5 7 rfl rfl (by decide) e),F.br (fun e=>Zi H.nd 6 7 rfl rfl (by decide) e),Zwa H.bw,F.bm (fun e=>Zi H.nd 8 7 rfl rfl (by decide) e),F.rn (fun e=>Zi H.nd 9 7 rfl rfl (by decide) e),F.rb (fun e=>Zi H.nd 10 7 rfl rfl (by decide) e),F.ro (fun e=>Zi H.nd 11 7 rfl rfl (by decide) e),F.ri (fun e=>Zi H.nd 12 7 rfl rfl (by decide) e),F.rr (fun k hk e=>by have h1:=Ji H hk;have h2:=H.hi A.w (by simp [LA.all]);omega),(by simp only [List.length_take,Nat.min_eq_left hk];rw [<- Zke];exact Zmr (F.rw_ (fun k hk e=>by have h1:=Yt H hk;have h2:=H.hi A.w (by simp [LA.all]);omega)) hk)⟩
theorem Zrs (H:LpW w0 R A C vr vw s wr) {g c k:Nat} {a d0:Int} (d:Int) (hv:vw = .slice (some ⟨g,0,none⟩) s.way.length c) (hk:s.way[k]? = some (a,d0)) :
 LpW w0 R A C vr vw { s with way:=s.way.set k (a,d) } (wr.setCell ⟨g,k*2+1,none⟩ (.int .i64 d)):=by
 subst hv
 have F:=Zmz H (Zfr wr g (k*2+1) (.int .i64 d)) (fun k hk e=>by have h1:=Yt H (k:=g) rfl;have h2:=H.lo A.p (by simp [LA.all]);have h3:=H.hi A.p (by simp [LA.all]);omega)
 exact ⟨F.gr,H.nd,H.lo,H.hi,F.rs,F.bp (fun e=>by have h1:=Yt H (k:=g) rfl;have h2:=H.hi A.p (by simp [LA.all]);omega),F.bf (fun e=>by have h1:=Yt H (k:=g) rfl;have h2:=H.hi A.f (by simp [LA.all]);omega),F.bh (fun e=>by have h1:=Yt H (k:=g) rfl;have h2:=H.hi A.h (by simp [LA.all]);omega),F.bn (fun e=>by have h1:=Yt H (k:=g) rfl;have h2:=H.hi A.n (by simp [LA.all]);omega),F.bb (fun e=>by have h1:=Yt H (k:=g) rfl;have h2:=H.hi A.b (by simp [LA.all]);omega),F.bo (fun e=>by have h1:=Yt H (k:=g) rfl;have h2:=H.hi A.o (by simp [LA.all]);omega),F.br (fun e=>by have h1:=Yt H (k:=g) rfl;have h2:=H.hi A.r (by simp [LA.all]);omega),F.bw (fun e=>by have h1:=Yt H (k:=g) rfl;have h2:=H.hi A.w (by simp [LA.all]);omega),F.bm (fun e=>by have h1:=Yt H (k:=g) rfl;have h2:=H.hi A.m (by simp [LA.all]);omega),F.rn (fun e=>by have h1:=Yt H (k:=g) rfl;have h2:=H.hi A.gn (by simp [LA.all]);omega),F.rb (fun e=>by have h1:=Yt H (k:=g) rfl;have h2:=H.hi A.gb (by simp [LA.all]);omega),F.ro (fun e=>by have h1:=Yt H (k:=g) rfl;have h2:=H.hi A.go (by simp [LA.all]);omega),F.ri (fun e=>by have h1:=Yt H (k:=g) rfl;have h2:=H.hi A.gi (by simp [LA.all]);omega),F.rr (fun k hk e=>Yz H.rw_ H.rr (by decide) (k:=g) rfl (e ▸ hk)),(by simp only [List.length_set];rw [<- Zvj _ _ _ _ _ hk];exact (H.rw_.stored (k*2+1) (.int .i64 d)).1)⟩
theorem Xg (H:LpW w0 R A C vr vw s wr) (g:wr.grownBy wr' none) :
 LpW w0 R A C vr vw s wr':=by
 have F:=Zmz H (Yf (P:=fun _=>False) g (fun _ _ e=>by cases e)) (fun _ _ e=>e)
 exact ⟨F.gr,H.nd,H.lo,H.hi,F.rs,F.bp (fun e=>e),F.bf (fun e=>e),F.bh (fun e=>e),F.bn (fun e=>e),F.bb (fun e=>e),F.bo (fun e=>e),F.br (fun e=>e),F.bw (fun e=>e),F.bm (fun e=>e),F.rn (fun e=>e),F.rb (fun e=>e),F.ro (fun e=>e),F.ri (fun e=>e),F.rr (fun k hk e=>e),F.rw_ (fun k hk e=>e)⟩
theorem Yzz (H:LpW w0 R A C vr vw s wr) {m:Nat} {w5:World} {vr':Value} (ho:w5.ownsRow R 3 1 vr' (s.row.length+1) (Zex s.row++[.int .i64 (m:Int)])) (hg:(wr.alloc (.cells #[.int .i64 (m:Int)] 3)).grownBy w5 vr.ownBlock) :
 LpW w0 R A C vr' vw { s with row:=s.row++[m] } (w5.setCell ⟨A.r,0,none⟩ vr'):=by
 have hsp:Sp (fun k=>k=A.r\/vr.ownBlock=some k) wr (w5.setCell ⟨A.r,0,none⟩ vr'):=Yo (Yo (Yf (Ga wr _ none) (fun _ _ e=>by cases e)) (Yf (P:=fun k=>k=A.r\/vr.ownBlock=some k) hg (fun k _ e=>Or.inr e)) (fun k _ h=>h)) (Zfr w5 A.r 0 vr') (fun k _ h=>Or.inl h)
 have hbx:Bx w5 A.r 32 vr:=Zol (P:=fun k=>vr.ownBlock=some k) H.br (Yo (Yf (P:=fun k=>vr.ownBlock=some k) (Ga wr _ none) (fun _ _ e=>by cases e)) (Yf (P:=fun k=>vr.ownBlock=some k) hg (fun k _ e=>e)) (fun k _ h=>h)) (fun e=>by have h1:=Ji H e;have h2:=H.hi A.r (by simp [LA.all]);omega)
 have F:=Zmz H hsp (fun k hk e=>e.elim (fun e=>by have:=H.lo A.r (by simp [LA.all]);omega) (fun e=>by have h1:=Ji H e;have h2:=H.lo A.p (by simp [LA.all]);have h3:=H.hi A.p (by simp [LA.all]);omega))
 exact ⟨F.gr,H.nd,H.lo,H.hi,F.rs,F.bp (fun e=>e.elim (Zi H.nd 0 6 rfl rfl (by decide)) (fun e=>by have h1:=Ji H e;have h2:=H.hi A.p (by simp [LA.all]);omega)),F.bf (fun e=>e.elim (Zi H.nd 1 6 rfl rfl (by decide)) (fun e=>by have h1:=Ji H e;have h2:=H.hi A.f (by simp [LA.all]);omega)),F.bh (fun e=>e.elim (Zi H.nd 2 6 rfl rfl (by decide)) (fun e=>by have h1:=Ji H e;have h2:=H.hi A.h (by simp [LA.all]);omega)),F.bn (fun e=>e.elim (Zi H.nd 3 6 rfl rfl (by decide)) (fun e=>by have h1:=Ji H e;have h2:=H.hi A.n (by simp [LA.all]);omega)),F.bb (fun e=>e.elim (Zi H.nd 4 6 rfl rfl (by decide)) (fun e=>by have h1:=Ji H e;have h2:=H.hi A.b (by simp [LA.all]);omega)),F.bo (fun e=>e.elim (Zi H.nd 5 6 rfl rfl (by decide)) (fun e=>by have h1:=Ji H e;have h2:=H.hi A.o (by simp [LA.all]);omega)),Zwa hbx,F.bw (fun e=>e.elim (Zi H.nd 7 6 rfl rfl (by decide)) (fun e=>by have h1:=Ji H e;have h2:=H.hi A.w (by simp [LA.all]);omega)),F.bm (fun e=>e.elim (Zi H.nd 8 6 rfl rfl (by decide)) (fun e=>by have h1:=Ji H e;have h2:=H.hi A.m (by simp [LA.all]);omega)),F.rn (fun e=>e.elim (Zi H.nd 9 6 rfl rfl (by decide)) (fun e=>by have h1:=Ji H e;have h2:=H.hi A.gn (by simp [LA.all]);omega)),F.rb (fun e=>e.elim (Zi H.nd 10 6 rfl rfl (by decide)) (fun e=>by have h1:=Ji H e;have h2:=H.hi A.gb (by simp [LA.all]);omega)),F.ro (fun e=>e.elim (Zi H.nd 11 6 rfl rfl (by decide)) (fun e=>by have h1:=Ji H e;have h2:=H.hi A.go (by simp [LA.all]);omega)),F.ri (fun e=>e.elim (Zi H.nd 12 6 rfl rfl (by decide)) (fun e=>by have h1:=Ji H e;have h2:=H.hi A.gi (by simp [LA.all]);omega)),(by rw [List.length_append,Zhs];exact Zdx ho (H.hi A.r (by simp [LA.all]))),F.rw_ (fun k hk e=>e.elim (fun e=>by have h1:=Yt H hk;have h2:=H.hi A.r (by simp [LA.all]);omega) (fun e=>Yz H.rw_ H.rr (by decide) hk e))⟩
theorem Yzy (H:LpW w0 R A C vr vw s wr) {m:Nat} {w5:World} {vw':Value} (ho:w5.ownsRow R 90 2 vw' (s.way.length+1) (Yc s.way++[.int .i64 (m:Int),.int .i64 0])) (hg:(wr.alloc (.cells #[.int .i64 (m:Int),.int .i64 0] 90)).grownBy w5 vw.ownBlock) :
 LpW w0 R A C vr vw' { s with way:=s.way++[((m:Int),0)] } (w5.setCell ⟨A.w,0,none⟩ vw'):=by
 have hsp:Sp (fun k=>k=A.w\/vw.ownBlock=some k) wr (w5.setCell ⟨A.w,0,none⟩ vw'):=Yo (Yo (Yf (Ga wr _ none) (fun _ _ e=>by cases e)) (Yf (P:=fun k=>k=A.w\/vw.ownBlock=some k) hg (fun k _ e=>Or.inr e)) (fun k _ h=>h)) (Zfr w5 A.w 0 vw') (fun k _ h=>Or.inl h)
 have hbx:Bx w5 A.w 88 vw:=Zol (P:=fun k=>vw.ownBlock=some k) H.bw (Yo (Yf (P:=fun k=>vw.ownBlock=some k) (Ga wr _ none) (fun _ _ e=>by cases e)) (Yf (P:=fun k=>vw.ownBlock=some k) hg (fun k _ e=>e)) (fun k _ h=>h)) (fun e=>by have h1:=Yt H e;have h2:=H.hi A.w (by simp [LA.all]);omega)
 have F:=Zmz H hsp (fun k hk e=>e.elim (fun e=>by have:=H.lo A.w (by simp [LA.all]);omega) (fun e=>by have h1:=Yt H e;have h2:=H.lo A.p (by simp [LA.all]);have h3:=H.hi A.p (by simp [LA.all]);omega))
 exact ⟨F.gr,H.nd,H.lo,H.hi,F.rs,F.bp (fun e=>e.elim (Zi H.nd 0 7 rfl rfl (by decide)) (fun e=>by have h1:=Yt H e;have h2:=H.hi A.p (by simp [LA.all]);omega)),F.bf (fun e=>e.elim (Zi H.nd 1 7 rfl rfl (by decide)) (fun e=>by have h1:=Yt H e;have h2:=H.hi A.f (by simp [LA.all]);omega)),F.bh (fun e=>e.elim (Zi H.nd 2 7 rfl rfl (by decide)) (fun e=>by have h1:=Yt H e;have h2:=H.hi A.h (by simp [LA.all]);omega)),F.bn (fun e=>e.elim (Zi H.nd 3 7 rfl rfl (by decide)) (fun e=>by have h1:=Yt H e;have h2:=H.hi A.n (by simp [LA.all]);omega)),F.bb (fun e=>e.elim (Zi H.nd 4 7 rfl rfl (by decide)) (fun e=>by have h1:=Yt H e;have h2:=H.hi A.b (by simp [LA.all]);omega)),F.bo (fun e=>e.elim (Zi H.nd 5 7 rfl rfl (by decide)) (fun e=>by have h1:=Yt H e;have h2:=H.hi A.o (by simp [LA.all]);omega)),F.br (fun e=>e.elim (Zi H.nd 6 7 rfl rfl (by decide)) (fun e=>by have h1:=Yt H e;have h2:=H.hi A.r (by simp [LA.all]);omega)),Zwa hbx,F.bm (fun e=>e.elim (Zi H.nd 8 7 rfl rfl (by decide)) (fun e=>by have h1:=Yt H e;have h2:=H.hi A.m (by simp [LA.all]);omega)),F.rn (fun e=>e.elim (Zi H.nd 9 7 rfl rfl (by decide)) (fun e=>by have h1:=Yt H e;have h2:=H.hi A.gn (by simp [LA.all]);omega)),F.rb (fun e=>e.elim (Zi H.nd 10 7 rfl rfl (by decide)) (fun e=>by have h1:=Yt H e;have h2:=H.hi A.gb (by simp [LA.all]);omega)),F.ro (fun e=>e.elim (Zi H.nd 11 7 rfl rfl (by decide)) (fun e=>by have h1:=Yt H e;have h2:=H.hi A.go (by simp [LA.all]);omega)),F.ri (fun e=>e.elim (Zi H.nd 12 7 rfl rfl (by decide)) (fun e=>by have h1:=Yt H e;have h2:=H.hi A.gi (by simp [LA.all]);omega)),F.rr (fun k hk e=>e.elim (fun e=>by have h1:=Ji H hk;have h2:=H.hi A.w (by simp [LA.all]);omega) (fun e=>Yz H.rr H.rw_ (by decide) hk e)),(by rw [List.length_append,Jv];exact Zdx ho (H.hi A.w (by simp [LA.all])))⟩
theorem Zux (H:LpW w0 R A C vr vw s wr) (k:Nat) (hk:k<C.n):wr.cell? ⟨A.gn,k,none⟩=some (.int .i64 (s.num.getD k 0:Nat))/\wr.frozen? ⟨A.gn,k,none⟩=false:=by
 have hl:s.num.length=C.n:=by have:=H.rn.1;simpa [Zex] using this
 refine ⟨?_,H.rn.frozenAt k⟩
 rw [H.rn.cellAt k (by omega),Zex,List.getElem?_map,List.getD_eq_getElem?_getD,List.getElem?_eq_getElem (by omega:k<s.num.length)]
 rfl
theorem Zky (H:LpW w0 R A C vr vw s wr) (k:Nat) (hk:k<C.n):wr.cell? ⟨A.gb,k,none⟩=some (.int .i64 (s.back.getD k 0:Nat))/\wr.frozen? ⟨A.gb,k,none⟩=false:=by
 have hl:s.back.length=C.n:=by have:=H.rb.1;simpa [Zex] using this
 refine ⟨?_,H.rb.frozenAt k⟩
 rw [H.rb.cellAt k (by omega),Zex,List.getElem?_map,List.getD_eq_getElem?_getD,List.getElem?_eq_getElem (by omega:k<s.back.length)]
 rfl
theorem Ycw (H:LpW w0 R A C vr vw s wr) (k:Nat) (hk:k<C.n):wr.cell? ⟨A.go,k,none⟩=some (.bool (s.on.getD k false))/\wr.frozen? ⟨A.go,k,none⟩=false:=by
 have hl:s.on.length=C.n:=by have:=H.ro.1;simpa using this
 refine ⟨?_,H.ro.frozenAt k⟩
 rw [H.ro.cellAt k (by omega),List.getElem?_map,List.getD_eq_getElem?_getD,List.getElem?_eq_getElem (by omega:k<s.on.length)]
 rfl
theorem Ypa (H:LpW w0 R A C vr vw s wr) (k:Nat) (hk:k<C.n):wr.cell? ⟨A.gi,k,none⟩=some (.bool (s.inn.getD k false))/\wr.frozen? ⟨A.gi,k,none⟩=false:=by
 have hl:s.inn.length=C.n:=by have:=H.ri.1;simpa using this
 refine ⟨?_,H.ri.frozenAt k⟩
 rw [H.ri.cellAt k (by omega),List.getElem?_map,List.getD_eq_getElem?_getD,List.getElem?_eq_getElem (by omega:k<s.inn.length)]
 rfl
theorem Yuz (H:LpW w0 R A C vr vw s wr):s.num.length=C.n/\s.back.length=C.n/\s.on.length=C.n/\s.inn.length=C.n:=by
 have h1:=H.rn.1
 have h2:=H.rb.1
 have h3:=H.ro.1
 have h4:=H.ri.1
 simp [Zex] at h1 h2 h3 h4
 exact ⟨h1,h2,h3,h4⟩
end
theorem Yea {P:Program} {w:World} {base:Nat} {t ty e:TypeId} {i:TypeInfo} {z:Value} {size bytes:Nat} (ht:P.underlying t=some (.slice e)) (hi:P.info? e=some i) (hz:i.zero=some z)
 (hsize:i.size=size) (hby:i.bytes=bytes) {g n cap:Nat} {xs:List Value} (hown:w.ownsRow base e size (.slice (some ⟨g,0,none⟩) n cap) n xs)
 {a:Addr} {m c:Nat} {news:List Value} (hl:news.length=m*size) (hnews:∀ j u,news[j]? = some u->w.cell? (a.add j)=some u) (h1:∀ u∈news,u.oneCell'=true)
 (h63:n+m<=maxLen) (hbytes:(n+m)*bytes<=140737488355328) {v':Value} {w':World}
 (hr:(Builtin.append_ #[t,t] ty #[.slice (some ⟨g,0,none⟩) n cap,.slice (some a) m c]).run P w = .ok v' w'):v'.ownBlock=some g\/w.grownBy w' none:=by
 subst hsize
 subst hby
 have hsmall:n+m<=9223372036854775807:=by simp only [maxLen] at h63;omega
 have holds:=hown.cells (g:=g) rfl
 have hlen:=hown.1
 rcases hown.2 with ⟨h0,_⟩|⟨g',cap',cur,hv,_,hg,hnc,hcm,hcs,htake⟩
 · cases h0
 · injection hv with e1 e2 e3
   injection e1 with e1
   injection e1 with e1
   subst e1 e3
   by_cases hroom:n+m<=cap
   · have hfit:n*i.size+news.length<=cur.size:=by rw [hl,hcs,<- Nat.add_mul];exact Nat.mul_le_mul_right _ hroom
     rw [run_append_room (P:=P) w t ty e i ht hi g n cap cur hg a m c news hl hnews h1 hroom hfit] at hr
     injection hr with hr
     left;rw [<- hr];rfl
   · rw [run_append_grow (P:=P) w t ty e i z ht hi hz ⟨g,0,none⟩ n cap xs hlen holds a m c news hl hnews (by omega) (by omega) (growslice_fits (by omega) hbytes)] at hr
     injection hr with _ hr
     right
     rw [<- hr]
     exact ⟨rfl,rfl,rfl,by simp,fun k hk _=>heap_alloc_old w.drew _ hk⟩
def nxE (hv:Int) (len:Nat) (op a pl:Int):List Int:=if hv<0 then [] else Zkx len op a pl
theorem Yum (mem:Int) (vd:Value) (fs:List FnP) (pF:Option Addr) (cF B f at_:Nat) (fn:FnP) (op a hv:Int) (w:World) (ph bp bf bh gh nh ch:Nat) (hvd:∃ p n c,vd = .slice p n c) (hB:B<=w.heap.size) (hF:Yl w B pF fs) (hS:Znz fs f at_ fn op a)
 (p0:Yej w bp mem vd (.slice pF fs.length cF)) (f0:Bx w bf 3 (.int .i64 f)) (h0:Bx w bh 32 (.slice (some ⟨gh,ph,none⟩) nh ch)) (hn:at_<nh) (hc:w.cell? ⟨gh,ph+at_,none⟩=some (.int .i64 hv)) :
 Calls Try.prog 40 #[.int .i64 at_,.pointer (some ⟨bh,0,none⟩),.pointer (some ⟨bp,0,none⟩),.pointer (some ⟨bf,0,none⟩)] w (Zfp w (nxE hv fn.2.2.2.length op a at_)):=by
 have NX:=Hq (Zzx mem vd fs pF cF B f at_ fn op a w hvd hB hF hS)
 obtain ⟨pd,nd,cd,rfl⟩:=hvd
 have x0:=Cq _ _ 0 _ _ _ p0
 have x1:=Cq _ _ 1 _ _ _ p0
 have x2:=Cq _ _ 2 _ _ _ p0
 have y0:=Zw f0
 have z0:=Zw h0
 have s1:=World.block_lt_of_cell? _ _ hc
 have s2:=(Gs p0)
 have s3:=(Gs f0)
 have s4:=(Gs h0)
 have q1:(at_:Int)<(nh:Int):=by omega
 unfold nxE
 clear hS hF p0 f0 h0
 generalize Zkx fn.2.2.2.length op a at_=L at *
 by_cases hv0:hv<0
 · rw [if_pos hv0]
   go_enter Try.func40,Try.ntmps40
   go_wp2
   go_ret
   exact ⟨_,rfl,Zc _ _,World.ownsRow_nil _ _ _ _⟩
 · rw [if_neg hv0]
   go_enter Try.func40,Try.ntmps40
   go_wp2_with (go_at_call 41;refine NX.out.mono ?_;rintro e w3 ⟨v,rfl,hg,ho⟩)
   go_ret
   exact ⟨_,rfl,hg,ho⟩
theorem Zwu (w:World) (b o:Nat) (u0 x y:Value) (t:TypeId):∀ j u,[x,y][j]? = some u->((w.setCell ⟨b,o,none⟩ u0).alloc (.cells #[x,y] t)).cell? ((⟨w.heap.size,0,none⟩:Addr).add j)=some u:=by
 have h:=Zwv (w.setCell ⟨b,o,none⟩ u0) x y t
 rw [World.size_setCell] at h
 exact h
section
variable {P:Program} {w:World}
theorem Zjr {ops:Array Oper} {rest:List Oper} {o:Oper} {a:Act} {Q:Exit->Act->World->Prop} (hgd:o.guard=none) (s x:Operand) (t:TypeId)
 (ho:o.op = .call { callee := .builtin .append,args := #[s,x],argTypes := #[t,t] })
 (base:Nat) (e:TypeId) (i:TypeInfo) (z:Value) (size bytes:Nat) (ht:P.underlying t=some (.slice e)) (hi:P.info? e=some i) (hz:i.zero=some z)
 (hsize:i.size=size) (hby:i.bytes=bytes) (hzs:z.cells.size=size) (hsz:0<size)
 (v:Value) (n:Nat) (xs:List Value) (hs:a.eval s=v) (hown:w.ownsRow base e size v n xs)
 (ad:Addr) (m c:Nat) (news:List Value) (hx:a.eval x = .slice (some ad) m c) (hl:news.length=m*size) (hnews:∀ j u,news[j]? = some u->w.cell? (ad.add j)=some u) (h1:∀ u∈news,u.oneCell'=true)
 (h63:n+m<=maxLen) (hbytes:(n+m)*bytes<=140737488355328) (hbase:base<=w.heap.size)
 (h:∀ v' w',w'.ownsRow base e size v' (n+m) (xs++news)->w.grownBy w' v.ownBlock->(∀ g,v.ownBlock=some g->∀ j u,j<n*size->w.cell? ⟨g,j,none⟩=some u->w'.cell? ⟨g,j,none⟩=some u)->wpList P ops Q rest (a.put o.dst v') w') :
 wpList P ops Q (o::rest) a w:=by
 refine wpList_plain hgd fun K hK => ?_
 obtain ⟨v',w',hr,h2,h3,h4,h5⟩:=run_append_own_at (P:=P) w base t o.type e i z size bytes ht hi hz hsize hby hzs hsz v n xs hown ad m c news hl hnews h1 h63 hbytes hbase
 unfold Oper.wp execOp
 simp only [ho,resolve,invoke,builtin,Sem.run_bind,Sem.run_pure,Result.andThen_ok,List.map_toArray,List.map_cons,List.map_nil,hs,hx,hr]
 refine hK _ _ (h v' w' h2 h3 ?_)
 intro g hg j u hj hc
 rcases hown.2 with ⟨e1,_⟩|⟨g',cap',cur,hv,_⟩
 · rw [e1] at hg;cases hg
 · subst hv
   have e2:g'=g:=by simpa [Value.ownBlock] using hg
   subst e2
   rcases Yea (P:=P) ht hi hz hsize hby hown hl hnews h1 h63 hbytes hr with h6|h6
   · obtain ⟨k,hk⟩:∃ k,n+m=k+1:=⟨n+m - 1,by
      have:0<n:=by rcases Nat.eq_zero_or_pos n with e|e
                   · subst e;omega
                   · exact e
      omega⟩
     rw [hk] at h2
     obtain ⟨g2,c2,e3⟩:=Zan h2
     subst e3
     have e4:g2=g':=by simpa [Value.ownBlock] using h6
     subst e4
     have hl2:=hown.1
     have hjn:j<n*size:=hj
     have hle:n*size<=(k+1)*size:=Nat.mul_le_mul_right _ (by omega)
     rw [h2.cellAt j (by omega),List.getElem?_append_left (by omega),<- hown.cellAt j hj]
     exact hc
   · exact h6.cell hc (by simp)
end
def Yaz (s:LS) (m:Nat):LS:={ s with num:=s.num.set m (s.met+1),back:=s.back.set m (s.met+1),on:=s.on.set m true,row:=s.row++[m],way:=s.way++[((m:Int),0)],met:=s.met+1 }
def Zhl (w w':World) (vw:Value) (n:Nat):Prop:=∀ g,vw.ownBlock=some g->∀ j u,j<n*2->w.cell? ⟨g,j,none⟩=some u->w'.cell? ⟨g,j,none⟩=some u
theorem Zxo (w:World) (vw:Value) (n:Nat):Zhl w w vw n:=fun _ _ _ _ _ h=>h
theorem Zcw {w w1:World} {vw:Value} {n b o:Nat} {v:Value} (h:Zhl w w1 vw n) (hb:∀ g,vw.ownBlock=some g->g≠b):Zhl w (w1.setCell ⟨b,o,none⟩ v) vw n:=fun g hg j u hj hc =>
 (Zh w1 b o v).cell (h g hg j u hj hc) (by intro e;injection e with e;exact hb g hg e)
theorem Zkm {w w1 w2:World} {vw:Value} {n:Nat} (h:Zhl w w1 vw n) (g:w1.grownBy w2 none):Zhl w w2 vw n:=fun k hk j u hj hc=>g.cell (h k hk j u hj hc) (by simp)
theorem Ycr {w w1 w2:World} {vw:Value} {n:Nat} {r:Option Nat} (h:Zhl w w1 vw n) (g:w1.grownBy w2 r) (hr:∀ k,vw.ownBlock=some k->r≠some k):Zhl w w2 vw n:=fun k hk j u hj hc=>g.cell (h k hk j u hj hc) (fun e=>hr k hk e.symm)
theorem Ycs {w w1 w2:World} {vw:Value} {n:Nat} (h:Zhl w w1 vw n) (g:∀ k,vw.ownBlock=some k->∀ j u,j<n*2->w1.cell? ⟨k,j,none⟩=some u->w2.cell? ⟨k,j,none⟩=some u):Zhl w w2 vw n:=fun k hk j u hj hc=>g k hk j u hj (h k hk j u hj hc)
theorem Zpj {w0 w:World} {R:Nat} {A:LA} {C:LC} {vr vw:Value} {s:LS} (H:LpW w0 R A C vr vw s w) {b:Nat} (hb:b∈A.all):∀ g,vw.ownBlock=some g->g≠b:=fun g hg e=>by
 have h1:=Yt H hg
 have h2:=H.hi b hb
 omega
theorem Yts {w0 w w5:World} {R:Nat} {A:LA} {C:LC} {vr vw:Value} {s:LS} {o:Obj} (H:LpW w0 R A C vr vw s w) (hg:(w.alloc o).grownBy w5 vr.ownBlock):Bx w5 A.r 32 vr/\Bx w5 A.w 88 vw:=by
 have g1:=Za (Ga w o vr.ownBlock) hg
 refine ⟨Zb H.br g1 ?_,Zb H.bw g1 ?_⟩
 · intro e;have h1:=Ji H e;have h2:=H.hi A.r (by simp [LA.all]);omega
 · intro e;have h1:=Ji H e;have h2:=H.hi A.w (by simp [LA.all]);omega
theorem Yso {w0 w w5:World} {R:Nat} {A:LA} {C:LC} {vr vw:Value} {s:LS} {o:Obj} (H:LpW w0 R A C vr vw s w) (hg:(w.alloc o).grownBy w5 vw.ownBlock):Bx w5 A.w 88 vw:=by
 have g1:=Za (Ga w o vw.ownBlock) hg
 refine Zb H.bw g1 ?_
 intro e;have h1:=Yt H e;have h2:=H.hi A.w (by simp [LA.all]);omega
theorem Yym {w0 w:World} {R:Nat} {A:LA} {C:LC} {vr vw:Value} {s:LS} (H:LpW w0 R A C vr vw s w):∀ k,vw.ownBlock=some k->vr.ownBlock≠some k:=fun k hk=>Yz H.rw_ H.rr (by decide) hk
theorem Ygs:Try.prog.underlying 88=some (.slice 90):=by kernel_rfl
theorem Ycn:(Try.prog.info? 90).map (fun i=>(i.zero,i.size,i.bytes))=some (some (.agg #[.int .i64 0,.int .i64 0]),2,16):=by kernel_rfl
def Zwp (w0:World) (R:Nat) (A:LA) (C:LC) (s:LS) (m:Nat) (w:World) (vw:Value) (e:Ending) (w':World):Prop :=
 (∃ v,e = .returned v)/\∃ vr' vw',LpW w0 R A C vr' vw' (Yaz s m) w'/\Zhl w w' vw s.way.length
theorem Zvm (w0 w:World) (R:Nat) (A:LA) (C:LC) (vr vw:Value) (s:LS) (m:Nat) (H:LpW w0 R A C vr vw s w) (hm:m<C.n) (hmet:s.met<=4096) (hr:s.row.length<=4096) (hw:s.way.length<=4096) :
 Calls Try.prog 42 #[.int .i64 m,.pointer (some ⟨A.m,0,none⟩),.pointer (some ⟨A.n,0,none⟩),.pointer (some ⟨A.b,0,none⟩),.pointer (some ⟨A.o,0,none⟩),.pointer (some ⟨A.r,0,none⟩),.pointer (some ⟨A.w,0,none⟩)] w (Zwp w0 R A C s m w vw):=by
 obtain ⟨mem,vd,vF,f,vh,n⟩:=C
 obtain ⟨num,back,on,inn,row,way,met⟩:=s
 simp only [] at hm hmet hr hw
 have H1:=Xad H (met+1)
 have OLD:=Zcw (b:=A.m) (o:=0) (v := .int .i64 ((met+1:Nat):Int)) (Zxo w vw way.length) (Zpj H (by simp [LA.all]))
 have q0:=Zw H.bm
 have q0z:=Zdi H.bm
 simp only [] at H1
 clear H
 have HH1:=Hq H1
 have HOLD:=Hq OLD
 clear H1 OLD
 go_enter Try.func42,Try.ntmps42
 go_wp2
 rename_i K hK
 have hmi:(met:Int)+1=((met+1:Nat):Int):=by omega
 rw [hmi] at *
 clear q0 q0z hmi
 generalize hM:met+1=M at *
 generalize w.setCell ⟨A.m,0,none⟩ (.int .i64 (M:Int))=w1 at *
 have H:=HH1.out
 have bm:=Zw H.bm
 have bn:=Zw H.bn
 have bb:=Zw H.bb
 have bo:=Zw H.bo
 obtain ⟨cn,zn⟩:=Zux H m hm
 obtain ⟨cb,zb⟩:=Zky H m hm
 obtain ⟨co,zo⟩:=Ycw H m hm
 have hmi:(m:Int)<(n:Int):=by omega
 simp only [] at bm bn bb bo
 have n1:A.n≠A.gn:=Zi H.nd 3 9 rfl rfl (by decide)
 have n2:A.n≠A.gb:=Zi H.nd 3 10 rfl rfl (by decide)
 have n3:A.n≠A.go:=Zi H.nd 3 11 rfl rfl (by decide)
 have n4:A.b≠A.gn:=Zi H.nd 4 9 rfl rfl (by decide)
 have n5:A.b≠A.gb:=Zi H.nd 4 10 rfl rfl (by decide)
 have n6:A.b≠A.go:=Zi H.nd 4 11 rfl rfl (by decide)
 have n7:A.o≠A.gn:=Zi H.nd 5 9 rfl rfl (by decide)
 have n8:A.o≠A.gb:=Zi H.nd 5 10 rfl rfl (by decide)
 have n9:A.o≠A.go:=Zi H.nd 5 11 rfl rfl (by decide)
 have n10:A.m≠A.gn:=Zi H.nd 8 9 rfl rfl (by decide)
 have n11:A.m≠A.gb:=Zi H.nd 8 10 rfl rfl (by decide)
 have n12:A.m≠A.go:=Zi H.nd 8 11 rfl rfl (by decide)
 have n13:A.gn≠A.gb:=Zi H.nd 9 10 rfl rfl (by decide)
 have n14:A.gn≠A.go:=Zi H.nd 9 11 rfl rfl (by decide)
 have n15:A.gb≠A.go:=Zi H.nd 10 11 rfl rfl (by decide)
 clear H
 go_region
 clear cn cb co zn zb zo bm bn bb bo
 simp only [Exit.then]
 refine hK _ _ ?_
 clear hK K
 have H2:=Xg (Xaa (Zna (Xab HH1.out m M) m M) m true) (Ze (Zc _ none))
 have OLD2:=Zkm (Zcw (b:=A.go) (o:=m) (v := .bool true) (Zcw (b:=A.gb) (o:=m) (v := .int .i64 (M:Int)) (Zcw (b:=A.gn) (o:=m) (v := .int .i64 (M:Int)) HOLD.out (Zpj HH1.out (by simp [LA.all]))) (Zpj HH1.out (by simp [LA.all]))) (Zpj HH1.out (by simp [LA.all]))) (Ze (Zc _ none))
 simp only [] at H2
 have HH2:=Hq H2
 have HOLD2:=Hq OLD2
 clear H2 OLD2 HH1 HOLD n1 n2 n3 n4 n5 n6 n7 n8 n9 n10 n11 n12 n13 n14 n15
 generalize (((w1.setCell ⟨A.gn,m,none⟩ (.int .i64 (M:Int))).setCell ⟨A.gb,m,none⟩ (.int .i64 (M:Int))).setCell ⟨A.go,m,none⟩ (.bool true)).drew=w2 at *
 clear w1
 obtain ⟨ii,ii0,ii1,ii2,ii3⟩:=info_parts Zao
 obtain ⟨ip,ip0,ip1,ip2,ip3⟩:=info_parts Ycn
 have hc3:row.length+1<=maxLen:=by unfold maxLen;omega
 have hc4:(row.length+1)*8<=140737488355328:=by omega
 have hc5:way.length+1<=maxLen:=by unfold maxLen;omega
 have hc6:(way.length+1)*16<=140737488355328:=by omega
 have hE2:R<=(w2.alloc (.cells #[.int .i64 m] 3)).heap.size:=by have:=HH2.out.rs;simp;omega
 have br:=Zw HH2.out.br
 have sr:=(Gs HH2.out.br)
 have hwr:A.w≠A.r:=Zi HH2.out.nd 7 6 rfl rfl (by decide)
 go_wp2_with (first
  | (at_builtin;refine wpList_append_own_at _ rfl _ _ 32 rfl R 3 ii (.int .i64 0) 1 8 Zbv ii0 ii1 ii2 ii3 rfl (by decide) vr _ _ rfl (HH2.out.rr.alloc _) ⟨w2.heap.size,0,none⟩ 1 1 [.int .i64 m] rfl rfl (Zgl w2 _ _) (Zcq _ _) hc3 hc4 hE2 ?_;intro v3 w3 hown3 hgr3 hnil3 hat3;obtain ⟨g3,e3,hv3⟩:=Zan hown3;subst hv3;have M3:=Yts HH2.out hgr3;have k3:=Zw M3.1;have z3:=Zdi M3.1;have k4:=Zw M3.2;have s3:=(Gs M3.1);have s4:=(Gs M3.2);have H3:=Hq (Yzz HH2.out hown3 hgr3);have O3:=Hq (Zcw (b:=A.r) (o:=0) (v := .slice (some ⟨g3,0,none⟩) (row.length+1) e3) (Ycr HOLD2.out (Za (Ga w2 _ _) hgr3) (Yym HH2.out)) (Zpj HH2.out (by simp [LA.all])));have hE3:R<=((w3.setCell ⟨A.r,0,none⟩ (.slice (some ⟨g3,0,none⟩) (row.length+1) e3)).alloc (.cells #[.int .i64 m,.int .i64 0] 90)).heap.size:=(by have:=H3.out.rs;simp at this;simp;omega);clear hown3 hgr3 hnil3 hat3 M3)
  | (at_builtin;refine Zjr rfl _ _ 88 rfl R 90 ip (.agg #[.int .i64 0,.int .i64 0]) 2 16 Ygs ip0 ip1 ip2 ip3 rfl (by decide) vw _ _ rfl (H3.out.rw_.alloc _) ⟨w3.heap.size,0,none⟩ 1 1 [.int .i64 m,.int .i64 0] rfl rfl (Zwu w3 A.r 0 _ _ _ _) (Zqf _ _ _) hc5 hc6 hE3 ?_;intro v5 w5 hown5 hgr5 hold5;obtain ⟨g5,e5,hv5⟩:=Zan hown5;subst hv5;have M5:=Yso H3.out hgr5;have k5:=Zw M5;have z5:=Zdi M5;have s5:=(Gs M5);have H5:=Hq (Yzy H3.out hown5 hgr5);have O5:=Hq (Zcw (b:=A.w) (o:=0) (v := .slice (some ⟨g5,0,none⟩) (way.length+1) e5) (Ycs (Zkm O3.out (Ga _ _ none)) hold5) (Zpj HH2.out (by simp [LA.all])));clear hown5 hgr5 hold5 M5))
 refine bodyPost_end0 rfl rfl ?_
 have H9:=H5.out
 have O9:=O5.out
 subst hM
 exact ⟨⟨_,rfl⟩,.slice (some ⟨g3,0,none⟩) (row.length+1) e3,.slice (some ⟨g5,0,none⟩) (way.length+1) e5,H9,O9⟩
def nxL (code:List (Int × Int)) (h:List Int) (x:Nat):List Nat:=match code[x]? with|some p=>(nxE (h.getD x 0) code.length p.1 p.2 x).map Int.toNat|none=>[]
theorem Yjm (op a pl:Int):(Yy op a pl).length<=2:=by
 have:=Zgp op a pl
 omega
theorem Zut {len:Nat} {op a pl n:Int} (h:n∈Zkx len op a pl):0<=n/\n<len:=by
 unfold Zkx at h
 have:=(List.mem_filter.1 h).2
 simp at this
 omega
theorem Yhn {hv:Int} {len:Nat} {op a pl n:Int} (h:n∈nxE hv len op a pl):0<=n/\n<len:=by
 unfold nxE at h
 split at h
 · cases h
 · exact Zut h
theorem Yho (hv:Int) (len:Nat) (op a pl:Int):(nxE hv len op a pl).length<=2:=by
 unfold nxE
 split
 · simp
 · unfold Zkx;exact Nat.le_trans (List.length_filter_le _ _) (Yjm op a pl)
theorem Zkn {code:List (Int × Int)} {h:List Int} (x:Nat):∀ y∈nxL code h x,y<code.length:=by
 intro y hy
 unfold nxL at hy
 split at hy
 · obtain ⟨z,hz,rfl⟩:=List.mem_map.1 hy
   have:=Yhn hz
   omega
 · cases hy
theorem Yun (code:List (Int × Int)) (h:List Int) (x:Nat):(nxL code h x).length<=2:=by
 unfold nxL
 split
 · rw [List.length_map];exact Yho _ _ _ _ _
 · simp
theorem Yzr {code:List (Int × Int)} {h:List Int} {x:Nat} {op a:Int} (hx:code[x]? = some (op,a)):(nxL code h x).length=(nxE (h.getD x 0) code.length op a x).length/\∀ (j m:Nat),(nxL code h x)[j]? = some m->(nxE (h.getD x 0) code.length op a x)[j]? = some (m:Int):=by
 unfold nxL
 rw [hx]
 refine ⟨by rw [List.length_map],fun j m hj => ?_⟩
 simp only [List.getElem?_map] at hj
 cases hz:(nxE (h.getD x 0) code.length op a x)[j]? with
 | none=>rw [hz] at hj;cases hj
 | some z =>
   rw [hz] at hj
   simp at hj
   have:=Yhn (List.mem_of_getElem? hz)
   congr 1
   omega
def Xr (s:TS):LS:=⟨s.num,s.back,s.on,s.inn,Xs s.S,s.S.reverse.map fun f=>((f.at_:Int),(f.done:Int)),s.met⟩
theorem Zdq:∀ (n:Nat) (l:List Nat),l.Nodup->(∀ x∈l,x<n)->l.length<=n
 | 0,l,_,h=>by
   cases l with
   | nil=>simp
   | cons x r=>exact absurd (h x (by simp)) (by omega)
 | n+1,l,hn,h=>by
   have h1:=Zdq n (l.erase n) (hn.erase n) fun x hx=>by
    have h2:=hn.mem_erase_iff.1 hx
    have:=h x h2.2
    omega
   rw [List.length_erase] at h1
   split at h1 <;> omega
theorem Yqx:∀ S:List Fr,S.length<=(Xs S).length
 | []=>by simp
 | f::r=>by have:=Yqx r;simp [Xs];omega
theorem Zcf {n:Nat} {next:Nat->List Nat} {s:TS} (I:Zlt n next s):(Xs s.S).length<=n/\s.S.length<=n:=by
 have h1:=Zdq n _ I.nd I.lt
 have:=Yqx s.S
 omega
def ts0 (n:Nat):TS:=⟨(List.replicate n 0).set 0 1,(List.replicate n 0).set 0 1,(List.replicate n false).set 0 true,List.replicate n false,[⟨0,0,[]⟩],1,[]⟩
theorem Yau {α:Type} (n i:Nat) (x d:α) (h:i<n):(List.replicate n x).getD i d=x:=by simp [List.getD_eq_getElem?_getD,h]
theorem Zet {α:Type} (n i:Nat) (x y d:α) (h:i<n):((List.replicate n x).set 0 y).getD i d=if i=0 then y else x:=by
 rw [Yb _ _ _ _ _ (by simp;omega)]
 by_cases e:i=0
 · rw [if_pos e,if_pos e]
 · rw [if_neg e,if_neg e,Yau _ _ _ _ h]
theorem Yfo {n:Nat} {next:Nat->List Nat} (h:1<=n):Zlt n next (ts0 n)/\4*(ts0 n).met+Zac n (ts0 n).num<=4*n:=by
 refine ⟨⟨by simp [ts0],by simp [ts0],by simp [ts0],by simp [ts0],?_,?_,?_,?_,?_,?_,?_,?_,?_⟩,?_⟩
 · intro f hf;simp [ts0] at hf;subst hf;simp
 · intro x hx;simp [ts0,Xs] at hx;omega
 · simp [ts0,Xs]
 · intro x hx
   simp only [ts0,Xs]
   rw [Zet _ _ _ _ _ hx]
   by_cases e:x=0
   · simp [e]
   · simp [e]
 · intro x hx
   simp [ts0,Xs] at hx
   subst hx
   simp only [ts0]
   rw [Zet _ _ _ _ _ (by omega)];simp
 · intro x hx
   simp [ts0,Xs] at hx
   subst hx
   simp only [ts0]
   rw [Zet _ _ _ _ _ (by omega)];simp
 · simp only [ts0,Zya]
   rw [Zet _ _ _ _ _ (by omega)];simp
 · right
   refine ⟨?_,?_,?_,trivial⟩
   · intro f hf;simp [ts0] at hf;subst hf;simp [ts0]
   · intro x hx hne
     simp only [ts0] at hne
     rw [Zet _ _ _ _ _ hx] at hne
     left
     simp only [ts0,Xs]
     by_cases e:x=0
     · simp [e]
     · rw [if_neg e] at hne;exact absurd rfl hne
   · exact ⟨fun j hj=>absurd hj (Nat.not_lt_zero _),trivial⟩
 · simp only [ts0]
   rw [Zet _ _ _ _ _ (by omega)];simp
 · have h1:=Zju (n:=n) (m:=0) (v:=1) (num:=List.replicate n 0) (by simp) (by omega) (Yau _ _ _ _ (by omega)) (by decide)
   have h2:Zac n (List.replicate n 0)<=4*n:=by
    unfold Zac
    have:∀ l:List Nat,(l.map fun x=>if (List.replicate n 0).getD x 0=0 then 4 else 0).sum<=4*l.length:=by
     intro l
     induction l with
     | nil=>simp
     | cons x r ih =>
       simp only [List.map_cons,List.sum_cons,List.length_cons]
       split <;> omega
    have:=this (List.range n)
    rwa [List.length_range] at this
   simp only [ts0]
   omega
theorem Xx {s:TS} {f:Fr} {r:List Fr} (hS:s.S=f::r):(Xr s).way=(r.reverse.map fun f=>((f.at_:Int),(f.done:Int)))++[((f.at_:Int),(f.done:Int))]/\(Xr s).way.length=r.length+1/\(Xr s).way[r.length]? = some ((f.at_:Int),(f.done:Int)):=by
 have h1:(Xr s).way=(r.reverse.map fun f=>((f.at_:Int),(f.done:Int)))++[((f.at_:Int),(f.done:Int))]:=by
  simp [Xr,hS]
 refine ⟨h1,by rw [h1];simp,?_⟩
 rw [h1,List.getElem?_append_right (by simp)]
 simp
section
variable {s:TS} {f:Fr} {r:List Fr}
theorem Zrr (hS:s.S=f::r):{ Xr s with way:=(Xr s).way.set r.length ((f.at_:Int),((f.done+1:Nat):Int)) }=Xr { s with S:=⟨f.at_,f.done+1,f.ex⟩::r }:=by
 have h1:=(Xx hS).1
 unfold Xr at *
 simp only [hS] at *
 rw [h1,List.set_append_right _ _ (by simp)]
 simp [Xs]
theorem You (s:TS) (m:Nat):Yaz (Xr s) m=Xr { s with num:=s.num.set m (s.met+1),back:=s.back.set m (s.met+1),on:=s.on.set m true,S:=⟨m,0,[]⟩::s.S,met:=s.met+1 }:=by
 unfold Yaz Xr
 simp [Xs]
theorem Yrq (hS:s.S=f::r):(Xr s).way.take r.length=r.reverse.map fun f=>((f.at_:Int),(f.done:Int)):=by
 rw [(Xx hS).1,List.take_append_of_le_length (by simp),List.take_of_length_le (by simp)]
theorem Yuv {up:Fr} (hS:s.S=f::up::r) (back':List Nat):{ Xr s with back:=back',way:=(Xr s).way.take (r.length+1) }=Xr { s with back:=back',S:=⟨up.at_,up.done,up.ex++f.at_::f.ex⟩::r }:=by
 have h1:=Yrq hS
 simp only [List.length_cons] at h1
 rw [h1]
 unfold Xr
 simp [Xs,hS]
theorem Yie (hS:s.S=f::r) (back':List Nat) (on' inn':List Bool) (fin':List Nat):{ Xr s with back:=back',on:=on',inn:=inn',row:=Xs r,way:=(Xr s).way.take r.length }=Xr { s with back:=back',on:=on',inn:=inn',S:=r,fin:=fin' }:=by
 rw [Yrq hS]
 unfold Xr
 simp
theorem Zzl (hS:s.S=f::r):(Xr s).row=Xs r++f.at_::f.ex:=by unfold Xr;simp [hS,Xs]
end
theorem Zvl (q:Nat->Bool) (k:Nat):(List.range (k+1)).filter q=if q k=true then (List.range k).filter q++[k] else (List.range k).filter q:=by
 rw [List.range_succ,List.filter_append]
 by_cases h:q k=true
 · rw [if_pos h];simp [h]
 · rw [if_neg h];simp [h]
theorem Zyg {q:Nat->Bool} {n:Nat} (h:(List.range n).filter q=[]):∀ x,x<n->q x=false:=by
 intro x hx
 cases hq:q x with
 | false=>rfl
 | true =>
   have:x∈(List.range n).filter q:=List.mem_filter.2 ⟨List.mem_range.2 hx,hq⟩
   rw [h] at this;cases this
theorem Ycv {w0 wr:World} {R gw n cw:Nat} {A:LA} {C:LC} {vr:Value} {s:TS} {f:Fr} {r:List Fr} (H:LpW w0 R A C vr (.slice (some ⟨gw,0,none⟩) n cw) (Xr s) wr) (hS:s.S=f::r) :
 n=r.length+1/\wr.cell? ⟨gw,r.length*2,none⟩=some (.int .i64 f.at_)/\wr.cell? ⟨gw,r.length*2+1,none⟩=some (.int .i64 f.done)/\(∀ j,wr.frozen? ⟨gw,j,none⟩=false)/\gw<wr.heap.size:=by
 obtain ⟨hw1,hwl,hwk⟩:=Xx hS
 have hn:=H.rw_
 rw [hwl] at hn
 obtain ⟨g,c,hv⟩:=Zan hn
 injection hv with h1 h2 h3
 injection h1 with h1
 injection h1 with h1
 subst h1 h2 h3
 have hfl:=Xy _ _ _ _ hwk
 have hx0:wr.cell? ⟨gw,r.length*2,none⟩=some (.int .i64 f.at_):=by rw [hn.cellAt _ (by omega)];exact hfl.1
 refine ⟨rfl,hx0,by rw [hn.cellAt _ (by omega)];exact hfl.2,Ye hn,World.block_lt_of_cell? _ _ hx0⟩
theorem Zht {w0 wr:World} {R:Nat} {A:LA} {C:LC} {vr vw:Value} {s:TS} {f:Fr} {r:List Fr} (H:LpW w0 R A C vr vw (Xr s) wr) (hS:s.S=f::r):∃ gw cw,vw = .slice (some ⟨gw,0,none⟩) (r.length+1) cw:=by
 have hn:=H.rw_
 rw [(Xx hS).2.1] at hn
 exact Zan hn
theorem Zos {s:TS} {f up:Fr} {r:List Fr} (hS:s.S=f::up::r):(Xr s).way[r.length]? = some ((up.at_:Int),(up.done:Int))/\(Xr s).way.length=r.length+2:=by
 have h1:(Xr s).way=(r.reverse.map fun f=>((f.at_:Int),(f.done:Int)))++[((up.at_:Int),(up.done:Int)),((f.at_:Int),(f.done:Int))]:=by
  simp [Xr,hS]
 refine ⟨?_,by rw [h1];simp⟩
 rw [h1,List.getElem?_append_right (by simp)]
 simp
def Ywu (code:List (Int × Int)) (h:List Int):Prop:=∃ (Zde:Nat->Nat) (T:Nat->Prop),T 0/\∀ x,T x->x<code.length/\0<=h.getD x 0/\∀ (op a:Int),code[x]? = some (op,a)->∀ y∈Zkx code.length op a x,0<=y/\T y.toNat/\Zde y.toNat<Zde x
theorem Ynp {code:List (Int × Int)} {h:List Int} (hn:1<=code.length) (hz:h.getD 0 0=0) (hc:∀ x,x<code.length->0<=h.getD x 0->∀ y∈Jc code x,y<code.length/\0<=h.getD y 0) (hA:Yxb (nxL code h)):Ywu code h:=by
 obtain ⟨Zde,T,h0,hT⟩:=hA
 refine ⟨Zde,fun x=>T x/\x<code.length/\0<=h.getD x 0,⟨h0,by omega,by omega⟩,fun x hx=>⟨hx.2.1,hx.2.2,fun op a hop y hy => ?_⟩⟩
 have hy1:=Zut hy
 have hm1:y.toNat∈nxL code h x:=by
  unfold nxL
  rw [hop]
  refine List.mem_map.2 ⟨y,?_,rfl⟩
  unfold nxE
  rw [if_neg (by omega)]
  exact hy
 have hm2:y.toNat∈Jc code x:=by
  unfold Jc
  rw [hop]
  refine List.mem_map.2 ⟨y,?_,rfl⟩
  unfold Zkx at hy
  exact (List.mem_filter.1 hy).1
 obtain ⟨t1,t2⟩:=hT x hx.1 _ hm1
 obtain ⟨t3,t4⟩:=hc x hx.2.1 hx.2.2 _ hm2
 exact ⟨hy1.1,⟨t1,t3,t4⟩,t2⟩
end Go.Proofs.Ythlkflagancdfaa.CK
