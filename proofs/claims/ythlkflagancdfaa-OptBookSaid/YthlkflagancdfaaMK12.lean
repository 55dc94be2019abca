/-
  Part of a proof: contracts of functions and lemmas, each stated by its own theorem. Conditions: as each theorem states.
-/
import Derived.Test.YthlkflagancdfaaMK02
import Derived.Test.YthlkflagancdfaaMK08
import Derived.Test.YthlkflagancdfaaMK09
import Derived.Test.YthlkflagancdfaaMK10
import Derived.Test.YthlkflagancdfaaMK11
import Derived.Test.YthlkflagancdfaaMK01
import Derived.Deep.Strs
import Derived.ChangeArms
import Derived.Deep.RegionHeld3
set_option linter.unusedSimpArgs false
set_option linter.unusedVariables false
set_option maxRecDepth 100000
set_option maxHeartbeats 16000000
namespace Go.Proofs.Ythlkflagancdfaa.OT
open Go.RowKit Go.Great
open Go.Proofs.Ythlkflagancdfaa.CK
section
variable (b o n len cap:Nat) (op a op2 a2 op3 a3 long:Int) (x y r:BitVec 64) (w:World)
theorem Xfx (hbw:b<w.heap.size) (q1:(n:Int)<(len:Int)) (ql:(len:Int)<=4096) (c0:w.cell? ⟨b,o+n*2,none⟩=some (.int .i64 op)) (c1:w.cell? ⟨b,o+n*2+1,none⟩=some (.int .i64 a)) (q2:(n:Int)+1<(len:Int)) (d0:w.cell? ⟨b,o+(n+1)*2,none⟩=some (.int .i64 op2)) (d1:w.cell? ⟨b,o+(n+1)*2+1,none⟩=some (.int .i64 a2)) (h2:2<=long) (hz:∀ k∈[(3:Int),13,7,5,6,34,35],op≠k) :
 Calls Try.prog 68 #[.slice (some ⟨b,o,none⟩) len cap,.int .i64 n,.int .i64 long] w (Zm w none):=by
 obtain ⟨⟨sb0,sb1,sb2,sb3,sb4,sb5⟩,⟨sc01,sc02,sc03,sc04,sc05⟩,⟨sc12,sc13,sc14,sc15⟩,⟨sc23,sc24,sc25⟩,sc34,sc35⟩:=Xu hbw
 have z3:(op == 3)=false:=by have:=hz 3 (by decide);simpa using this
 have z13:(op == 13)=false:=by have:=hz 13 (by decide);simpa using this
 have z7:(op == 7)=false:=by have:=hz 7 (by decide);simpa using this
 have z5:(op == 5)=false:=by have:=hz 5 (by decide);simpa using this
 have z6:(op == 6)=false:=by have:=hz 6 (by decide);simpa using this
 have z34:(op == 34)=false:=by have:=hz 34 (by decide);simpa using this
 have z35:(op == 35)=false:=by have:=hz 35 (by decide);simpa using this
 clear hz
 go_enter Try.func68,Try.ntmps68
 go_wp2
 go_region
 all_goals go_wp2
 all_goals ((refine bodyPost_ret (v := .tuple #[.agg #[.int .i64 0,.slice none 0 0,.int .i64 0],.bool false]) ?_ rfl ⟨?_,0,0,none,0,0,rfl⟩);(focus (rw [results_cell_tmp rfl];go_simp));(repeat (first|exact Zc _ _|exact Ga _ _ _|refine Za ?_ (Ga _ _ _)|refine Zf ?_ _|refine Ze ?_|(refine Zd ?_ (by simp;omega))|(refine Zd ?_ (by simp)))))
end
theorem Yns (c:List Ins) (p:Option Addr) (cap B n lg:Nat) (w:World) (hB:B<=w.heap.size) (hC:Xz w B p c) (hn:n<c.length) (hl:c.length<=4096) (hg:lg<=3) (hlong:n+lg<=c.length) :
 Calls Try.prog 68 #[.slice p c.length cap,.int .i64 n,.int .i64 lg] w (Zm w (Zek c n lg)):=by
 unfold Zek
 simp only []
 obtain ⟨b,o,rfl,hb,c0,c1⟩:=Jw hC hn
 have hbw:b<w.heap.size:=by omega
 have q1:(n:Int)<(c.length:Int):=by omega
 have ql:(c.length:Int)<=4096:=by omega
 by_cases h2:lg<2
 · rw [if_pos h2]
   exact Xfy b o n c.length cap _ _ lg w hbw q1 ql c0 c1 (by omega)
 rw [if_neg h2]
 have q2:(n:Int)+1<(c.length:Int):=by omega
 have hl2:(2:Int)<=(lg:Int):=by omega
 obtain ⟨b',o',e2,-,d0,d1⟩:=Jw hC (n:=n+1) (by omega)
 injection e2 with e2;injection e2 with e2 e3 _;subst e2;subst e3
 generalize Zn c n=x at *
 generalize Zn c (n+1)=y at *
 obtain ⟨op,a⟩:=x
 obtain ⟨op2,a2⟩:=y
 simp only [Prod.mk.injEq] at *
 by_cases h3:op=3\/op=13
 · have n7:op≠7:=by omega
   have n5:op≠5:=by omega
   have n6:¬ (op=6\/op=34\/op=35):=by omega
   by_cases h4:op2=4
   · rw [if_pos ⟨h3,h4⟩]
     subst h4
     rcases h3 with rfl|rfl
     · exact Xdp b o n c.length cap _ _ lg w hbw q1 ql c0 c1 q2 d0 d1 hl2
     · exact Yyw b o n c.length cap _ _ lg w hbw q1 ql c0 c1 q2 d0 d1 hl2
   · rw [if_neg (fun h=>h4 h.2),if_neg (fun h=>n7 h.1),if_neg (fun h=>n5 h.1),if_neg (fun h=>n5 h.1),if_neg (fun h=>n6 h.1)]
     rcases h3 with rfl|rfl
     · exact Xdr b o n c.length cap _ _ _ lg w hbw q1 ql c0 c1 q2 d0 d1 hl2 h4
     · exact Yyz b o n c.length cap _ _ _ lg w hbw q1 ql c0 c1 q2 d0 d1 hl2 h4
 rw [if_neg (fun h=>h3 h.1)]
 by_cases h7:op=7
 · subst h7
   by_cases h4:op2=4
   · rw [if_pos ⟨rfl,Or.inl h4⟩]
     subst h4
     exact Xdu b o n c.length cap _ _ lg w hbw q1 ql c0 c1 q2 d0 d1 hl2
   · by_cases h8:op2=8/\a2=a
     · rw [if_pos ⟨rfl,Or.inr h8⟩]
       obtain ⟨rfl,rfl⟩:=h8
       exact Xdt b o n c.length cap _ lg w hbw q1 ql c0 c1 q2 d0 d1 hl2
     · rw [if_neg (by rintro ⟨_,h|h⟩;exact h4 h;exact h8 h),if_neg (fun h=>absurd h.1 (by decide)),if_neg (fun h=>absurd h.1 (by decide)),if_neg (fun h=>absurd h.1 (by decide))]
       exact Xds b o n c.length cap _ _ _ lg w hbw q1 ql c0 c1 q2 d0 d1 hl2 h4 h8
 rw [if_neg (fun h=>h7 h.1)]
 by_cases h5:op=5
 · subst h5
   by_cases h6:a=0/\op2=6
   · rw [if_pos ⟨rfl,h6⟩]
     obtain ⟨rfl,rfl⟩:=h6
     exact Xdw b o n c.length cap _ lg w hbw q1 ql c0 c1 q2 d0 d1 hl2
   · rw [if_neg (fun h=>h6 h.2)]
     by_cases h4:op2=4
     · rw [if_pos ⟨rfl,h4⟩]
       subst h4
       exact Xdv b o n c.length cap _ _ lg w hbw q1 ql c0 c1 q2 d0 d1 hl2
     · rw [if_neg (fun h=>h4 h.2),if_neg (fun h=>absurd h.1 (by decide))]
       by_cases h0:a=0
       · subst h0
         exact Xdx b o n c.length cap _ _ lg w hbw q1 ql c0 c1 q2 d0 d1 hl2 h4 (fun e=>h6 ⟨rfl,e⟩)
       · exact Xdy b o n c.length cap _ _ _ lg w hbw q1 ql c0 c1 q2 d0 d1 hl2 h4 h0
 rw [if_neg (fun h=>h5 h.1),if_neg (fun h=>h5 h.1)]
 by_cases h6:op=6\/op=34\/op=35
 · by_cases h8:op=op2/\a=a2
   · rw [if_pos ⟨h6,h8⟩]
     obtain ⟨rfl,rfl⟩:=h8
     rcases h6 with rfl|rfl|rfl
     · exact Xdo b o n c.length cap _ lg w hbw q1 ql c0 c1 q2 d0 d1 hl2
     · exact Yyv b o n c.length cap _ lg w hbw q1 ql c0 c1 q2 d0 d1 hl2
     · exact Yyu b o n c.length cap _ lg w hbw q1 ql c0 c1 q2 d0 d1 hl2
   · rw [if_neg (fun h=>h8 h.2)]
     rcases h6 with rfl|rfl|rfl
     · exact Xdq b o n c.length cap _ _ _ lg w hbw q1 ql c0 c1 q2 d0 d1 hl2 h8
     · exact Yyy b o n c.length cap _ _ _ lg w hbw q1 ql c0 c1 q2 d0 d1 hl2 h8
     · exact Yyx b o n c.length cap _ _ _ lg w hbw q1 ql c0 c1 q2 d0 d1 hl2 h8
 rw [if_neg (fun h=>h6 h.1)]
 refine Xfx b o n c.length cap _ _ _ _ lg w hbw q1 ql c0 c1 q2 d0 d1 hl2 ?_
 intro k hk e
 subst e
 simp only [List.mem_cons,List.not_mem_nil,or_false] at hk
 omega
def Yef (c:List Ins) (n long:Nat):Nat->Option Jn
 | 0=>Zax c n
 | 1=>Zau c n long
 | 2=>Zek c n long
 | _=>Zce c n long
theorem Zln (c:List Ins) (n long k:Nat) (hk:k<4) (h:∀ j,j<k->Yef c n long j=none) (x:Jn) (hx:Yef c n long k=some x):Zaj c n long=some x:=by
 have e0:0<k->Zax c n=none:=fun q=>h 0 q
 have e1:1<k->Zau c n long=none:=fun q=>h 1 q
 have e2:2<k->Zek c n long=none:=fun q=>h 2 q
 unfold Zaj
 rcases (by omega:k=0\/k=1\/k=2\/k=3) with rfl|rfl|rfl|rfl <;> simp only [Yef] at hx
 · rw [hx];rfl
 · rw [e0 (by omega),hx];rfl
 · rw [e0 (by omega),e1 (by omega),hx];rfl
 · rw [e0 (by omega),e1 (by omega),e2 (by omega),hx];rfl
theorem Ycu (c:List Ins) (n long:Nat) (h:∀ j,j<4->Yef c n long j=none):Zaj c n long=none:=by
 have e0:Zax c n=none:=h 0 (by omega)
 have e1:Zau c n long=none:=h 1 (by omega)
 have e2:Zek c n long=none:=h 2 (by omega)
 have e3:Zce c n long=none:=h 3 (by omega)
 unfold Zaj
 rw [e0,e1,e2,e3];rfl
def Xbz:Array Value := #[.func (.func 66) #[] #[],.func (.func 67) #[] #[],.func (.func 68) #[] #[],.func (.func 69) #[] #[]]
theorem Zlh {c:List Ins} {n lg k:Nat} (h:∀ j,j<k->Yef c n lg j=none) (e:Yef c n lg k=none):∀ j,j<k+1->Yef c n lg j=none:=fun j hj=>by
 by_cases q:j=k
 · rw [q];exact e
 · exact h j (by omega)
theorem Yqi {w w':World} {B b:Nat} {q:Option Addr} {c:List Ins} {i0 i2:Int} {t:TypeId} {a:Option Addr} {m k:Nat} (h:Xz w B q c) (hx:w.heap[b]? = some (.cells #[.int .i64 i0,.slice a m k,.int .i64 i2] t (0,0))) (hs:∀ j,j<w.heap.size->j≠b->w'.heap[j]? = w.heap[j]?):Xz w' B q c:=fun h0=>by
 obtain ⟨b1,o,e,hb,hc⟩:=h h0
 have ne:b1≠b:=by
  intro e2
  subst e2
  obtain ⟨⟨op,a1⟩,hi⟩:∃ x,c[0]? = some x:=⟨_,List.getElem?_eq_getElem h0⟩
  obtain ⟨g0,g1⟩:=hc 0 op a1 hi
  simp only [Nat.zero_mul,Nat.add_zero] at g0 g1
  unfold World.cell? at g0 g1
  rw [hx] at g0 g1
  simp only [] at g0 g1
  rcases (by omega:o=0\/o=1\/o=2\/3<=o) with rfl|rfl|rfl|h3
  · simp at g1
  · simp at g0
  · simp at g1
  · rw [Array.getElem?_eq_none (by simpa using h3)] at g0;cases g0
 refine ⟨b1,o,e,hb,fun i op a hi => ?_⟩
 obtain ⟨g0,g1⟩:=hc i op a hi
 have hq:=World.block_lt_of_cell? _ _ g0
 exact ⟨by rw [Zbi (hs b1 hq ne)];exact g0,by rw [Zbi (hs b1 hq ne)];exact g1⟩
theorem Zyq {w:World} {b:Nat} {v0 v1 v2 x0 x1 x2:Value} {t:TypeId} (h:w.heap[b]? = some (.cells #[v0,v1,v2] t (0,0))):(((w.setCell ⟨b,0,none⟩ x0).setCell ⟨b,1,none⟩ x1).setCell ⟨b,2,none⟩ x2).heap[b]? = some (.cells #[x0,x1,x2] t (0,0)):=by
 rw [Zg (Zg (Zg h))];rfl
theorem Zkh {w:World} {B B':Nat} {q:Option Addr} {c:List Ins} (h:Xz w B q c) (hb:B<=B'):Xz w B' q c:=fun h0=>by
 obtain ⟨b,o,e,h1,h2⟩:=h h0
 exact ⟨b,o,e,by omega,h2⟩
theorem Zix {w w5:World} {a:Act} {b:Nat} {lo:Nat} {wh:Int} {pu:List Ins} {q:Option Addr} {k:Nat} {cs:Array Value} {t:TypeId} (h6:a.tmps.getD 6 undef = .pointer (some ⟨b,0,none⟩)) (h7:a.tmps.getD 7 undef = .bool true) (hd:a.defers=[])
 (y6:w5.heap[b]? = some (.cells #[.int .i64 0,.slice none 0 0,.int .i64 0] 104 (0,0))) (hqk:q=none->k=0) (hc:Xz w5 w5.heap.size q pu) (hg:w.grownBy w5 none) (hb:w.heap.size<=b) :
 bodyPost Try.prog Try.f54 (Zm w (some ⟨lo,pu,wh⟩)) Exit.ret a ((((w5.setCell ⟨b,0,none⟩ (.int .i64 lo)).setCell ⟨b,1,none⟩ (.slice q pu.length k)).setCell ⟨b,2,none⟩ (.int .i64 wh)).alloc (.cells cs t)):=by
 have hB:=Zb (Zyq (x0 := .int .i64 lo) (x1 := .slice q pu.length k) (x2 := .int .i64 wh) y6) (Ga _ (.cells cs t) none) (by simp)
 have hne:∀ j,j<w5.heap.size->j≠b->((((w5.setCell ⟨b,0,none⟩ (.int .i64 lo)).setCell ⟨b,1,none⟩ (.slice q pu.length k)).setCell ⟨b,2,none⟩ (.int .i64 wh)).alloc (.cells cs t)).heap[j]? = w5.heap[j]? := fun j hj hb2=>by
  have s:∀ (X:World) (o:Nat) (v:Value),(X.setCell ⟨b,o,none⟩ v).heap[j]? = X.heap[j]? := fun X o v=>heap_setCell_other X _ j v (by intro e;exact hb2 (by rw [e]))
  rw [(Ga _ (.cells cs t) none).block j (by simp;omega) (by simp),s,s,s]
 have hg2:w.grownBy ((((w5.setCell ⟨b,0,none⟩ (.int .i64 lo)).setCell ⟨b,1,none⟩ (.slice q pu.length k)).setCell ⟨b,2,none⟩ (.int .i64 wh)).alloc (.cells cs t)) none :=
  Za (Zd (Zd (Zd hg hb) hb) hb) (Ga _ _ _)
 have hsz:w5.heap.size<=((((w5.setCell ⟨b,0,none⟩ (.int .i64 lo)).setCell ⟨b,1,none⟩ (.slice q pu.length k)).setCell ⟨b,2,none⟩ (.int .i64 wh)).alloc (.cells cs t)).heap.size:=by simp
 have hcc:=Zkh (Yqi hc y6 hne) hsz
 generalize ((((w5.setCell ⟨b,0,none⟩ (.int .i64 lo)).setCell ⟨b,1,none⟩ (.slice q pu.length k)).setCell ⟨b,2,none⟩ (.int .i64 wh)).alloc (.cells cs t))=W at *
 refine bodyPost_ret (v := .tuple #[.agg #[.int .i64 lo,.slice q pu.length k,.int .i64 wh],.bool true]) ?_ hd ⟨hg2,q,k,rfl,hqk,hcc⟩
 have k0:=Cq _ _ 0 _ _ _ hB
 have k1:=Cq _ _ 1 _ _ _ hB
 have k2:=Cq _ _ 2 _ _ _ hB
 have q0:=(Gs hB)
 clear hB hne hg2 hcc hsz y6 hc hg hqk
 rw [results_cell_tmp rfl,h6,h7]
 go_simp
theorem Yia (c:List Ins) (p:Option Addr) (cap B n lg:Nat) (w:World) (hB:B<=w.heap.size) (hC:Xz w B p c) (hn:n<c.length) (hl:c.length<=4096) (hR:Jl c) (hg:lg<=3) (hlong:n+lg<=c.length) (hj:(Zn c n).1=14->0<=(Zn c n).2/\(Zn c n).2<c.length) :
 Calls Try.prog 54 #[.slice p c.length cap,.int .i64 n,.int .i64 lg] w (Zm w (Zaj c n lg)):=by
 have C:=Hq hC
 have HJ:=Hq hj
 have G0:=Hq (Za (Ga w (.cells #[.int .i64 0,.slice none 0 0,.int .i64 0] 104) none) (Ga _ (.cells Xbz 106) none))
 have T0:=Hq (Xc w (.cells #[.int .i64 0,.slice none 0 0,.int .i64 0] 104) (.cells Xbz 106))
 have T1:=Hq (Yr w (.cells #[.int .i64 0,.slice none 0 0,.int .i64 0] 104) (.cells Xbz 106))
 clear hC hj
 go_enter Try.func54,Try.ntmps54
 go_wp2
 unfold Xbz at G0 T0 T1
 generalize (w.alloc (.cells #[.int .i64 0,.slice none 0 0,.int .i64 0] 104)).alloc (.cells #[.func (.func 66) #[] #[],.func (.func 67) #[] #[],.func (.func 68) #[] #[],.func (.func 69) #[] #[]] 106)=w2 at *
 go_loopw [14] (fun i wr=>∃ k:Nat,i = .int .i64 k/\k<=4/\w2.grownBy wr none/\∀ j,j<k->Yef c n lg j=none) (fun i _=>4 - (intOf i).toNat)
 case atStart=>exact ⟨0,rfl,Nat.zero_le _,Zc _ _,fun j h=>absurd h (Nat.not_lt_zero _)⟩
 case round =>
  obtain ⟨k,rfl,hk,hg2,hno⟩:=hrel
  have HG:=Hq hg2
  have HN:=Hq hno
  have x6:=Hq (Zb T0.out hg2 (by simp))
  have x7:=Hq (Zb T1.out hg2 (by simp))
  have CC:=Hq (Xo C.out (Za G0.out hg2) (by simp))
  have hBr:B<=wr.heap.size:=Nat.le_trans hB (Nat.le_trans G0.out.size hg2.size)
  have l6:=(Gs x6.out)
  have l7:=(Gs x7.out)
  clear hg2 hno
  rcases (by omega:k=0\/k=1\/k=2\/k=3\/k=4) with rfl|rfl|rfl|rfl|rfl
  · have M:=Hq (Ylj c p cap B n lg wr hBr CC.out hn hl HJ.out)
    have fv:=Cq _ _ 0 _ _ _ x7.out
    have hi0:((0:Nat):Int)<4:=by decide
    have E:=Hq (show Yef c n lg 0=Zax c n from rfl)
    cases hr:Zax c n with
    | none =>
      rw [hr] at M E
      go_wp2_with (go_at_call 66;refine M.out.mono ?_;rintro e w5 ⟨hg5,l5,wt5,q5,m5,k5,rfl⟩;have G5:=Hq hg5;clear hg5)
      go_roundw
      case rel=>exact ⟨0+1,rfl,by decide,Za HG.out (Za G5.out (Ga _ _ _)),Zlh HN.out E.out⟩
      case measure=>simp [intOf]
    | some x =>
      rw [hr] at M E
      obtain ⟨lo,pu,wh⟩:=x
      go_wp2_with (go_at_call 66;refine M.out.mono ?_;rintro e w5 ⟨hg5,q5,k5,rfl,hn5,hc5⟩;have HN5:=Hq hn5;clear hn5;have y6:=Zb x6.out hg5 (by simp);have Y6:=Hq y6;have C5:=Hq hc5;have k0:=Cq _ _ 0 _ _ _ y6;have k1:=Cq _ _ 1 _ _ _ y6;have k2:=Cq _ _ 2 _ _ _ y6;have z0:=frozen_of_row _ _ 0 _ _ y6;have z1:=frozen_of_row _ _ 1 _ _ y6;have z2:=frozen_of_row _ _ 2 _ _ y6;have l65:=(Gs y6);have G5:=Hq hg5;clear hg5 y6 hc5)
      rw [Zln c n lg 0 (by decide) HN.out _ E.out]
      exact Zix rfl rfl rfl Y6.out HN5.out C5.out (Za G0.out (Za HG.out G5.out)) (Nat.le_refl _)
  · have M:=Hq (Yhm c p cap B n lg wr hBr CC.out hn hl hR hg hlong)
    have fv:=Cq _ _ 1 _ _ _ x7.out
    have hi0:((1:Nat):Int)<4:=by decide
    have E:=Hq (show Yef c n lg 1=Zau c n lg from rfl)
    cases hr:Zau c n lg with
    | none =>
      rw [hr] at M E
      go_wp2_with (go_at_call 67;refine M.out.mono ?_;rintro e w5 ⟨hg5,l5,wt5,q5,m5,k5,rfl⟩;have G5:=Hq hg5;clear hg5)
      go_roundw
      case rel=>exact ⟨1+1,rfl,by decide,Za HG.out (Za G5.out (Ga _ _ _)),Zlh HN.out E.out⟩
      case measure=>simp [intOf]
    | some x =>
      rw [hr] at M E
      obtain ⟨lo,pu,wh⟩:=x
      go_wp2_with (go_at_call 67;refine M.out.mono ?_;rintro e w5 ⟨hg5,q5,k5,rfl,hn5,hc5⟩;have HN5:=Hq hn5;clear hn5;have y6:=Zb x6.out hg5 (by simp);have Y6:=Hq y6;have C5:=Hq hc5;have k0:=Cq _ _ 0 _ _ _ y6;have k1:=Cq _ _ 1 _ _ _ y6;have k2:=Cq _ _ 2 _ _ _ y6;have z0:=frozen_of_row _ _ 0 _ _ y6;have z1:=frozen_of_row _ _ 1 _ _ y6;have z2:=frozen_of_row _ _ 2 _ _ y6;have l65:=(Gs y6);have G5:=Hq hg5;clear hg5 y6 hc5)
      rw [Zln c n lg 1 (by decide) HN.out _ E.out]
      exact Zix rfl rfl rfl Y6.out HN5.out C5.out (Za G0.out (Za HG.out G5.out)) (Nat.le_refl _)
  · have M:=Hq (Yns c p cap B n lg wr hBr CC.out hn hl hg hlong)
    have fv:=Cq _ _ 2 _ _ _ x7.out
    have hi0:((2:Nat):Int)<4:=by decide
    have E:=Hq (show Yef c n lg 2=Zek c n lg from rfl)
    cases hr:Zek c n lg with
    | none =>
      rw [hr] at M E
      go_wp2_with (go_at_call 68;refine M.out.mono ?_;rintro e w5 ⟨hg5,l5,wt5,q5,m5,k5,rfl⟩;have G5:=Hq hg5;clear hg5)
      go_roundw
      case rel=>exact ⟨2+1,rfl,by decide,Za HG.out (Za G5.out (Ga _ _ _)),Zlh HN.out E.out⟩
      case measure=>simp [intOf]
    | some x =>
      rw [hr] at M E
      obtain ⟨lo,pu,wh⟩:=x
      go_wp2_with (go_at_call 68;refine M.out.mono ?_;rintro e w5 ⟨hg5,q5,k5,rfl,hn5,hc5⟩;have HN5:=Hq hn5;clear hn5;have y6:=Zb x6.out hg5 (by simp);have Y6:=Hq y6;have C5:=Hq hc5;have k0:=Cq _ _ 0 _ _ _ y6;have k1:=Cq _ _ 1 _ _ _ y6;have k2:=Cq _ _ 2 _ _ _ y6;have z0:=frozen_of_row _ _ 0 _ _ y6;have z1:=frozen_of_row _ _ 1 _ _ y6;have z2:=frozen_of_row _ _ 2 _ _ y6;have l65:=(Gs y6);have G5:=Hq hg5;clear hg5 y6 hc5)
      rw [Zln c n lg 2 (by decide) HN.out _ E.out]
      exact Zix rfl rfl rfl Y6.out HN5.out C5.out (Za G0.out (Za HG.out G5.out)) (Nat.le_refl _)
  · have M:=Hq (Yfe c p cap B n lg wr hBr CC.out hn hl hg hlong)
    have fv:=Cq _ _ 3 _ _ _ x7.out
    have hi0:((3:Nat):Int)<4:=by decide
    have E:=Hq (show Yef c n lg 3=Zce c n lg from rfl)
    cases hr:Zce c n lg with
    | none =>
      rw [hr] at M E
      go_wp2_with (go_at_call 69;refine M.out.mono ?_;rintro e w5 ⟨hg5,l5,wt5,q5,m5,k5,rfl⟩;have G5:=Hq hg5;clear hg5)
      go_roundw
      case rel=>exact ⟨3+1,rfl,by decide,Za HG.out (Za G5.out (Ga _ _ _)),Zlh HN.out E.out⟩
      case measure=>simp [intOf]
    | some x =>
      rw [hr] at M E
      obtain ⟨lo,pu,wh⟩:=x
      go_wp2_with (go_at_call 69;refine M.out.mono ?_;rintro e w5 ⟨hg5,q5,k5,rfl,hn5,hc5⟩;have HN5:=Hq hn5;clear hn5;have y6:=Zb x6.out hg5 (by simp);have Y6:=Hq y6;have C5:=Hq hc5;have k0:=Cq _ _ 0 _ _ _ y6;have k1:=Cq _ _ 1 _ _ _ y6;have k2:=Cq _ _ 2 _ _ _ y6;have z0:=frozen_of_row _ _ 0 _ _ y6;have z1:=frozen_of_row _ _ 1 _ _ y6;have z2:=frozen_of_row _ _ 2 _ _ y6;have l65:=(Gs y6);have G5:=Hq hg5;clear hg5 y6 hc5)
      rw [Zln c n lg 3 (by decide) HN.out _ E.out]
      exact Zix rfl rfl rfl Y6.out HN5.out C5.out (Za G0.out (Za HG.out G5.out)) (Nat.le_refl _)
  · have EN:=Hq (Ycu c n lg HN.out)
    have v0:=Cq _ _ 0 _ _ _ x6.out
    have v1:=Cq _ _ 1 _ _ _ x6.out
    have v2:=Cq _ _ 2 _ _ _ x6.out
    have z0:=frozen_of_row _ _ 0 _ _ x6.out
    have z1:=frozen_of_row _ _ 1 _ _ x6.out
    have z2:=frozen_of_row _ _ 2 _ _ x6.out
    go_wp2
    refine bodyPost_ret (v := .tuple #[.agg #[.int .i64 0,.slice none 0 0,.int .i64 0],.bool false]) ?_ rfl (EN.out.symm ▸ ⟨?_,0,0,none,0,0,rfl⟩)
    · rw [results_cell_tmp rfl]
      go_simp
    · refine Zd (Zd (Zd (Za G0.out HG.out) ?_) ?_) ?_ <;> simp
def Rd (w:World) (p:Option Addr) (xs:List Value):Prop:=xs≠[]->∃ b o:Nat,p=some ⟨b,o,none⟩/\∀ (j:Nat) (u:Value),xs[j]? = some u->w.cell? ⟨b,o+j,none⟩=some u
theorem Ys {w w':World} {p:Option Addr} {xs:List Value} (h:Rd w p xs) (g:w.grownBy w' none):Rd w' p xs:=fun h0=>by
 obtain ⟨b,o,e,hc⟩:=h h0
 exact ⟨b,o,e,fun j u hj=>g.cell (hc j u hj) (by simp)⟩
theorem Zis {w:World} {ad:Addr} {xs:List Value} (h:Rd w (some ad) xs):∀ j u,xs[j]? = some u->w.cell? (ad.add j)=some u:=fun j u hj=>by
 obtain ⟨b,o,e,hc⟩:=h (by intro e;rw [e] at hj;simp at hj)
 injection e with e
 subst e
 have q:=hc j u hj
 by_cases e0:j=0
 · subst e0;simpa [Addr.add] using q
 · simpa [Addr.add,e0] using q
theorem Zmp {w:World} {xs:List Value} (h:Rd w none xs):xs=[]:=by
 cases xs with
 | nil=>rfl
 | cons x r=>obtain ⟨b,o,e,_⟩:=h (by simp);cases e
theorem Zjb:(Try.prog.info? 49).map (fun i=>(i.zero,i.size,i.bytes))=some (some (.agg #[.int .i64 0,.int .i64 0]),2,16):=by kernel_rfl
theorem Zbw:Try.prog.underlying 50=some (.slice 49):=by kernel_rfl
theorem Yks (p:Option Addr) (n c:Nat) (xs:List Value) (w:World) (hl:xs.length=n*2) (h:Rd w p xs) (hx:∀ u∈xs,u.oneCell'=true) (hn:n<=4194304) :
 Calls Try.prog 29 #[.slice p n c] w fun e w'=>∃ v,e = .returned v/\w.grownBy w' none/\w'.ownsRow w.heap.size 49 2 v n xs:=by
 obtain ⟨bi,bi0,bi1,bi2,bi3⟩:=info_parts Zjb
 have hc3:0+n<=maxLen:=by unfold maxLen;omega
 have hc4:(0+n)*16<=140737488355328:=by omega
 cases p with
 | none =>
   have e0:=Zmp h
   subst e0
   have HL:=Hq (show n=0 by simp at hl;omega)
   have hq:∀ W:World,(binOp .eql 50 (.slice none n c) (.slice none 0 0)).run Try.prog W = .ok (.bool true) W:=fun W=>Lib.run_eql_slice_nil (P:=Try.prog) W 50 49 none n c 0 0 Zbw
   clear h hx hl
   go_enter Try.func29,Try.ntmps29
   go_wp2
   go_ret
   exact ⟨_,rfl,Zc _ _,by rw [HL.out];rfl,Or.inl ⟨rfl,HL.out⟩⟩
 | some ad =>
   have HC:=Hq (Zis (Ys h (Ga w (.cells #[] 49) none)))
   have O0:=Hq (World.ownsRow_lit (base:=w.heap.size) (e:=49) (size:=2) w #[] 0 (Nat.le_refl _) (by decide) rfl)
   have HL:=Hq hl
   have HX:=Hq hx
   have hq:∀ W:World,(binOp .eql 50 (.slice (some ad) n c) (.slice none 0 0)).run Try.prog W = .ok (.bool false) W:=fun W=>Lib.run_eql_slice_nil (P:=Try.prog) W 50 49 (some ad) n c 0 0 Zbw
   clear h hl hx
   go_enter Try.func29,Try.ntmps29
   go_wp2_with (at_builtin;refine wpList_append_own_at _ rfl _ _ 50 rfl w.heap.size 49 bi (.agg #[.int .i64 0,.int .i64 0]) 2 16 Zbw bi0 bi1 bi2 bi3 rfl (by decide) (.slice (some ⟨w.heap.size,0,none⟩) 0 0) _ _ rfl O0.out ad n c xs rfl HL.out HC.out HX.out hc3 hc4 (by simp) ?_;intro v3 w3 hown3 hgr3 hnil3 hat3;simp only [Nat.zero_add,List.nil_append] at hown3;obtain ⟨p3,k3,hv3⟩:=Zp hown3;subst hv3;have OW3:=Hq hown3;have GR3:=Hq hgr3;clear hown3 hgr3 hnil3 hat3)
   go_ret
   exact ⟨_,rfl,Yw (Ga w _ none) GR3.out fun k hk=>(O0.out.lt k hk).1,OW3.out⟩
theorem Zlr:(Try.prog.info? 52).map (fun i=>(i.zero,i.size,i.bytes))=some (some (.agg #[.int .i64 0,.int .i64 0,.int .i64 0,.slice none 0 0]),4,48):=by kernel_rfl
theorem Zhv:Try.prog.underlying 23=some (.slice 52):=by kernel_rfl
theorem Ykt (p:Option Addr) (n c:Nat) (xs:List Value) (w:World) (hl:xs.length=n*4) (h:Rd w p xs) (hx:∀ u∈xs,u.oneCell'=true) (hn:n<=4194304) :
 Calls Try.prog 28 #[.slice p n c] w fun e w'=>∃ v,e = .returned v/\w.grownBy w' none/\w'.ownsRow w.heap.size 52 4 v n xs:=by
 obtain ⟨bi,bi0,bi1,bi2,bi3⟩:=info_parts Zlr
 have hc3:0+n<=maxLen:=by unfold maxLen;omega
 have hc4:(0+n)*48<=140737488355328:=by omega
 cases p with
 | none =>
   have e0:=Zmp h
   subst e0
   have HL:=Hq (show n=0 by simp at hl;omega)
   have hq:∀ W:World,(binOp .eql 23 (.slice none n c) (.slice none 0 0)).run Try.prog W = .ok (.bool true) W:=fun W=>Lib.run_eql_slice_nil (P:=Try.prog) W 23 52 none n c 0 0 Zhv
   clear h hx hl
   go_enter Try.func28,Try.ntmps28
   go_wp2
   go_ret
   exact ⟨_,rfl,Zc _ _,by rw [HL.out];rfl,Or.inl ⟨rfl,HL.out⟩⟩
 | some ad =>
   have HC:=Hq (Zis (Ys h (Ga w (.cells #[] 52) none)))
   have O0:=Hq (World.ownsRow_lit (base:=w.heap.size) (e:=52) (size:=4) w #[] 0 (Nat.le_refl _) (by decide) rfl)
   have HL:=Hq hl
   have HX:=Hq hx
   have hq:∀ W:World,(binOp .eql 23 (.slice (some ad) n c) (.slice none 0 0)).run Try.prog W = .ok (.bool false) W:=fun W=>Lib.run_eql_slice_nil (P:=Try.prog) W 23 52 (some ad) n c 0 0 Zhv
   clear h hl hx
   go_enter Try.func28,Try.ntmps28
   go_wp2_with (at_builtin;refine wpList_append_own_at _ rfl _ _ 23 rfl w.heap.size 52 bi (.agg #[.int .i64 0,.int .i64 0,.int .i64 0,.slice none 0 0]) 4 48 Zhv bi0 bi1 bi2 bi3 rfl (by decide) (.slice (some ⟨w.heap.size,0,none⟩) 0 0) _ _ rfl O0.out ad n c xs rfl HL.out HC.out HX.out hc3 hc4 (by simp) ?_;intro v3 w3 hown3 hgr3 hnil3 hat3;simp only [Nat.zero_add,List.nil_append] at hown3;obtain ⟨p3,k3,hv3⟩:=Zp hown3;subst hv3;have OW3:=Hq hown3;have GR3:=Hq hgr3;clear hown3 hgr3 hnil3 hat3)
   go_ret
   exact ⟨_,rfl,Yw (Ga w _ none) GR3.out fun k hk=>(O0.out.lt k hk).1,OW3.out⟩
theorem Yql:(Try.prog.info? 5).map (fun i=>(i.zero,i.size,i.bytes))=some (some (.int .u8 0),1,1):=by kernel_rfl
theorem Zyn:Try.prog.underlying 22=some (.slice 5):=by kernel_rfl
theorem Yku (p:Option Addr) (n c:Nat) (xs:List Value) (w:World) (hl:xs.length=n*1) (h:Rd w p xs) (hx:∀ u∈xs,u.oneCell'=true) (hn:n<=4194304) :
 Calls Try.prog 27 #[.slice p n c] w fun e w'=>∃ v,e = .returned v/\w.grownBy w' none/\w'.ownsRow w.heap.size 5 1 v n xs:=by
 obtain ⟨bi,bi0,bi1,bi2,bi3⟩:=info_parts Yql
 have hc3:0+n<=maxLen:=by unfold maxLen;omega
 have hc4:(0+n)*1<=140737488355328:=by omega
 cases p with
 | none =>
   have e0:=Zmp h
   subst e0
   have HL:=Hq (show n=0 by simp at hl;omega)
   have hq:∀ W:World,(binOp .eql 22 (.slice none n c) (.slice none 0 0)).run Try.prog W = .ok (.bool true) W:=fun W=>Lib.run_eql_slice_nil (P:=Try.prog) W 22 5 none n c 0 0 Zyn
   clear h hx hl
   go_enter Try.func27,Try.ntmps27
   go_wp2
   go_ret
   exact ⟨_,rfl,Zc _ _,by rw [HL.out];rfl,Or.inl ⟨rfl,HL.out⟩⟩
 | some ad =>
   have HC:=Hq (Zis (Ys h (Ga w (.cells #[] 5) none)))
   have O0:=Hq (World.ownsRow_lit (base:=w.heap.size) (e:=5) (size:=1) w #[] 0 (Nat.le_refl _) (by decide) rfl)
   have HL:=Hq hl
   have HX:=Hq hx
   have hq:∀ W:World,(binOp .eql 22 (.slice (some ad) n c) (.slice none 0 0)).run Try.prog W = .ok (.bool false) W:=fun W=>Lib.run_eql_slice_nil (P:=Try.prog) W 22 5 (some ad) n c 0 0 Zyn
   clear h hl hx
   go_enter Try.func27,Try.ntmps27
   go_wp2_with (at_builtin;refine wpList_append_own_at _ rfl _ _ 22 rfl w.heap.size 5 bi (.int .u8 0) 1 1 Zyn bi0 bi1 bi2 bi3 rfl (by decide) (.slice (some ⟨w.heap.size,0,none⟩) 0 0) _ _ rfl O0.out ad n c xs rfl HL.out HC.out HX.out hc3 hc4 (by simp) ?_;intro v3 w3 hown3 hgr3 hnil3 hat3;simp only [Nat.zero_add,List.nil_append] at hown3;obtain ⟨p3,k3,hv3⟩:=Zp hown3;subst hv3;have OW3:=Hq hown3;have GR3:=Hq hgr3;clear hown3 hgr3 hnil3 hat3)
   go_ret
   exact ⟨_,rfl,Yw (Ga w _ none) GR3.out fun k hk=>(O0.out.lt k hk).1,OW3.out⟩
def Xn:List FnP->List Value->List Value
 | f::r,v::s => .int .i64 f.1 :: .int .i64 f.2.1 :: .int .i64 f.2.2.1::v::Xn r s
 | _,_=>[]
theorem Zgq:∀ (fs:List FnP) (cv:List Value),cv.length=fs.length->(Xn fs cv).length=fs.length*4
 | [],[],_=>rfl
 | [],_::_,h=>by simp at h
 | _::_,[],h=>by simp at h
 | f::r,v::s,h=>by simp [Xn,Zgq r s (by simpa using h)];omega
theorem Jj:∀ (fs:List FnP) (cv:List Value) (i:Nat) (f:FnP) (v:Value),fs[i]? = some f->cv[i]? = some v->(Xn fs cv)[i*4]? = some (.int .i64 f.1)/\(Xn fs cv)[i*4+1]? = some (.int .i64 f.2.1)/\(Xn fs cv)[i*4+2]? = some (.int .i64 f.2.2.1)/\(Xn fs cv)[i*4+3]? = some v
 | [],_,i,f,v,h,_=>by simp at h
 | _::_,[],i,f,v,_,h=>by simp at h
 | g::r,u::s,0,f,v,h,h'=>by simp at h h';subst h;subst h';simp [Xn]
 | g::r,u::s,i+1,f,v,h,h'=>by
   obtain ⟨h1,h2,h3,h4⟩:=Jj r s i f v (by simpa using h) (by simpa using h')
   have e:(i+1)*4=i*4+1+1+1+1:=by omega
   rw [e]
   simp only [Xn]
   exact ⟨by simpa using h1,by simpa using h2,by simpa using h3,by simpa using h4⟩
theorem Znj:∀ (fs:List FnP) (cv:List Value) (i:Nat) (v:Value),(Xn fs cv).set (i*4+3) v=Xn fs (cv.set i v)
 | [],cv,i,v=>by simp [Xn]
 | _::_,[],i,v=>by simp [Xn]
 | g::r,u::s,0,v=>by simp [Xn]
 | g::r,u::s,i+1,v=>by
   have ih:=Znj r s i v
   have e:(i+1)*4+3=(i*4+3)+1+1+1+1:=by omega
   rw [e]
   simp only [Xn,List.set_cons_succ,ih]
theorem Zhh:∀ (fs gs:List FnP) (cv:List Value),fs.length=gs.length->(∀ (i:Nat) (f g:FnP),fs[i]? = some f->gs[i]? = some g->f.1=g.1/\f.2.1=g.2.1/\f.2.2.1=g.2.2.1)->Xn fs cv=Xn gs cv
 | [],[],_,_,_=>rfl
 | [],_::_,_,h,_=>by simp at h
 | _::_,[],_,h,_=>by simp at h
 | _::_,_::_,[],_,_=>rfl
 | f::r,g::s,v::t,h,e=>by
   obtain ⟨e1,e2,e3⟩:=e 0 f g rfl rfl
   simp only [Xn,e1,e2,e3,Zhh r s t (by simpa using h) (fun i a b ha hb=>e (i+1) a b (by simpa using ha) (by simpa using hb))]
theorem Yjz {fs:List FnP} {cv:List Value} (hv:∀ v∈cv,v.oneCell'=true):∀ u∈Xn fs cv,u.oneCell'=true:=by
 induction fs generalizing cv with
 | nil=>intro u hu;simp [Xn] at hu
 | cons f r ih =>
   cases cv with
   | nil=>intro u hu;simp [Xn] at hu
   | cons v s =>
     intro u hu
     simp only [Xn,List.mem_cons] at hu
     rcases hu with rfl|rfl|rfl|rfl|hu
     · rfl
     · rfl
     · rfl
     · exact hv _ (List.mem_cons_self ..)
     · exact ih (fun v' hv'=>hv v' (List.mem_cons_of_mem _ hv')) u hu
structure Zas (w:World) (base:Nat) (D F:Value) (dl:List Int) (fs:List FnP) (cv:List Value):Prop where
 dt:w.ownsRow base 5 1 D dl.length (dl.map (Value.int .u8))
 fr:w.ownsRow base 52 4 F fs.length (Xn fs cv)
 cl:cv.length=fs.length
 each:∀ (k:Nat) (f:FnP) (v:Value),fs[k]? = some f->cv[k]? = some v->w.ownsRow base 49 2 v f.2.2.2.length (Yc f.2.2.2)
 dis:∀ (k l:Nat) (v v':Value) (b:Nat),k≠l->cv[k]? = some v->cv[l]? = some v'->v.ownBlock=some b->v'.ownBlock≠some b
theorem Zxm {P:Nat->Prop} {w w':World} {base:Nat} {D F:Value} {dl:List Int} {fs:List FnP} {cv:List Value} (h:Zas w base D F dl fs cv) (g:Sp P w w') (hp:∀ k,base<=k->¬ P k):Zas w' base D F dl fs cv :=
 ⟨Zdo h.dt g fun k hk=>hp k (h.dt.lt k hk).1,Zdo h.fr g fun k hk=>hp k (h.fr.lt k hk).1,h.cl,fun k f v hf hv=>Zdo (h.each k f v hf hv) g fun b hb=>hp b ((h.each k f v hf hv).lt b hb).1,h.dis⟩
theorem Yv {w w':World} {base:Nat} {D F:Value} {dl:List Int} {fs:List FnP} {cv:List Value} (h:Zas w base D F dl fs cv) (g:w.grownBy w' none):Zas w' base D F dl fs cv :=
 Zxm (P:=fun _=>False) h (Yf g (by simp)) (fun _ _ h=>h)
theorem Jm {w:World} {base base':Nat} {D F:Value} {dl:List Int} {fs:List FnP} {cv:List Value} (h:Zas w base D F dl fs cv) (hb:base'<=base):Zas w base' D F dl fs cv :=
 ⟨Zz h.dt hb,Zz h.fr hb,h.cl,fun k f v hf hv=>Zz (h.each k f v hf hv) hb,h.dis⟩
theorem Zvv {w:World} {base:Nat} {p:Option Addr} {n k:Nat} {c:List Ins} (h:w.ownsRow base 49 2 (.slice p n k) c.length (Yc c)):n=c.length/\Xz w w.heap.size p c:=by
 obtain ⟨p',k',e⟩:=Zp h
 injection e with e1 e2 e3
 refine ⟨e2,fun h0 => ?_⟩
 obtain ⟨g,cap,hv,hg,hc⟩:=Zx h h0
 injection hv with hv _ _
 refine ⟨g,0,hv,hg,fun i op a hi => ?_⟩
 obtain ⟨q0,q1⟩:=Xy c i op a hi
 have hl:=(List.getElem?_eq_some_iff.1 hi).1
 rw [Nat.zero_add]
 exact ⟨hc _ _ q0 (by omega),hc _ _ q1 (by omega)⟩
theorem Xa {w:World} {base:Nat} {D F:Value} {dl:List Int} {fs:List FnP} {cv:List Value} (h:Zas w base D F dl fs cv):∃ (pD pF:Option Addr) (cD cF:Nat),D = .slice pD dl.length cD/\F = .slice pF fs.length cF:=by
 obtain ⟨pD,cD,e1⟩:=Zp h.dt
 obtain ⟨pF,cF,e2⟩:=Zp h.fr
 exact ⟨pD,pF,cD,cF,e1,e2⟩
theorem Zel {w:World} {base:Nat} {D:Value} {pF:Option Addr} {cF:Nat} {dl:List Int} {fs:List FnP} {cv:List Value} (h:Zas w base D (.slice pF fs.length cF) dl fs cv):Yl w w.heap.size pF fs:=fun h0=>by
 obtain ⟨g,cap,hv,hg,hc⟩:=Zx h.fr h0
 injection hv with hv _ _
 refine ⟨g,0,hv,hg,fun i a l r c hi => ?_⟩
 have hil:=(List.getElem?_eq_some_iff.1 hi).1
 obtain ⟨v,hv2⟩:∃ v,cv[i]? = some v:=⟨_,List.getElem?_eq_getElem (by rw [h.cl];exact hil)⟩
 obtain ⟨q0,q1,q2,q3⟩:=Jj fs cv i _ v hi hv2
 have ho:=h.each i _ v hi hv2
 obtain ⟨pc,cc,rfl⟩:=Zp ho
 rw [Nat.zero_add]
 exact ⟨hc _ _ q0 (by omega),hc _ _ q1 (by omega),hc _ _ q2 (by omega),pc,cc,hc _ _ q3 (by omega),(Zvv ho).2⟩
theorem Zem {w:World} {base:Nat} {F:Value} {pD:Option Addr} {n cD:Nat} {dl:List Int} {fs:List FnP} {cv:List Value} (h:Zas w base (.slice pD n cD) F dl fs cv):Rd w pD (dl.map (Value.int .u8)):=fun h0=>by
 have hl:0<dl.length:=by
  cases dl with
  | nil=>simp at h0
  | cons x r=>simp
 obtain ⟨g,cap,hv,hg,hc⟩:=Zx h.dt hl
 injection hv with hv _ _
 refine ⟨g,0,hv,fun j u hj => ?_⟩
 have:=(List.getElem?_eq_some_iff.1 hj).1
 rw [Nat.zero_add]
 exact hc j u hj (by simpa using this)
theorem Zzv {w w':World} {base:Nat} {D:Value} {g cF:Nat} {dl:List Int} {fs:List FnP} {cv:List Value} {i:Nat} {f f':FnP} {v:Value} (h:Zas w base D (.slice (some ⟨g,0,none⟩) fs.length cF) dl fs cv) (hf:fs[i]? = some f) (he:f.1=f'.1/\f.2.1=f'.2.1/\f.2.2.1=f'.2.2.1)
 (hv:w.ownsRow base 49 2 v f'.2.2.2.length (Yc f'.2.2.2)) (hd:∀ (k:Nat) (v':Value) (b:Nat),k≠i->cv[k]? = some v'->v'.ownBlock=some b->v.ownBlock≠some b) :
 Zas (w.setCell ⟨g,i*4+3,none⟩ v) base D (.slice (some ⟨g,0,none⟩) fs.length cF) dl (fs.set i f') (cv.set i v):=by
 have hil:=(List.getElem?_eq_some_iff.1 hf).1
 have gs:=Zh w g (i*4+3) v
 have hrow:(w.setCell ⟨g,i*4+3,none⟩ v).ownsRow base 52 4 (.slice (some ⟨g,0,none⟩) fs.length cF) fs.length ((Xn fs cv).set (i*4+3) v):=(h.fr.stored _ _).1
 rw [Znj] at hrow
 have hfl:Xn fs (cv.set i v)=Xn (fs.set i f') (cv.set i v):=by
  refine Zhh _ _ _ (by simp) fun j a b ha hb => ?_
  by_cases e:j=i
  · subst e
    rw [hf] at ha
    rw [List.getElem?_set_self hil] at hb
    injection ha with ha;injection hb with hb
    subst ha;subst hb
    exact he
  · rw [List.getElem?_set_ne (Ne.symm e)] at hb
    rw [ha] at hb
    injection hb with hb
    subst hb
    exact ⟨rfl,rfl,rfl⟩
 have ne:∀ (v2:Value) (n:Nat) (xs:List Value) (E:TypeId) (sz:Nat),w.ownsRow base E sz v2 n xs->E≠52->v2.ownBlock=none\/v2.ownBlock≠some g:=fun v2 n xs E sz ho hE=>Xq ho h.fr hE
 refine ⟨h.dt.kept gs (ne _ _ _ _ _ h.dt (by decide)),by rw [List.length_set,<- hfl];exact hrow,by rw [List.length_set,List.length_set];exact h.cl,fun k a b ha hb => ?_,fun k l a b bb hkl ha hb hab => ?_⟩
 · by_cases e:k=i
   · subst e
     rw [List.getElem?_set_self hil] at ha
     rw [List.getElem?_set_self (by rw [h.cl];exact hil)] at hb
     injection ha with ha;injection hb with hb
     subst ha;subst hb
     exact hv.kept gs (ne _ _ _ _ _ hv (by decide))
   · rw [List.getElem?_set_ne (Ne.symm e)] at ha hb
     exact (h.each k a b ha hb).kept gs (ne _ _ _ _ _ (h.each k a b ha hb) (by decide))
 · have hic:i<cv.length:=by rw [h.cl];exact hil
   by_cases e:k=i
   · subst e
     rw [List.getElem?_set_self hic] at ha
     rw [List.getElem?_set_ne hkl] at hb
     injection ha with ha
     subst ha
     intro e2
     exact hd l b bb (Ne.symm hkl) hb e2 hab
   · rw [List.getElem?_set_ne (Ne.symm e)] at ha
     by_cases e2:l=i
     · subst e2
       rw [List.getElem?_set_self hic] at hb
       injection hb with hb
       subst hb
       exact hd k a bb e ha hab
     · rw [List.getElem?_set_ne (Ne.symm e2)] at hb
       exact h.dis k l a b bb hkl ha hb hab
section
variable {H:Type} {enc:TypeId × Value->H} {P:Program} {w:World}
theorem Zcs {t:TypeId} {fs:Array Field} {fuel:Nat} {cs:List Value} {x:DataW H × List MemPlace} (ht:P.underlying t=some (.struct fs)) (h:DataW.trod enc P w 0 (fun _=>true) true fuel t cs=some x) (i:Nat) (f:Field) (hf:fs[i]? = some f) (hc:P.cellsOf f.type=1) (k:Nat) (hk:P.cellsOf t=k) (ho:f.offset<k) :
 cs.length=k/\∃ n v y,cs[f.offset]? = some v/\DataW.trod enc P w 0 (fun _=>true) true n f.type [v]=some y:=by
 obtain ⟨xs,n,_,rfl,hl,hlen,hfl⟩:=DataW.trod_struct ht h
 rw [hk] at hl
 have hi:i<xs.length:=by rw [hlen];exact (Gs hf)
 have h1:=hfl i f hf
 have ho':f.offset<cs.length:=by omega
 have hx:(cs.drop f.offset).take (P.cellsOf f.type)=[cs[f.offset]]:=by
  rw [hc,List.drop_eq_getElem_cons ho'];rfl
 rw [hx,List.getElem?_eq_getElem hi] at h1
 exact ⟨hl,n,cs[f.offset],xs[i],List.getElem?_eq_getElem ho',h1⟩
theorem Ylo (b o i j:Nat):((⟨b,o,none⟩:Addr).add i).add j=⟨b,o+i+j,none⟩:=by
 by_cases h:i=0 <;> by_cases h2:j=0 <;> simp [Addr.add,h,h2]
theorem Zqn {t e:TypeId} {fuel:Nat} {v:Value} {x:DataW H × List MemPlace} (ht:P.underlying t=some (.slice e)) (k:Nat) (hk:P.cellsOf e=k) (k0:0<k) (h:DataW.trod enc P w 0 (fun _=>true) true fuel t [v]=some x) :
 ∃ (p:Option Addr) (len cap:Nat),v = .slice p len cap/\len<=maxLen/\(0<len->∃ b o,p=some ⟨b,o,none⟩/\b<w.heap.size/\∀ i,i<len->∃ cs' n y,cs'.length=k/\(∀ j,j<k->w.cell? ⟨b,o+i*k+j,none⟩=cs'[j]?)/\DataW.trod enc P w 0 (fun _=>true) true n e cs'=some y):=by
 rcases Deep.open_slice ht h with ⟨hcs,rfl⟩|⟨a,len,cap,m,n,D,Pl,hcs,_,hl,hm,hmm,rfl,hx⟩
 · injection hcs with hcs _
   exact ⟨none,0,0,hcs,Nat.zero_le _,fun h=>absurd h (Nat.lt_irrefl _)⟩
 · injection hcs with hcs _
   simp only [if_true] at hmm
   subst hmm
   refine ⟨some a,len,m,hcs,Nat.le_trans hl hm,fun h0 => ?_⟩
   obtain ⟨b,o,spot⟩:=a
   have hcell:∀ i,i<m->∃ cs',cs'.length=k/\(∀ j,j<k->w.cell? (((⟨b,o,spot⟩:Addr).add (i*k)).add j)=cs'[j]?)/\DataW.trod enc P w 0 (fun _=>true) true n e cs'=some (D i,Pl i):=by
    intro i hi
    obtain ⟨cs',h1,h2⟩:=hx i hi
    rw [hk] at h1
    obtain ⟨_,h3,h4⟩:=World.cells?_some h1
    exact ⟨cs',h3,h4,h2⟩
   have hspot:spot=none:=by
    obtain ⟨cs',h3,h4,_⟩:=hcell 0 (by omega)
    have h5:=h4 0 k0
    rw [List.getElem?_eq_getElem (by omega)] at h5
    have h6:=World.cell?_spot h5
    simpa [Addr.add] using h6
   subst hspot
   refine ⟨b,o,rfl,?_,fun i hi => ?_⟩
   · obtain ⟨cs',h3,h4,_⟩:=hcell 0 (by omega)
     have h5:=h4 0 k0
     rw [List.getElem?_eq_getElem (by omega),Ylo] at h5
     exact World.block_lt_of_cell? _ _ h5
   · obtain ⟨cs',h3,h4,h5⟩:=hcell i (by omega)
     exact ⟨cs',n,_,h3,fun j hj=>by rw [<- Ylo];exact h4 j hj,h5⟩
theorem Xer {α:Type} {l:List α} (h:l.length=1):∃ a,l=[a]:=by
 match l,h with
 | [a],_=>exact ⟨a,rfl⟩
theorem Xeq {α:Type} {l:List α} (h:l.length=3):∃ a b c,l=[a,b,c]:=by
 match l,h with
 | [a,b,c],_=>exact ⟨a,b,c,rfl⟩
end
section
variable {H:Type} {enc:TypeId × Value->H} {w:World}
theorem Xbg:Try.prog.underlying 5=some (.int .u8):=by kernel_rfl
theorem Yvo:Try.prog.underlying 3=some (.int .i64):=by kernel_rfl
theorem Ycm {fuel:Nat} {v:Value} {x:DataW H × List MemPlace} (h:DataW.trod enc Try.prog w 0 (fun _=>true) true fuel 22 [v]=some x) :
 ∃ (p:Option Addr) (d:List Int) (cap:Nat),v = .slice p d.length cap/\Rd w p (d.map (Value.int .u8))/\d.length<=9223372036854775807:=by
 obtain ⟨p,len,cap,rfl,hm,hx⟩:=Zqn (k:=1) Zfl (by kernel_rfl) (by decide) h
 have hex:∃ N:Nat->Int,0<len->∃ b o,p=some ⟨b,o,none⟩/\∀ i,i<len->w.cell? ⟨b,o+i,none⟩=some (.int .u8 (N i)):=by
  rcases Nat.eq_zero_or_pos len with h0|h0
  · exact ⟨fun _=>0,fun h=>by omega⟩
  · obtain ⟨b,o,rfl,hbl,hi⟩:=hx h0
    have:∀ i,i<len->∃ N:Int,w.cell? ⟨b,o+i,none⟩=some (.int .u8 N):=by
     intro i hil
     obtain ⟨cs',n,y,h3,h4,h5⟩:=hi i hil
     obtain ⟨c,rfl⟩:=Xer h3
     obtain ⟨N,e,_,_⟩:=DataW.trod_int Xbg h5
     injection e with e;subst e
     have:=h4 0 (by decide)
     rw [Nat.mul_one,Nat.add_zero] at this
     exact ⟨N,this⟩
    obtain ⟨N,hN⟩:=Deep.choose_lt this
    exact ⟨N,fun _=>⟨b,o,rfl,hN⟩⟩
 obtain ⟨N,hN⟩:=hex
 refine ⟨p,(List.range len).map N,cap,by simp,fun h0 => ?_,by simpa [maxLen] using hm⟩
 have h0:0<len:=by
  rcases Nat.eq_zero_or_pos len with h1|h1
  · subst h1;simp at h0
  · exact h1
 obtain ⟨b,o,e,hi⟩:=hN h0
 refine ⟨b,o,e,fun j u hj => ?_⟩
 have hl:=(List.getElem?_eq_some_iff.1 hj).1
 simp only [List.length_map,List.length_range] at hl
 rw [hi j hl]
 simp [hl] at hj
 rw [hj]
theorem Zej {fuel:Nat} {v:Value} {x:DataW H × List MemPlace} (h:DataW.trod enc Try.prog w 0 (fun _=>true) true fuel 3 [v]=some x):∃ n,v = .int .i64 n/\InR n:=by
 obtain ⟨n,e,_,hw⟩:=DataW.trod_int Yvo h
 injection e with e
 refine ⟨n,e,?_⟩
 simp only [Lit.wf,Bool.and_eq_true,decide_eq_true_eq] at hw
 have h1:IntKind.i64.min = -9223372036854775808:=by decide
 have h2:IntKind.i64.max=9223372036854775807:=by decide
 rw [h1,h2] at hw
 exact hw
theorem Ygm {fuel:Nat} {v:Value} {x:DataW H × List MemPlace} (h:DataW.trod enc Try.prog w 0 (fun _=>true) true fuel 50 [v]=some x) :
 ∃ (p:Option Addr) (c:List Ins) (cap:Nat),v = .slice p c.length cap/\Xz w w.heap.size p c/\Jl c:=by
 obtain ⟨p,len,cap,rfl,hm,hx⟩:=Zqn (k:=2) Zbw (by kernel_rfl) (by decide) h
 have hex:∃ N:Nat->Ins,(∀ i,i<len->InR (N i).2)/\(0<len->∃ b o,p=some ⟨b,o,none⟩/\b<w.heap.size/\∀ i,i<len->w.cell? ⟨b,o+i*2,none⟩=some (.int .i64 (N i).1)/\w.cell? ⟨b,o+i*2+1,none⟩=some (.int .i64 (N i).2)):=by
  rcases Nat.eq_zero_or_pos len with h0|h0
  · exact ⟨fun _=>(0,0),fun i h=>by omega,fun h=>by omega⟩
  · obtain ⟨b,o,rfl,hbl,hi⟩:=hx h0
    have:∀ i,i<len->∃ N:Ins,InR N.2/\w.cell? ⟨b,o+i*2,none⟩=some (.int .i64 N.1)/\w.cell? ⟨b,o+i*2+1,none⟩=some (.int .i64 N.2):=by
     intro i hil
     obtain ⟨cs',n,y,h3,h4,h5⟩:=hi i hil
     obtain ⟨_,_,v0,y0,g0,t0⟩:=Zcs (k:=2) Try.underlying49 h5 0 _ rfl (by kernel_rfl) (by kernel_rfl) (by decide)
     obtain ⟨_,_,v1,y1,g1,t1⟩:=Zcs (k:=2) Try.underlying49 h5 1 _ rfl (by kernel_rfl) (by kernel_rfl) (by decide)
     obtain ⟨op,rfl,_⟩:=Zej t0
     obtain ⟨a,rfl,ha⟩:=Zej t1
     exact ⟨(op,a),ha,(h4 0 (by decide)).trans g0,(h4 1 (by decide)).trans g1⟩
    obtain ⟨N,hN⟩ := @Deep.choose_lt _ ⟨((0,0):Ins)⟩ _ _ this
    exact ⟨N,fun i hi=>(hN i hi).1,fun _=>⟨b,o,rfl,hbl,fun i hi=>(hN i hi).2⟩⟩
 obtain ⟨N,hR,hN⟩:=hex
 refine ⟨p,(List.range len).map N,cap,by simp,fun h0 => ?_,fun y hy => ?_⟩
 · simp only [List.length_map,List.length_range] at h0
   obtain ⟨b,o,e,hbl,hi⟩:=hN h0
   refine ⟨b,o,e,hbl,fun j op a hj => ?_⟩
   have hl:=(List.getElem?_eq_some_iff.1 hj).1
   simp only [List.length_map,List.length_range] at hl
   have:=hi j hl
   have e:N j=(op,a):=by simpa [hl] using hj
   rw [e] at this
   exact this
 · obtain ⟨i,hi,rfl⟩:=List.mem_map.1 hy
   exact hR i (List.mem_range.1 hi)
theorem Yng {fuel:Nat} {v:Value} {x:DataW H × List MemPlace} (h:DataW.trod enc Try.prog w 0 (fun _=>true) true fuel 23 [v]=some x) :
 ∃ (p:Option Addr) (fs:List FnP) (cap:Nat),v = .slice p fs.length cap/\Yl w w.heap.size p fs/\∀ f∈fs,Jl f.2.2.2:=by
 obtain ⟨p,len,cap,rfl,hm,hx⟩:=Zqn (k:=4) Zhv (by kernel_rfl) (by decide) h
 have hex:∃ N:Nat->FnP,(∀ i,i<len->Jl (N i).2.2.2)/\(0<len->∃ b o,p=some ⟨b,o,none⟩/\b<w.heap.size/\∀ i,i<len->w.cell? ⟨b,o+i*4,none⟩=some (.int .i64 (N i).1)/\w.cell? ⟨b,o+i*4+1,none⟩=some (.int .i64 (N i).2.1)/\w.cell? ⟨b,o+i*4+2,none⟩=some (.int .i64 (N i).2.2.1)/\∃ (pc:Option Addr) (cc:Nat),w.cell? ⟨b,o+i*4+3,none⟩=some (.slice pc (N i).2.2.2.length cc)/\Xz w w.heap.size pc (N i).2.2.2):=by
  rcases Nat.eq_zero_or_pos len with h0|h0
  · exact ⟨fun _=>(0,0,0,[]),fun i h=>by omega,fun h=>by omega⟩
  · obtain ⟨b,o,rfl,hbl,hi⟩:=hx h0
    have:∀ i,i<len->∃ N:FnP,Jl N.2.2.2/\w.cell? ⟨b,o+i*4,none⟩=some (.int .i64 N.1)/\w.cell? ⟨b,o+i*4+1,none⟩=some (.int .i64 N.2.1)/\w.cell? ⟨b,o+i*4+2,none⟩=some (.int .i64 N.2.2.1)/\∃ (pc:Option Addr) (cc:Nat),w.cell? ⟨b,o+i*4+3,none⟩=some (.slice pc N.2.2.2.length cc)/\Xz w w.heap.size pc N.2.2.2:=by
     intro i hil
     obtain ⟨cs',n,y,h3,h4,h5⟩:=hi i hil
     obtain ⟨_,_,v0,y0,g0,t0⟩:=Zcs (k:=4) Try.underlying52 h5 0 _ rfl (by kernel_rfl) (by kernel_rfl) (by decide)
     obtain ⟨_,_,v1,y1,g1,t1⟩:=Zcs (k:=4) Try.underlying52 h5 1 _ rfl (by kernel_rfl) (by kernel_rfl) (by decide)
     obtain ⟨_,_,v2,y2,g2,t2⟩:=Zcs (k:=4) Try.underlying52 h5 2 _ rfl (by kernel_rfl) (by kernel_rfl) (by decide)
     obtain ⟨_,_,v3,y3,g3,t3⟩:=Zcs (k:=4) Try.underlying52 h5 3 _ rfl (by kernel_rfl) (by kernel_rfl) (by decide)
     obtain ⟨a,rfl,_⟩:=Zej t0
     obtain ⟨l,rfl,_⟩:=Zej t1
     obtain ⟨r,rfl,_⟩:=Zej t2
     obtain ⟨pc,c,cc,rfl,hc,hr⟩:=Ygm t3
     exact ⟨(a,l,r,c),hr,(h4 0 (by decide)).trans g0,(h4 1 (by decide)).trans g1,(h4 2 (by decide)).trans g2,pc,cc,(h4 3 (by decide)).trans g3,hc⟩
    obtain ⟨N,hN⟩ := @Deep.choose_lt _ ⟨((0,0,0,[]):FnP)⟩ _ _ this
    exact ⟨N,fun i hi=>(hN i hi).1,fun _=>⟨b,o,rfl,hbl,fun i hi=>(hN i hi).2⟩⟩
 obtain ⟨N,hR,hN⟩:=hex
 refine ⟨p,(List.range len).map N,cap,by simp,fun h0 => ?_,fun y hy => ?_⟩
 · simp only [List.length_map,List.length_range] at h0
   obtain ⟨b,o,e,hbl,hi⟩:=hN h0
   refine ⟨b,o,e,hbl,fun j a l r c hj => ?_⟩
   have hl:=(List.getElem?_eq_some_iff.1 hj).1
   simp only [List.length_map,List.length_range] at hl
   have:=hi j hl
   have e:N j=(a,l,r,c):=by simpa [hl] using hj
   rw [e] at this
   exact this
 · obtain ⟨i,hi,rfl⟩:=List.mem_map.1 hy
   exact hR i (List.mem_range.1 hi)
theorem Ygl {v:Value} {d:DataW H} {ps:List MemPlace} (hv:∃ cs,v = .agg cs) (h:DataW.Trod enc Try.prog w 0 (fun _=>true) true 25 v d ps) :
 ∃ (mem:Int) (dl:List Int) (fs:List FnP) (pd pF:Option Addr) (cd cF:Nat),v = .agg #[.int .i64 mem,.slice pd dl.length cd,.slice pF fs.length cF]/\Yl w w.heap.size pF fs/\Rd w pd (dl.map (Value.int .u8))/\dl.length<=9223372036854775807/\∀ f∈fs,Jl f.2.2.2:=by
 obtain ⟨cs,rfl⟩:=hv
 obtain ⟨fuel,h⟩:=h
 have h':DataW.trod enc Try.prog w 0 (fun _=>true) true fuel 25 cs.toList=some (d,ps):=h
 obtain ⟨hl,_,v0,y0,g0,t0⟩:=Zcs (k:=3) Try.underlying25 h' 0 _ rfl (by kernel_rfl) (by kernel_rfl) (by decide)
 obtain ⟨_,_,v1,y1,g1,t1⟩:=Zcs (k:=3) Try.underlying25 h' 1 _ rfl (by kernel_rfl) (by kernel_rfl) (by decide)
 obtain ⟨_,_,v2,y2,g2,t2⟩:=Zcs (k:=3) Try.underlying25 h' 2 _ rfl (by kernel_rfl) (by kernel_rfl) (by decide)
 obtain ⟨mem,rfl,_⟩:=Zej t0
 obtain ⟨pd,dl,cd,rfl,hd,hn⟩:=Ycm t1
 obtain ⟨pF,fs,cF,rfl,hF,hR⟩:=Yng t2
 refine ⟨mem,dl,fs,pd,pF,cd,cF,?_,hF,hd,hn,hR⟩
 obtain ⟨a,b,c,e⟩:=Xeq hl
 have:cs = #[a,b,c]:=by
  have:=congrArg List.toArray e
  simpa using this
 subst this
 simp at g0 g1 g2
 rw [g0,g1,g2]
end
def Zsv (w:World) (mem:Int) (dl:List Int) (fs:List FnP) (e:Ending) (w':World):Prop :=
 ∃ D F cv,e = .returned (.agg #[.int .i64 mem,D,F])/\w.grownBy w' none/\Zas w' w.heap.size D F dl fs cv
def Xfi (w:World) (B:Nat) (fs:List FnP) (cv:List Value):Prop:=cv.length=fs.length/\∀ (k:Nat) (f:FnP) (v:Value),fs[k]? = some f->cv[k]? = some v->∃ (p:Option Addr) (c:Nat),v = .slice p f.2.2.2.length c/\Xz w B p f.2.2.2
theorem Yul {w:World} {B:Nat} {pF:Option Addr} {fs:List FnP} (h:Yl w B pF fs):∃ cv,Xfi w B fs cv/\Rd w pF (Xn fs cv):=by
 by_cases h0:0<fs.length
 · obtain ⟨b,o,e,hb,hc⟩:=h h0
   have hex:∀ k:Nat,∃ v:Value,∀ f:FnP,fs[k]? = some f->w.cell? ⟨b,o+k*4+3,none⟩=some v/\∃ (p:Option Addr) (c:Nat),v = .slice p f.2.2.2.length c/\Xz w B p f.2.2.2:=by
    intro k
    cases hf:fs[k]? with
    | none=>exact ⟨undef,fun f h=>by cases h⟩
    | some f =>
      obtain ⟨a,l,r,c⟩:=f
      obtain ⟨-,-,-,pc,cc,h3,h4⟩:=hc k a l r c hf
      exact ⟨_,fun f h=>by injection h with h;subst h;exact ⟨h3,pc,cc,rfl,h4⟩⟩
   obtain ⟨vv,hvv⟩:=Classical.axiomOfChoice hex
   refine ⟨(List.range fs.length).map vv,⟨by simp,fun k f v hf hv => ?_⟩,fun _=>⟨b,o,e,fun j u hj => ?_⟩⟩
   · have hk:=(List.getElem?_eq_some_iff.1 hf).1
     simp [hk] at hv
     subst hv
     exact (hvv k f hf).2
   · have hl:=Zgq fs ((List.range fs.length).map vv) (by simp)
     have hj2:=(List.getElem?_eq_some_iff.1 hj).1
     obtain ⟨k,r,rfl,hr⟩:∃ k r,j=k*4+r/\r<4:=⟨j / 4,j % 4,by omega,by omega⟩
     have hk:k<fs.length:=by omega
     obtain ⟨⟨a,l,rr,c⟩,hf⟩:∃ f,fs[k]? = some f:=⟨_,List.getElem?_eq_getElem hk⟩
     obtain ⟨q0,q1,q2,q3⟩:=Jj fs ((List.range fs.length).map vv) k _ (vv k) hf (by simp [hk])
     obtain ⟨e0,e1,e2,-⟩:=hc k a l rr c hf
     have e3:=(hvv k _ hf).1
     rcases (by omega:r=0\/r=1\/r=2\/r=3) with rfl|rfl|rfl|rfl
     · rw [Nat.add_zero] at hj ⊢;rw [q0] at hj;injection hj with hj;subst hj;exact e0
     · rw [q1] at hj;injection hj with hj;subst hj;exact e1
     · rw [q2] at hj;injection hj with hj;subst hj;exact e2
     · rw [q3] at hj;injection hj with hj;subst hj;exact e3
 · have:fs=[]:=List.eq_nil_of_length_eq_zero (by omega)
   subst this
   exact ⟨[],⟨rfl,fun k f v hf _=>by simp at hf⟩,fun h=>absurd rfl h⟩
theorem Yoi {w:World} {B:Nat} {fs:List FnP} {cv:List Value} (h:Xfi w B fs cv):∀ v∈cv,v.oneCell'=true:=fun v hv=>by
 obtain ⟨k,hk⟩:=List.getElem?_of_mem hv
 have hl:=(List.getElem?_eq_some_iff.1 hk).1
 obtain ⟨p,c,rfl,_⟩:=h.2 k (fs[k]'(by rw [<- h.1];exact hl)) v (List.getElem?_eq_getElem _) hk
 rfl
theorem Zxk {w:World} {B:Nat} {p:Option Addr} {c:List Ins} (h:Xz w B p c):Rd w p (Yc c):=fun h0=>by
 have hl:0<c.length:=by
  cases c with
  | nil=>simp [Yc] at h0
  | cons x r=>simp
 obtain ⟨b,o,e,hb,hc⟩:=h hl
 refine ⟨b,o,e,fun j u hj => ?_⟩
 have hj2:=(List.getElem?_eq_some_iff.1 hj).1
 rw [Xi] at hj2
 obtain ⟨i,r,rfl,hr⟩:∃ i r,j=i*2+r/\r<2:=⟨j / 2,j % 2,by omega,by omega⟩
 obtain ⟨⟨op,a⟩,hi⟩:∃ x,c[i]? = some x:=⟨_,List.getElem?_eq_getElem (by omega)⟩
 obtain ⟨q0,q1⟩:=Xy c i op a hi
 obtain ⟨e0,e1⟩:=hc i op a hi
 rcases (by omega:r=0\/r=1) with rfl|rfl
 · rw [Nat.add_zero] at hj ⊢;rw [q0] at hj;injection hj with hj;subst hj;exact e0
 · rw [q1] at hj;injection hj with hj;subst hj;exact e1
theorem Zbj:∀ (c:List Ins),∀ u∈Yc c,u.oneCell'=true
 | [],u,hu=>by simp [Yc] at hu
 | x::r,u,hu=>by
   simp only [Yc,List.mem_cons] at hu
   rcases hu with rfl|rfl|hu
   · rfl
   · rfl
   · exact Zbj r u hu
structure Xbl (w0 w:World) (b1 base k:Nat) (mem:Int) (D F:Value) (dl:List Int) (fs:List FnP) (cv0 cv:List Value):Prop where
 g:w0.grownBy w none
 box:w.heap[b1]? = some (.cells #[.int .i64 mem,D,F] 25 (0,0))
 dt:w.ownsRow base 5 1 D dl.length (dl.map (Value.int .u8))
 fr:w.ownsRow base 52 4 F fs.length (Xn fs cv)
 cl:cv.length=fs.length
 old:∀ j,k<=j->cv[j]? = cv0[j]?
 each:∀ (j:Nat) (f:FnP) (v:Value),j<k->fs[j]? = some f->cv[j]? = some v->w.ownsRow base 49 2 v f.2.2.2.length (Yc f.2.2.2)
 dis:∀ (j l:Nat) (v v':Value) (b:Nat),j<k->l<k->j≠l->cv[j]? = some v->cv[l]? = some v'->v.ownBlock=some b->v'.ownBlock≠some b
theorem Yss {w0 w w5:World} {b1 base gF cF k:Nat} {mem:Int} {D:Value} {dl:List Int} {fs:List FnP} {cv0 cv:List Value} {f:FnP} {v5:Value} (h:Xbl w0 w b1 base k mem D (.slice (some ⟨gF,0,none⟩) fs.length cF) dl fs cv0 cv) (hf:fs[k]? = some f) (hb0:w0.heap.size<=base) (hbw:base<=w.heap.size) (hg:w.grownBy w5 none) (ho:w5.ownsRow w.heap.size 49 2 v5 f.2.2.2.length (Yc f.2.2.2)) :
 Xbl w0 (w5.setCell ⟨gF,k*4+3,none⟩ v5) b1 base (k+1) mem D (.slice (some ⟨gF,0,none⟩) fs.length cF) dl fs cv0 (cv.set k v5):=by
 have hkl:=(List.getElem?_eq_some_iff.1 hf).1
 have gs:=Zh w5 gF (k*4+3) v5
 have hfr:=h.fr.kept hg (Classical.em _)
 have lt:=h.fr.lt gF rfl
 have hnb:b1≠gF:=by
  intro e
  have:=Yp h.fr h.box (by decide)
  exact this (by rw [e];rfl)
 have hrow:=(hfr.stored (k*4+3) v5).1
 rw [Znj] at hrow
 have ne:∀ (v2:Value) (n:Nat) (xs:List Value) (E:TypeId) (sz b:Nat),w5.ownsRow b E sz v2 n xs->E≠52->v2.ownBlock=none\/v2.ownBlock≠some gF:=fun v2 n xs E sz b hoo hE=>Xq (Zz hoo (Nat.zero_le _)) (Zz hfr (Nat.zero_le _)) hE
 have hkc:k<cv.length:=by rw [h.cl];exact hkl
 refine ⟨Zd (Za h.g hg) (by omega),Zb (Zb h.box hg (by simp)) gs (by intro e;injection e with e;exact hnb e.symm),(h.dt.kept hg (Classical.em _)).kept gs (ne _ _ _ _ _ _ (h.dt.kept hg (Classical.em _)) (by decide)),hrow,by simp [h.cl],fun j hj => ?_,fun j f' v hj hf' hv => ?_,fun j l v v' b hj hl hjl hv hv' hb => ?_⟩
 · rw [List.getElem?_set_ne (by omega)]
   exact h.old j (by omega)
 · by_cases e:j=k
   · subst e
     rw [List.getElem?_set_self hkc] at hv
     injection hv with hv;subst hv
     rw [hf] at hf';injection hf' with hf';subst hf'
     exact (Zz ho hbw).kept gs (ne _ _ _ _ _ _ ho (by decide))
   · rw [List.getElem?_set_ne (Ne.symm e)] at hv
     have:=(h.each j f' v (by omega) hf' hv).kept hg (Classical.em _)
     exact this.kept gs (ne _ _ _ _ _ _ this (by decide))
 · have old_lt:∀ (j:Nat) (v:Value) (b:Nat),j<k->cv[j]? = some v->v.ownBlock=some b->b<w.heap.size:=fun j v b hj hv hb=>by
    have hjl2:=(List.getElem?_eq_some_iff.1 hv).1
    rw [h.cl] at hjl2
    exact ((h.each j _ v hj (List.getElem?_eq_getElem hjl2) hv).lt b hb).2
   by_cases e:j=k
   · subst e
     rw [List.getElem?_set_self hkc] at hv
     injection hv with hv;subst hv
     rw [List.getElem?_set_ne hjl] at hv'
     have g1:=(ho.lt b hb).1
     intro e2
     have:=old_lt l v' b (by omega) hv' e2
     omega
   · rw [List.getElem?_set_ne (Ne.symm e)] at hv
     by_cases e2:l=k
     · subst e2
       rw [List.getElem?_set_self hkc] at hv'
       injection hv' with hv';subst hv'
       have g1:=old_lt j v b (by omega) hv hb
       intro e3
       have:=(ho.lt b e3).1
       omega
     · rw [List.getElem?_set_ne (Ne.symm e2)] at hv'
       exact h.dis j l v v' b (by omega) (by omega) hjl hv hv' hb
theorem Yst {w0 w:World} {b1 base:Nat} {mem:Int} {D F:Value} {dl:List Int} {fs:List FnP} {cv0 cv:List Value} (h:Xbl w0 w b1 base fs.length mem D F dl fs cv0 cv):Zas w base D F dl fs cv :=
 ⟨h.dt,h.fr,h.cl,fun k f v hf hv=>h.each k f v (List.getElem?_eq_some_iff.1 hf).1 hf hv,fun k l v v' b hkl hv hv' hb=>h.dis k l v v' b (by rw [<- h.cl];exact (List.getElem?_eq_some_iff.1 hv).1) (by rw [<- h.cl];exact (List.getElem?_eq_some_iff.1 hv').1) hkl hv hv' hb⟩
end Go.Proofs.Ythlkflagancdfaa.OT
