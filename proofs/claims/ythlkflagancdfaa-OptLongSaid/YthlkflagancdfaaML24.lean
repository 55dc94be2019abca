/-
  Part of a proof: contracts of functions and lemmas, each stated by its own theorem. Conditions: as each theorem states.
-/
import Derived.Test.YthlkflagancdfaaML14
import Derived.Test.YthlkflagancdfaaML20
import Derived.Test.YthlkflagancdfaaML21
import Derived.Test.YthlkflagancdfaaML22
import Derived.Test.YthlkflagancdfaaML23
import Derived.Test.YthlkflagancdfaaML01
import Derived.Deep.RegionHeld3
import Derived.Test.YthlkflagancdfaaML03
import Derived.Deep.Cut
set_option linter.unusedSimpArgs false
set_option linter.unusedVariables false
set_option maxRecDepth 100000
set_option maxHeartbeats 16000000
namespace Go.Proofs.Ythlkflagancdfaa.OT
open Go.RowKit Go.Great
open Go.Proofs.Ythlkflagancdfaa.CK
section
variable (b o n len cap:Nat) (op a op2 a2 op3 a3 long:Int) (x y r:BitVec 64) (w:World)
theorem Xck (hbw:b<w.heap.size) (q1:(n:Int)<(len:Int)) (ql:(len:Int)<=4096) (c0:w.cell? ⟨b,o+n*2,none⟩=some (.int .i64 op)) (c1:w.cell? ⟨b,o+n*2+1,none⟩=some (.int .i64 a)) (q2:(n:Int)+1<(len:Int)) (d0:w.cell? ⟨b,o+(n+1)*2,none⟩=some (.int .i64 op2)) (d1:w.cell? ⟨b,o+(n+1)*2+1,none⟩=some (.int .i64 a2)) (h2:2<=long) (hz:∀ k∈[(3:Int),13,7,5,6,34,35],op≠k) :
 Calls Try.prog 68 #[.slice (some ⟨b,o,none⟩) len cap,.int .i64 n,.int .i64 long] w (Zo w none):=by
 obtain ⟨⟨sb0,sb1,sb2,sb3,sb4,sb5⟩,⟨sc01,sc02,sc03,sc04,sc05⟩,⟨sc12,sc13,sc14,sc15⟩,⟨sc23,sc24,sc25⟩,sc34,sc35⟩:=Xx hbw
 have z3:(op == 3)=false:=by have:=hz 3 (by decide);simpa using this
 have z13:(op == 13)=false:=by have:=hz 13 (by decide);simpa using this
 have z7:(op == 7)=false:=by have:=hz 7 (by decide);simpa using this
 have z5:(op == 5)=false:=by have:=hz 5 (by decide);simpa using this
 have z6:(op == 6)=false:=by have:=hz 6 (by decide);simpa using this
 have z34:(op == 34)=false:=by have:=hz 34 (by decide);simpa using this
 have z35:(op == 35)=false:=by have:=hz 35 (by decide);simpa using this
 clear hz
 go_enter Try.func68,Try.ntmps68
 go_wp2
 go_region
 all_goals go_wp2
 all_goals ((refine bodyPost_ret (v := .tuple #[.agg #[.int .i64 0,.slice none 0 0,.int .i64 0],.bool false]) ?_ rfl ⟨?_,0,0,none,0,0,rfl⟩);(focus (rw [results_cell_tmp rfl];go_simp));(repeat (first|exact Zc _ _|exact Ga _ _ _|refine Za ?_ (Ga _ _ _)|refine Zh ?_ _|refine Zd ?_|(refine Ze ?_ (by simp;omega))|(refine Ze ?_ (by simp)))))
end
theorem Ykv (c:List Ins) (p:Option Addr) (cap B n lg:Nat) (w:World) (hB:B<=w.heap.size) (hC:Ji w B p c) (hn:n<c.length) (hl:c.length<=4096) (hg:lg<=3) (hlong:n+lg<=c.length) :
 Calls Try.prog 68 #[.slice p c.length cap,.int .i64 n,.int .i64 lg] w (Zo w (Zde c n lg)):=by
 unfold Zde
 simp only []
 obtain ⟨b,o,rfl,hb,c0,c1⟩:=Zae hC hn
 have hbw:b<w.heap.size:=by omega
 have q1:(n:Int)<(c.length:Int):=by omega
 have ql:(c.length:Int)<=4096:=by omega
 by_cases h2:lg<2
 · rw [if_pos h2]
   exact Xcl b o n c.length cap _ _ lg w hbw q1 ql c0 c1 (by omega)
 rw [if_neg h2]
 have q2:(n:Int)+1<(c.length:Int):=by omega
 have hl2:(2:Int)<=(lg:Int):=by omega
 obtain ⟨b',o',e2,-,d0,d1⟩:=Zae hC (n:=n+1) (by omega)
 injection e2 with e2;injection e2 with e2 e3 _;subst e2;subst e3
 generalize Zu c n=x at *
 generalize Zu c (n+1)=y at *
 obtain ⟨op,a⟩:=x
 obtain ⟨op2,a2⟩:=y
 simp only [Prod.mk.injEq] at *
 by_cases h3:op=3\/op=13
 · have n7:op≠7:=by omega
   have n5:op≠5:=by omega
   have n6:¬ (op=6\/op=34\/op=35):=by omega
   by_cases h4:op2=4
   · rw [if_pos ⟨h3,h4⟩]
     subst h4
     rcases h3 with rfl|rfl
     · exact Xaf b o n c.length cap _ _ lg w hbw q1 ql c0 c1 q2 d0 d1 hl2
     · exact Yvl b o n c.length cap _ _ lg w hbw q1 ql c0 c1 q2 d0 d1 hl2
   · rw [if_neg (fun h=>h4 h.2),if_neg (fun h=>n7 h.1),if_neg (fun h=>n5 h.1),if_neg (fun h=>n5 h.1),if_neg (fun h=>n6 h.1)]
     rcases h3 with rfl|rfl
     · exact Xah b o n c.length cap _ _ _ lg w hbw q1 ql c0 c1 q2 d0 d1 hl2 h4
     · exact Yvo b o n c.length cap _ _ _ lg w hbw q1 ql c0 c1 q2 d0 d1 hl2 h4
 rw [if_neg (fun h=>h3 h.1)]
 by_cases h7:op=7
 · subst h7
   by_cases h4:op2=4
   · rw [if_pos ⟨rfl,Or.inl h4⟩]
     subst h4
     exact Xak b o n c.length cap _ _ lg w hbw q1 ql c0 c1 q2 d0 d1 hl2
   · by_cases h8:op2=8/\a2=a
     · rw [if_pos ⟨rfl,Or.inr h8⟩]
       obtain ⟨rfl,rfl⟩:=h8
       exact Xaj b o n c.length cap _ lg w hbw q1 ql c0 c1 q2 d0 d1 hl2
     · rw [if_neg (by rintro ⟨_,h|h⟩;exact h4 h;exact h8 h),if_neg (fun h=>absurd h.1 (by decide)),if_neg (fun h=>absurd h.1 (by decide)),if_neg (fun h=>absurd h.1 (by decide))]
       exact Xai b o n c.length cap _ _ _ lg w hbw q1 ql c0 c1 q2 d0 d1 hl2 h4 h8
 rw [if_neg (fun h=>h7 h.1)]
 by_cases h5:op=5
 · subst h5
   by_cases h6:a=0/\op2=6
   · rw [if_pos ⟨rfl,h6⟩]
     obtain ⟨rfl,rfl⟩:=h6
     exact Xam b o n c.length cap _ lg w hbw q1 ql c0 c1 q2 d0 d1 hl2
   · rw [if_neg (fun h=>h6 h.2)]
     by_cases h4:op2=4
     · rw [if_pos ⟨rfl,h4⟩]
       subst h4
       exact Xal b o n c.length cap _ _ lg w hbw q1 ql c0 c1 q2 d0 d1 hl2
     · rw [if_neg (fun h=>h4 h.2),if_neg (fun h=>absurd h.1 (by decide))]
       by_cases h0:a=0
       · subst h0
         exact Xan b o n c.length cap _ _ lg w hbw q1 ql c0 c1 q2 d0 d1 hl2 h4 (fun e=>h6 ⟨rfl,e⟩)
       · exact Xao b o n c.length cap _ _ _ lg w hbw q1 ql c0 c1 q2 d0 d1 hl2 h4 h0
 rw [if_neg (fun h=>h5 h.1),if_neg (fun h=>h5 h.1)]
 by_cases h6:op=6\/op=34\/op=35
 · by_cases h8:op=op2/\a=a2
   · rw [if_pos ⟨h6,h8⟩]
     obtain ⟨rfl,rfl⟩:=h8
     rcases h6 with rfl|rfl|rfl
     · exact Xae b o n c.length cap _ lg w hbw q1 ql c0 c1 q2 d0 d1 hl2
     · exact Yvk b o n c.length cap _ lg w hbw q1 ql c0 c1 q2 d0 d1 hl2
     · exact Yvj b o n c.length cap _ lg w hbw q1 ql c0 c1 q2 d0 d1 hl2
   · rw [if_neg (fun h=>h8 h.2)]
     rcases h6 with rfl|rfl|rfl
     · exact Xag b o n c.length cap _ _ _ lg w hbw q1 ql c0 c1 q2 d0 d1 hl2 h8
     · exact Yvn b o n c.length cap _ _ _ lg w hbw q1 ql c0 c1 q2 d0 d1 hl2 h8
     · exact Yvm b o n c.length cap _ _ _ lg w hbw q1 ql c0 c1 q2 d0 d1 hl2 h8
 rw [if_neg (fun h=>h6 h.1)]
 refine Xck b o n c.length cap _ _ _ _ lg w hbw q1 ql c0 c1 q2 d0 d1 hl2 ?_
 intro k hk e
 subst e
 simp only [List.mem_cons,List.not_mem_nil,or_false] at hk
 omega
def Ycs (c:List Ins) (n long:Nat):Nat->Option Zaq
 | 0=>Js c n
 | 1=>Jm c n long
 | 2=>Zde c n long
 | _=>Zaz c n long
theorem Zky (c:List Ins) (n long k:Nat) (hk:k<4) (h:∀ j,j<k->Ycs c n long j=none) (x:Zaq) (hx:Ycs c n long k=some x):Xn c n long=some x:=by
 have e0:0<k->Js c n=none:=fun q=>h 0 q
 have e1:1<k->Jm c n long=none:=fun q=>h 1 q
 have e2:2<k->Zde c n long=none:=fun q=>h 2 q
 unfold Xn
 rcases (by omega:k=0\/k=1\/k=2\/k=3) with rfl|rfl|rfl|rfl <;> simp only [Ycs] at hx
 · rw [hx];rfl
 · rw [e0 (by omega),hx];rfl
 · rw [e0 (by omega),e1 (by omega),hx];rfl
 · rw [e0 (by omega),e1 (by omega),e2 (by omega),hx];rfl
theorem Ybk (c:List Ins) (n long:Nat) (h:∀ j,j<4->Ycs c n long j=none):Xn c n long=none:=by
 have e0:Js c n=none:=h 0 (by omega)
 have e1:Jm c n long=none:=h 1 (by omega)
 have e2:Zde c n long=none:=h 2 (by omega)
 have e3:Zaz c n long=none:=h 3 (by omega)
 unfold Xn
 rw [e0,e1,e2,e3];rfl
def Yyq:Array Value := #[.func (.func 66) #[] #[],.func (.func 67) #[] #[],.func (.func 68) #[] #[],.func (.func 69) #[] #[]]
theorem Zku {c:List Ins} {n lg k:Nat} (h:∀ j,j<k->Ycs c n lg j=none) (e:Ycs c n lg k=none):∀ j,j<k+1->Ycs c n lg j=none:=fun j hj=>by
 by_cases q:j=k
 · rw [q];exact e
 · exact h j (by omega)
theorem Ynk {w w':World} {B b:Nat} {q:Option Addr} {c:List Ins} {i0 i2:Int} {t:TypeId} {a:Option Addr} {m k:Nat} (h:Ji w B q c) (hx:w.heap[b]? = some (.cells #[.int .i64 i0,.slice a m k,.int .i64 i2] t (0,0))) (hs:∀ j,j<w.heap.size->j≠b->w'.heap[j]? = w.heap[j]?):Ji w' B q c:=fun h0=>by
 obtain ⟨b1,o,e,hb,hc⟩:=h h0
 have ne:b1≠b:=by
  intro e2
  subst e2
  obtain ⟨⟨op,a1⟩,hi⟩:∃ x,c[0]? = some x:=⟨_,List.getElem?_eq_getElem h0⟩
  obtain ⟨g0,g1⟩:=hc 0 op a1 hi
  simp only [Nat.zero_mul,Nat.add_zero] at g0 g1
  unfold World.cell? at g0 g1
  rw [hx] at g0 g1
  simp only [] at g0 g1
  rcases (by omega:o=0\/o=1\/o=2\/3<=o) with rfl|rfl|rfl|h3
  · simp at g1
  · simp at g0
  · simp at g1
  · rw [Array.getElem?_eq_none (by simpa using h3)] at g0;cases g0
 refine ⟨b1,o,e,hb,fun i op a hi => ?_⟩
 obtain ⟨g0,g1⟩:=hc i op a hi
 have hq:=World.block_lt_of_cell? _ _ g0
 exact ⟨by rw [Zbk (hs b1 hq ne)];exact g0,by rw [Zbk (hs b1 hq ne)];exact g1⟩
theorem Zxs {w:World} {b:Nat} {v0 v1 v2 x0 x1 x2:Value} {t:TypeId} (h:w.heap[b]? = some (.cells #[v0,v1,v2] t (0,0))):(((w.setCell ⟨b,0,none⟩ x0).setCell ⟨b,1,none⟩ x1).setCell ⟨b,2,none⟩ x2).heap[b]? = some (.cells #[x0,x1,x2] t (0,0)):=by
 rw [Zi (Zi (Zi h))];rfl
theorem Zgz {w:World} {B B':Nat} {q:Option Addr} {c:List Ins} (h:Ji w B q c) (hb:B<=B'):Ji w B' q c:=fun h0=>by
 obtain ⟨b,o,e,h1,h2⟩:=h h0
 exact ⟨b,o,e,by omega,h2⟩
theorem Zim {w w5:World} {a:Act} {b:Nat} {lo:Nat} {wh:Int} {pu:List Ins} {q:Option Addr} {k:Nat} {cs:Array Value} {t:TypeId} (h6:a.tmps.getD 6 undef = .pointer (some ⟨b,0,none⟩)) (h7:a.tmps.getD 7 undef = .bool true) (hd:a.defers=[])
 (y6:w5.heap[b]? = some (.cells #[.int .i64 0,.slice none 0 0,.int .i64 0] 104 (0,0))) (hqk:q=none->k=0) (hc:Ji w5 w5.heap.size q pu) (hg:w.grownBy w5 none) (hb:w.heap.size<=b) :
 bodyPost Try.prog Try.f54 (Zo w (some ⟨lo,pu,wh⟩)) Exit.ret a ((((w5.setCell ⟨b,0,none⟩ (.int .i64 lo)).setCell ⟨b,1,none⟩ (.slice q pu.length k)).setCell ⟨b,2,none⟩ (.int .i64 wh)).alloc (.cells cs t)):=by
 have hB:=Zb (Zxs (x0 := .int .i64 lo) (x1 := .slice q pu.length k) (x2 := .int .i64 wh) y6) (Ga _ (.cells cs t) none) (by simp)
 have hne:∀ j,j<w5.heap.size->j≠b->((((w5.setCell ⟨b,0,none⟩ (.int .i64 lo)).setCell ⟨b,1,none⟩ (.slice q pu.length k)).setCell ⟨b,2,none⟩ (.int .i64 wh)).alloc (.cells cs t)).heap[j]? = w5.heap[j]? := fun j hj hb2=>by
  have s:∀ (X:World) (o:Nat) (v:Value),(X.setCell ⟨b,o,none⟩ v).heap[j]? = X.heap[j]? := fun X o v=>heap_setCell_other X _ j v (by intro e;exact hb2 (by rw [e]))
  rw [(Ga _ (.cells cs t) none).block j (by simp;omega) (by simp),s,s,s]
 have hg2:w.grownBy ((((w5.setCell ⟨b,0,none⟩ (.int .i64 lo)).setCell ⟨b,1,none⟩ (.slice q pu.length k)).setCell ⟨b,2,none⟩ (.int .i64 wh)).alloc (.cells cs t)) none :=
  Za (Ze (Ze (Ze hg hb) hb) hb) (Ga _ _ _)
 have hsz:w5.heap.size<=((((w5.setCell ⟨b,0,none⟩ (.int .i64 lo)).setCell ⟨b,1,none⟩ (.slice q pu.length k)).setCell ⟨b,2,none⟩ (.int .i64 wh)).alloc (.cells cs t)).heap.size:=by simp
 have hcc:=Zgz (Ynk hc y6 hne) hsz
 generalize ((((w5.setCell ⟨b,0,none⟩ (.int .i64 lo)).setCell ⟨b,1,none⟩ (.slice q pu.length k)).setCell ⟨b,2,none⟩ (.int .i64 wh)).alloc (.cells cs t))=W at *
 refine bodyPost_ret (v := .tuple #[.agg #[.int .i64 lo,.slice q pu.length k,.int .i64 wh],.bool true]) ?_ hd ⟨hg2,q,k,rfl,hqk,hcc⟩
 have k0:=Cq _ _ 0 _ _ _ hB
 have k1:=Cq _ _ 1 _ _ _ hB
 have k2:=Cq _ _ 2 _ _ _ hB
 have q0:=(Gs hB)
 clear hB hne hg2 hcc hsz y6 hc hg hqk
 rw [results_cell_tmp rfl,h6,h7]
 go_simp
theorem Yfn (c:List Ins) (p:Option Addr) (cap B n lg:Nat) (w:World) (hB:B<=w.heap.size) (hC:Ji w B p c) (hn:n<c.length) (hl:c.length<=4096) (hR:Zbd c) (hg:lg<=3) (hlong:n+lg<=c.length) (hj:(Zu c n).1=14->0<=(Zu c n).2/\(Zu c n).2<c.length) :
 Calls Try.prog 54 #[.slice p c.length cap,.int .i64 n,.int .i64 lg] w (Zo w (Xn c n lg)):=by
 have C:=Hq hC
 have HJ:=Hq hj
 have G0:=Hq (Za (Ga w (.cells #[.int .i64 0,.slice none 0 0,.int .i64 0] 104) none) (Ga _ (.cells Yyq 106) none))
 have T0:=Hq (Yt w (.cells #[.int .i64 0,.slice none 0 0,.int .i64 0] 104) (.cells Yyq 106))
 have T1:=Hq (Yi w (.cells #[.int .i64 0,.slice none 0 0,.int .i64 0] 104) (.cells Yyq 106))
 clear hC hj
 go_enter Try.func54,Try.ntmps54
 go_wp2
 unfold Yyq at G0 T0 T1
 generalize (w.alloc (.cells #[.int .i64 0,.slice none 0 0,.int .i64 0] 104)).alloc (.cells #[.func (.func 66) #[] #[],.func (.func 67) #[] #[],.func (.func 68) #[] #[],.func (.func 69) #[] #[]] 106)=w2 at *
 go_loopw [14] (fun i wr=>∃ k:Nat,i = .int .i64 k/\k<=4/\w2.grownBy wr none/\∀ j,j<k->Ycs c n lg j=none) (fun i _=>4 - (intOf i).toNat)
 case atStart=>exact ⟨0,rfl,Nat.zero_le _,Zc _ _,fun j h=>absurd h (Nat.not_lt_zero _)⟩
 case round =>
  obtain ⟨k,rfl,hk,hg2,hno⟩:=hrel
  have HG:=Hq hg2
  have HN:=Hq hno
  have x6:=Hq (Zb T0.out hg2 (by simp))
  have x7:=Hq (Zb T1.out hg2 (by simp))
  have CC:=Hq (Xh C.out (Za G0.out hg2) (by simp))
  have hBr:B<=wr.heap.size:=Nat.le_trans hB (Nat.le_trans G0.out.size hg2.size)
  have l6:=(Gs x6.out)
  have l7:=(Gs x7.out)
  clear hg2 hno
  rcases (by omega:k=0\/k=1\/k=2\/k=3\/k=4) with rfl|rfl|rfl|rfl|rfl
  · have M:=Hq (Yjd c p cap B n lg wr hBr CC.out hn hl HJ.out)
    have fv:=Cq _ _ 0 _ _ _ x7.out
    have hi0:((0:Nat):Int)<4:=by decide
    have E:=Hq (show Ycs c n lg 0=Js c n from rfl)
    cases hr:Js c n with
    | none =>
      rw [hr] at M E
      go_wp2_with (go_at_call 66;refine M.out.mono ?_;rintro e w5 ⟨hg5,l5,wt5,q5,m5,k5,rfl⟩;have G5:=Hq hg5;clear hg5)
      go_roundw
      case rel=>exact ⟨0+1,rfl,by decide,Za HG.out (Za G5.out (Ga _ _ _)),Zku HN.out E.out⟩
      case measure=>simp [intOf]
    | some x =>
      rw [hr] at M E
      obtain ⟨lo,pu,wh⟩:=x
      go_wp2_with (go_at_call 66;refine M.out.mono ?_;rintro e w5 ⟨hg5,q5,k5,rfl,hn5,hc5⟩;have HN5:=Hq hn5;clear hn5;have y6:=Zb x6.out hg5 (by simp);have Y6:=Hq y6;have C5:=Hq hc5;have k0:=Cq _ _ 0 _ _ _ y6;have k1:=Cq _ _ 1 _ _ _ y6;have k2:=Cq _ _ 2 _ _ _ y6;have z0:=frozen_of_row _ _ 0 _ _ y6;have z1:=frozen_of_row _ _ 1 _ _ y6;have z2:=frozen_of_row _ _ 2 _ _ y6;have l65:=(Gs y6);have G5:=Hq hg5;clear hg5 y6 hc5)
      rw [Zky c n lg 0 (by decide) HN.out _ E.out]
      exact Zim rfl rfl rfl Y6.out HN5.out C5.out (Za G0.out (Za HG.out G5.out)) (Nat.le_refl _)
  · have M:=Hq (Yfd c p cap B n lg wr hBr CC.out hn hl hR hg hlong)
    have fv:=Cq _ _ 1 _ _ _ x7.out
    have hi0:((1:Nat):Int)<4:=by decide
    have E:=Hq (show Ycs c n lg 1=Jm c n lg from rfl)
    cases hr:Jm c n lg with
    | none =>
      rw [hr] at M E
      go_wp2_with (go_at_call 67;refine M.out.mono ?_;rintro e w5 ⟨hg5,l5,wt5,q5,m5,k5,rfl⟩;have G5:=Hq hg5;clear hg5)
      go_roundw
      case rel=>exact ⟨1+1,rfl,by decide,Za HG.out (Za G5.out (Ga _ _ _)),Zku HN.out E.out⟩
      case measure=>simp [intOf]
    | some x =>
      rw [hr] at M E
      obtain ⟨lo,pu,wh⟩:=x
      go_wp2_with (go_at_call 67;refine M.out.mono ?_;rintro e w5 ⟨hg5,q5,k5,rfl,hn5,hc5⟩;have HN5:=Hq hn5;clear hn5;have y6:=Zb x6.out hg5 (by simp);have Y6:=Hq y6;have C5:=Hq hc5;have k0:=Cq _ _ 0 _ _ _ y6;have k1:=Cq _ _ 1 _ _ _ y6;have k2:=Cq _ _ 2 _ _ _ y6;have z0:=frozen_of_row _ _ 0 _ _ y6;have z1:=frozen_of_row _ _ 1 _ _ y6;have z2:=frozen_of_row _ _ 2 _ _ y6;have l65:=(Gs y6);have G5:=Hq hg5;clear hg5 y6 hc5)
      rw [Zky c n lg 1 (by decide) HN.out _ E.out]
      exact Zim rfl rfl rfl Y6.out HN5.out C5.out (Za G0.out (Za HG.out G5.out)) (Nat.le_refl _)
  · have M:=Hq (Ykv c p cap B n lg wr hBr CC.out hn hl hg hlong)
    have fv:=Cq _ _ 2 _ _ _ x7.out
    have hi0:((2:Nat):Int)<4:=by decide
    have E:=Hq (show Ycs c n lg 2=Zde c n lg from rfl)
    cases hr:Zde c n lg with
    | none =>
      rw [hr] at M E
      go_wp2_with (go_at_call 68;refine M.out.mono ?_;rintro e w5 ⟨hg5,l5,wt5,q5,m5,k5,rfl⟩;have G5:=Hq hg5;clear hg5)
      go_roundw
      case rel=>exact ⟨2+1,rfl,by decide,Za HG.out (Za G5.out (Ga _ _ _)),Zku HN.out E.out⟩
      case measure=>simp [intOf]
    | some x =>
      rw [hr] at M E
      obtain ⟨lo,pu,wh⟩:=x
      go_wp2_with (go_at_call 68;refine M.out.mono ?_;rintro e w5 ⟨hg5,q5,k5,rfl,hn5,hc5⟩;have HN5:=Hq hn5;clear hn5;have y6:=Zb x6.out hg5 (by simp);have Y6:=Hq y6;have C5:=Hq hc5;have k0:=Cq _ _ 0 _ _ _ y6;have k1:=Cq _ _ 1 _ _ _ y6;have k2:=Cq _ _ 2 _ _ _ y6;have z0:=frozen_of_row _ _ 0 _ _ y6;have z1:=frozen_of_row _ _ 1 _ _ y6;have z2:=frozen_of_row _ _ 2 _ _ y6;have l65:=(Gs y6);have G5:=Hq hg5;clear hg5 y6 hc5)
      rw [Zky c n lg 2 (by decide) HN.out _ E.out]
      exact Zim rfl rfl rfl Y6.out HN5.out C5.out (Za G0.out (Za HG.out G5.out)) (Nat.le_refl _)
  · have M:=Hq (Ydi c p cap B n lg wr hBr CC.out hn hl hg hlong)
    have fv:=Cq _ _ 3 _ _ _ x7.out
    have hi0:((3:Nat):Int)<4:=by decide
    have E:=Hq (show Ycs c n lg 3=Zaz c n lg from rfl)
    cases hr:Zaz c n lg with
    | none =>
      rw [hr] at M E
      go_wp2_with (go_at_call 69;refine M.out.mono ?_;rintro e w5 ⟨hg5,l5,wt5,q5,m5,k5,rfl⟩;have G5:=Hq hg5;clear hg5)
      go_roundw
      case rel=>exact ⟨3+1,rfl,by decide,Za HG.out (Za G5.out (Ga _ _ _)),Zku HN.out E.out⟩
      case measure=>simp [intOf]
    | some x =>
      rw [hr] at M E
      obtain ⟨lo,pu,wh⟩:=x
      go_wp2_with (go_at_call 69;refine M.out.mono ?_;rintro e w5 ⟨hg5,q5,k5,rfl,hn5,hc5⟩;have HN5:=Hq hn5;clear hn5;have y6:=Zb x6.out hg5 (by simp);have Y6:=Hq y6;have C5:=Hq hc5;have k0:=Cq _ _ 0 _ _ _ y6;have k1:=Cq _ _ 1 _ _ _ y6;have k2:=Cq _ _ 2 _ _ _ y6;have z0:=frozen_of_row _ _ 0 _ _ y6;have z1:=frozen_of_row _ _ 1 _ _ y6;have z2:=frozen_of_row _ _ 2 _ _ y6;have l65:=(Gs y6);have G5:=Hq hg5;clear hg5 y6 hc5)
      rw [Zky c n lg 3 (by decide) HN.out _ E.out]
      exact Zim rfl rfl rfl Y6.out HN5.out C5.out (Za G0.out (Za HG.out G5.out)) (Nat.le_refl _)
  · have EN:=Hq (Ybk c n lg HN.out)
    have v0:=Cq _ _ 0 _ _ _ x6.out
    have v1:=Cq _ _ 1 _ _ _ x6.out
    have v2:=Cq _ _ 2 _ _ _ x6.out
    have z0:=frozen_of_row _ _ 0 _ _ x6.out
    have z1:=frozen_of_row _ _ 1 _ _ x6.out
    have z2:=frozen_of_row _ _ 2 _ _ x6.out
    go_wp2
    refine bodyPost_ret (v := .tuple #[.agg #[.int .i64 0,.slice none 0 0,.int .i64 0],.bool false]) ?_ rfl (EN.out.symm ▸ ⟨?_,0,0,none,0,0,rfl⟩)
    · rw [results_cell_tmp rfl]
      go_simp
    · refine Ze (Ze (Ze (Za G0.out HG.out) ?_) ?_) ?_ <;> simp
def Rd (w:World) (p:Option Addr) (xs:List Value):Prop:=xs≠[]->∃ b o:Nat,p=some ⟨b,o,none⟩/\∀ (j:Nat) (u:Value),xs[j]? = some u->w.cell? ⟨b,o+j,none⟩=some u
theorem Yy {w w':World} {p:Option Addr} {xs:List Value} (h:Rd w p xs) (g:w.grownBy w' none):Rd w' p xs:=fun h0=>by
 obtain ⟨b,o,e,hc⟩:=h h0
 exact ⟨b,o,e,fun j u hj=>g.cell (hc j u hj) (by simp)⟩
theorem Zgq {w:World} {ad:Addr} {xs:List Value} (h:Rd w (some ad) xs):∀ j u,xs[j]? = some u->w.cell? (ad.add j)=some u:=fun j u hj=>by
 obtain ⟨b,o,e,hc⟩:=h (by intro e;rw [e] at hj;simp at hj)
 injection e with e
 subst e
 have q:=hc j u hj
 by_cases e0:j=0
 · subst e0;simpa [Addr.add] using q
 · simpa [Addr.add,e0] using q
theorem Zjk {w:World} {xs:List Value} (h:Rd w none xs):xs=[]:=by
 cases xs with
 | nil=>rfl
 | cons x r=>obtain ⟨b,o,e,_⟩:=h (by simp);cases e
theorem Zgv:(Try.prog.info? 49).map (fun i=>(i.zero,i.size,i.bytes))=some (some (.agg #[.int .i64 0,.int .i64 0]),2,16):=by kernel_rfl
theorem Zab:Try.prog.underlying 50=some (.slice 49):=by kernel_rfl
theorem Yik (p:Option Addr) (n c:Nat) (xs:List Value) (w:World) (hl:xs.length=n*2) (h:Rd w p xs) (hx:∀ u∈xs,u.oneCell'=true) (hn:n<=4194304) :
 Calls Try.prog 29 #[.slice p n c] w fun e w'=>∃ v,e = .returned v/\w.grownBy w' none/\w'.ownsRow w.heap.size 49 2 v n xs:=by
 obtain ⟨bi,bi0,bi1,bi2,bi3⟩:=info_parts Zgv
 have hc3:0+n<=maxLen:=by unfold maxLen;omega
 have hc4:(0+n)*16<=140737488355328:=by omega
 cases p with
 | none =>
   have e0:=Zjk h
   subst e0
   have HL:=Hq (show n=0 by simp at hl;omega)
   have hq:∀ W:World,(binOp .eql 50 (.slice none n c) (.slice none 0 0)).run Try.prog W = .ok (.bool true) W:=fun W=>Lib.run_eql_slice_nil (P:=Try.prog) W 50 49 none n c 0 0 Zab
   clear h hx hl
   go_enter Try.func29,Try.ntmps29
   go_wp2
   go_ret
   exact ⟨_,rfl,Zc _ _,by rw [HL.out];rfl,Or.inl ⟨rfl,HL.out⟩⟩
 | some ad =>
   have HC:=Hq (Zgq (Yy h (Ga w (.cells #[] 49) none)))
   have O0:=Hq (World.ownsRow_lit (base:=w.heap.size) (e:=49) (size:=2) w #[] 0 (Nat.le_refl _) (by decide) rfl)
   have HL:=Hq hl
   have HX:=Hq hx
   have hq:∀ W:World,(binOp .eql 50 (.slice (some ad) n c) (.slice none 0 0)).run Try.prog W = .ok (.bool false) W:=fun W=>Lib.run_eql_slice_nil (P:=Try.prog) W 50 49 (some ad) n c 0 0 Zab
   clear h hl hx
   go_enter Try.func29,Try.ntmps29
   go_wp2_with (at_builtin;refine wpList_append_own_at _ rfl _ _ 50 rfl w.heap.size 49 bi (.agg #[.int .i64 0,.int .i64 0]) 2 16 Zab bi0 bi1 bi2 bi3 rfl (by decide) (.slice (some ⟨w.heap.size,0,none⟩) 0 0) _ _ rfl O0.out ad n c xs rfl HL.out HC.out HX.out hc3 hc4 (by simp) ?_;intro v3 w3 hown3 hgr3 hnil3 hat3;simp only [Nat.zero_add,List.nil_append] at hown3;obtain ⟨p3,k3,hv3⟩:=Zq hown3;subst hv3;have OW3:=Hq hown3;have GR3:=Hq hgr3;clear hown3 hgr3 hnil3 hat3)
   go_ret
   exact ⟨_,rfl,Yu (Ga w _ none) GR3.out fun k hk=>(O0.out.lt k hk).1,OW3.out⟩
theorem Zlc:(Try.prog.info? 52).map (fun i=>(i.zero,i.size,i.bytes))=some (some (.agg #[.int .i64 0,.int .i64 0,.int .i64 0,.slice none 0 0]),4,48):=by kernel_rfl
theorem Zjp:Try.prog.underlying 23=some (.slice 52):=by kernel_rfl
theorem Yil (p:Option Addr) (n c:Nat) (xs:List Value) (w:World) (hl:xs.length=n*4) (h:Rd w p xs) (hx:∀ u∈xs,u.oneCell'=true) (hn:n<=4194304) :
 Calls Try.prog 28 #[.slice p n c] w fun e w'=>∃ v,e = .returned v/\w.grownBy w' none/\w'.ownsRow w.heap.size 52 4 v n xs:=by
 obtain ⟨bi,bi0,bi1,bi2,bi3⟩:=info_parts Zlc
 have hc3:0+n<=maxLen:=by unfold maxLen;omega
 have hc4:(0+n)*48<=140737488355328:=by omega
 cases p with
 | none =>
   have e0:=Zjk h
   subst e0
   have HL:=Hq (show n=0 by simp at hl;omega)
   have hq:∀ W:World,(binOp .eql 23 (.slice none n c) (.slice none 0 0)).run Try.prog W = .ok (.bool true) W:=fun W=>Lib.run_eql_slice_nil (P:=Try.prog) W 23 52 none n c 0 0 Zjp
   clear h hx hl
   go_enter Try.func28,Try.ntmps28
   go_wp2
   go_ret
   exact ⟨_,rfl,Zc _ _,by rw [HL.out];rfl,Or.inl ⟨rfl,HL.out⟩⟩
 | some ad =>
   have HC:=Hq (Zgq (Yy h (Ga w (.cells #[] 52) none)))
   have O0:=Hq (World.ownsRow_lit (base:=w.heap.size) (e:=52) (size:=4) w #[] 0 (Nat.le_refl _) (by decide) rfl)
   have HL:=Hq hl
   have HX:=Hq hx
   have hq:∀ W:World,(binOp .eql 23 (.slice (some ad) n c) (.slice none 0 0)).run Try.prog W = .ok (.bool false) W:=fun W=>Lib.run_eql_slice_nil (P:=Try.prog) W 23 52 (some ad) n c 0 0 Zjp
   clear h hl hx
   go_enter Try.func28,Try.ntmps28
   go_wp2_with (at_builtin;refine wpList_append_own_at _ rfl _ _ 23 rfl w.heap.size 52 bi (.agg #[.int .i64 0,.int .i64 0,.int .i64 0,.slice none 0 0]) 4 48 Zjp bi0 bi1 bi2 bi3 rfl (by decide) (.slice (some ⟨w.heap.size,0,none⟩) 0 0) _ _ rfl O0.out ad n c xs rfl HL.out HC.out HX.out hc3 hc4 (by simp) ?_;intro v3 w3 hown3 hgr3 hnil3 hat3;simp only [Nat.zero_add,List.nil_append] at hown3;obtain ⟨p3,k3,hv3⟩:=Zq hown3;subst hv3;have OW3:=Hq hown3;have GR3:=Hq hgr3;clear hown3 hgr3 hnil3 hat3)
   go_ret
   exact ⟨_,rfl,Yu (Ga w _ none) GR3.out fun k hk=>(O0.out.lt k hk).1,OW3.out⟩
theorem Yns:(Try.prog.info? 5).map (fun i=>(i.zero,i.size,i.bytes))=some (some (.int .u8 0),1,1):=by kernel_rfl
theorem Zxq:Try.prog.underlying 22=some (.slice 5):=by kernel_rfl
theorem Yim (p:Option Addr) (n c:Nat) (xs:List Value) (w:World) (hl:xs.length=n*1) (h:Rd w p xs) (hx:∀ u∈xs,u.oneCell'=true) (hn:n<=4194304) :
 Calls Try.prog 27 #[.slice p n c] w fun e w'=>∃ v,e = .returned v/\w.grownBy w' none/\w'.ownsRow w.heap.size 5 1 v n xs:=by
 obtain ⟨bi,bi0,bi1,bi2,bi3⟩:=info_parts Yns
 have hc3:0+n<=maxLen:=by unfold maxLen;omega
 have hc4:(0+n)*1<=140737488355328:=by omega
 cases p with
 | none =>
   have e0:=Zjk h
   subst e0
   have HL:=Hq (show n=0 by simp at hl;omega)
   have hq:∀ W:World,(binOp .eql 22 (.slice none n c) (.slice none 0 0)).run Try.prog W = .ok (.bool true) W:=fun W=>Lib.run_eql_slice_nil (P:=Try.prog) W 22 5 none n c 0 0 Zxq
   clear h hx hl
   go_enter Try.func27,Try.ntmps27
   go_wp2
   go_ret
   exact ⟨_,rfl,Zc _ _,by rw [HL.out];rfl,Or.inl ⟨rfl,HL.out⟩⟩
 | some ad =>
   have HC:=Hq (Zgq (Yy h (Ga w (.cells #[] 5) none)))
   have O0:=Hq (World.ownsRow_lit (base:=w.heap.size) (e:=5) (size:=1) w #[] 0 (Nat.le_refl _) (by decide) rfl)
   have HL:=Hq hl
   have HX:=Hq hx
   have hq:∀ W:World,(binOp .eql 22 (.slice (some ad) n c) (.slice none 0 0)).run Try.prog W = .ok (.bool false) W:=fun W=>Lib.run_eql_slice_nil (P:=Try.prog) W 22 5 (some ad) n c 0 0 Zxq
   clear h hl hx
   go_enter Try.func27,Try.ntmps27
   go_wp2_with (at_builtin;refine wpList_append_own_at _ rfl _ _ 22 rfl w.heap.size 5 bi (.int .u8 0) 1 1 Zxq bi0 bi1 bi2 bi3 rfl (by decide) (.slice (some ⟨w.heap.size,0,none⟩) 0 0) _ _ rfl O0.out ad n c xs rfl HL.out HC.out HX.out hc3 hc4 (by simp) ?_;intro v3 w3 hown3 hgr3 hnil3 hat3;simp only [Nat.zero_add,List.nil_append] at hown3;obtain ⟨p3,k3,hv3⟩:=Zq hown3;subst hv3;have OW3:=Hq hown3;have GR3:=Hq hgr3;clear hown3 hgr3 hnil3 hat3)
   go_ret
   exact ⟨_,rfl,Yu (Ga w _ none) GR3.out fun k hk=>(O0.out.lt k hk).1,OW3.out⟩
def Xa:List FnP->List Value->List Value
 | f::r,v::s => .int .i64 f.1 :: .int .i64 f.2.1 :: .int .i64 f.2.2.1::v::Xa r s
 | _,_=>[]
theorem Ja:∀ (fs:List FnP) (cv:List Value),cv.length=fs.length->(Xa fs cv).length=fs.length*4
 | [],[],_=>rfl
 | [],_::_,h=>by simp at h
 | _::_,[],h=>by simp at h
 | f::r,v::s,h=>by simp [Xa,Ja r s (by simpa using h)];omega
theorem Xs:∀ (fs:List FnP) (cv:List Value) (i:Nat) (f:FnP) (v:Value),fs[i]? = some f->cv[i]? = some v->(Xa fs cv)[i*4]? = some (.int .i64 f.1)/\(Xa fs cv)[i*4+1]? = some (.int .i64 f.2.1)/\(Xa fs cv)[i*4+2]? = some (.int .i64 f.2.2.1)/\(Xa fs cv)[i*4+3]? = some v
 | [],_,i,f,v,h,_=>by simp at h
 | _::_,[],i,f,v,_,h=>by simp at h
 | g::r,u::s,0,f,v,h,h'=>by simp at h h';subst h;subst h';simp [Xa]
 | g::r,u::s,i+1,f,v,h,h'=>by
   obtain ⟨h1,h2,h3,h4⟩:=Xs r s i f v (by simpa using h) (by simpa using h')
   have e:(i+1)*4=i*4+1+1+1+1:=by omega
   rw [e]
   simp only [Xa]
   exact ⟨by simpa using h1,by simpa using h2,by simpa using h3,by simpa using h4⟩
theorem Ziu:∀ (fs:List FnP) (cv:List Value) (i:Nat) (v:Value),(Xa fs cv).set (i*4+3) v=Xa fs (cv.set i v)
 | [],cv,i,v=>by simp [Xa]
 | _::_,[],i,v=>by simp [Xa]
 | g::r,u::s,0,v=>by simp [Xa]
 | g::r,u::s,i+1,v=>by
   have ih:=Ziu r s i v
   have e:(i+1)*4+3=(i*4+3)+1+1+1+1:=by omega
   rw [e]
   simp only [Xa,List.set_cons_succ,ih]
theorem Zjq:∀ (fs gs:List FnP) (cv:List Value),fs.length=gs.length->(∀ (i:Nat) (f g:FnP),fs[i]? = some f->gs[i]? = some g->f.1=g.1/\f.2.1=g.2.1/\f.2.2.1=g.2.2.1)->Xa fs cv=Xa gs cv
 | [],[],_,_,_=>rfl
 | [],_::_,_,h,_=>by simp at h
 | _::_,[],_,h,_=>by simp at h
 | _::_,_::_,[],_,_=>rfl
 | f::r,g::s,v::t,h,e=>by
   obtain ⟨e1,e2,e3⟩:=e 0 f g rfl rfl
   simp only [Xa,e1,e2,e3,Zjq r s t (by simpa using h) (fun i a b ha hb=>e (i+1) a b (by simpa using ha) (by simpa using hb))]
theorem Yhr {fs:List FnP} {cv:List Value} (hv:∀ v∈cv,v.oneCell'=true):∀ u∈Xa fs cv,u.oneCell'=true:=by
 induction fs generalizing cv with
 | nil=>intro u hu;simp [Xa] at hu
 | cons f r ih =>
   cases cv with
   | nil=>intro u hu;simp [Xa] at hu
   | cons v s =>
     intro u hu
     simp only [Xa,List.mem_cons] at hu
     rcases hu with rfl|rfl|rfl|rfl|hu
     · rfl
     · rfl
     · rfl
     · exact hv _ (List.mem_cons_self ..)
     · exact ih (fun v' hv'=>hv v' (List.mem_cons_of_mem _ hv')) u hu
structure Zco (w:World) (base:Nat) (D F:Value) (dl:List Int) (fs:List FnP) (cv:List Value):Prop where
 dt:w.ownsRow base 5 1 D dl.length (dl.map (Value.int .u8))
 fr:w.ownsRow base 52 4 F fs.length (Xa fs cv)
 cl:cv.length=fs.length
 each:∀ (k:Nat) (f:FnP) (v:Value),fs[k]? = some f->cv[k]? = some v->w.ownsRow base 49 2 v f.2.2.2.length (Zw f.2.2.2)
 dis:∀ (k l:Nat) (v v':Value) (b:Nat),k≠l->cv[k]? = some v->cv[l]? = some v'->v.ownBlock=some b->v'.ownBlock≠some b
theorem Yeo {P:Nat->Prop} {w w':World} {base:Nat} {D F:Value} {dl:List Int} {fs:List FnP} {cv:List Value} (h:Zco w base D F dl fs cv) (g:Sp P w w') (hp:∀ k,base<=k->¬ P k):Zco w' base D F dl fs cv :=
 ⟨Zfy h.dt g fun k hk=>hp k (h.dt.lt k hk).1,Zfy h.fr g fun k hk=>hp k (h.fr.lt k hk).1,h.cl,fun k f v hf hv=>Zfy (h.each k f v hf hv) g fun b hb=>hp b ((h.each k f v hf hv).lt b hb).1,h.dis⟩
theorem Xj {w w':World} {base:Nat} {D F:Value} {dl:List Int} {fs:List FnP} {cv:List Value} (h:Zco w base D F dl fs cv) (g:w.grownBy w' none):Zco w' base D F dl fs cv :=
 Yeo (P:=fun _=>False) h (Yl g (by simp)) (fun _ _ h=>h)
theorem Zaj {w:World} {base base':Nat} {D F:Value} {dl:List Int} {fs:List FnP} {cv:List Value} (h:Zco w base D F dl fs cv) (hb:base'<=base):Zco w base' D F dl fs cv :=
 ⟨Ye h.dt hb,Ye h.fr hb,h.cl,fun k f v hf hv=>Ye (h.each k f v hf hv) hb,h.dis⟩
theorem Zne {w:World} {base:Nat} {p:Option Addr} {n k:Nat} {c:List Ins} (h:w.ownsRow base 49 2 (.slice p n k) c.length (Zw c)):n=c.length/\Ji w w.heap.size p c:=by
 obtain ⟨p',k',e⟩:=Zq h
 injection e with e1 e2 e3
 refine ⟨e2,fun h0 => ?_⟩
 obtain ⟨g,cap,hv,hg,hc⟩:=Yb h h0
 injection hv with hv _ _
 refine ⟨g,0,hv,hg,fun i op a hi => ?_⟩
 obtain ⟨q0,q1⟩:=Zad c i op a hi
 have hl:=(List.getElem?_eq_some_iff.1 hi).1
 rw [Nat.zero_add]
 exact ⟨hc _ _ q0 (by omega),hc _ _ q1 (by omega)⟩
theorem Jc {w:World} {base:Nat} {D F:Value} {dl:List Int} {fs:List FnP} {cv:List Value} (h:Zco w base D F dl fs cv):∃ (pD pF:Option Addr) (cD cF:Nat),D = .slice pD dl.length cD/\F = .slice pF fs.length cF:=by
 obtain ⟨pD,cD,e1⟩:=Zq h.dt
 obtain ⟨pF,cF,e2⟩:=Zq h.fr
 exact ⟨pD,pF,cD,cF,e1,e2⟩
theorem Zon {w:World} {base:Nat} {D:Value} {pF:Option Addr} {cF:Nat} {dl:List Int} {fs:List FnP} {cv:List Value} (h:Zco w base D (.slice pF fs.length cF) dl fs cv):Yk w w.heap.size pF fs:=fun h0=>by
 obtain ⟨g,cap,hv,hg,hc⟩:=Yb h.fr h0
 injection hv with hv _ _
 refine ⟨g,0,hv,hg,fun i a l r c hi => ?_⟩
 have hil:=(List.getElem?_eq_some_iff.1 hi).1
 obtain ⟨v,hv2⟩:∃ v,cv[i]? = some v:=⟨_,List.getElem?_eq_getElem (by rw [h.cl];exact hil)⟩
 obtain ⟨q0,q1,q2,q3⟩:=Xs fs cv i _ v hi hv2
 have ho:=h.each i _ v hi hv2
 obtain ⟨pc,cc,rfl⟩:=Zq ho
 rw [Nat.zero_add]
 exact ⟨hc _ _ q0 (by omega),hc _ _ q1 (by omega),hc _ _ q2 (by omega),pc,cc,hc _ _ q3 (by omega),(Zne ho).2⟩
theorem Zoo {w:World} {base:Nat} {F:Value} {pD:Option Addr} {n cD:Nat} {dl:List Int} {fs:List FnP} {cv:List Value} (h:Zco w base (.slice pD n cD) F dl fs cv):Rd w pD (dl.map (Value.int .u8)):=fun h0=>by
 have hl:0<dl.length:=by
  cases dl with
  | nil=>simp at h0
  | cons x r=>simp
 obtain ⟨g,cap,hv,hg,hc⟩:=Yb h.dt hl
 injection hv with hv _ _
 refine ⟨g,0,hv,fun j u hj => ?_⟩
 have:=(List.getElem?_eq_some_iff.1 hj).1
 rw [Nat.zero_add]
 exact hc j u hj (by simpa using this)
theorem Zyr {w w':World} {base:Nat} {D:Value} {g cF:Nat} {dl:List Int} {fs:List FnP} {cv:List Value} {i:Nat} {f f':FnP} {v:Value} (h:Zco w base D (.slice (some ⟨g,0,none⟩) fs.length cF) dl fs cv) (hf:fs[i]? = some f) (he:f.1=f'.1/\f.2.1=f'.2.1/\f.2.2.1=f'.2.2.1)
 (hv:w.ownsRow base 49 2 v f'.2.2.2.length (Zw f'.2.2.2)) (hd:∀ (k:Nat) (v':Value) (b:Nat),k≠i->cv[k]? = some v'->v'.ownBlock=some b->v.ownBlock≠some b) :
 Zco (w.setCell ⟨g,i*4+3,none⟩ v) base D (.slice (some ⟨g,0,none⟩) fs.length cF) dl (fs.set i f') (cv.set i v):=by
 have hil:=(List.getElem?_eq_some_iff.1 hf).1
 have gs:=Zg w g (i*4+3) v
 have hrow:(w.setCell ⟨g,i*4+3,none⟩ v).ownsRow base 52 4 (.slice (some ⟨g,0,none⟩) fs.length cF) fs.length ((Xa fs cv).set (i*4+3) v):=(h.fr.stored _ _).1
 rw [Ziu] at hrow
 have hfl:Xa fs (cv.set i v)=Xa (fs.set i f') (cv.set i v):=by
  refine Zjq _ _ _ (by simp) fun j a b ha hb => ?_
  by_cases e:j=i
  · subst e
    rw [hf] at ha
    rw [List.getElem?_set_self hil] at hb
    injection ha with ha;injection hb with hb
    subst ha;subst hb
    exact he
  · rw [List.getElem?_set_ne (Ne.symm e)] at hb
    rw [ha] at hb
    injection hb with hb
    subst hb
    exact ⟨rfl,rfl,rfl⟩
 have ne:∀ (v2:Value) (n:Nat) (xs:List Value) (E:TypeId) (sz:Nat),w.ownsRow base E sz v2 n xs->E≠52->v2.ownBlock=none\/v2.ownBlock≠some g:=fun v2 n xs E sz ho hE=>Xr ho h.fr hE
 refine ⟨h.dt.kept gs (ne _ _ _ _ _ h.dt (by decide)),by rw [List.length_set,<- hfl];exact hrow,by rw [List.length_set,List.length_set];exact h.cl,fun k a b ha hb => ?_,fun k l a b bb hkl ha hb hab => ?_⟩
 · by_cases e:k=i
   · subst e
     rw [List.getElem?_set_self hil] at ha
     rw [List.getElem?_set_self (by rw [h.cl];exact hil)] at hb
     injection ha with ha;injection hb with hb
     subst ha;subst hb
     exact hv.kept gs (ne _ _ _ _ _ hv (by decide))
   · rw [List.getElem?_set_ne (Ne.symm e)] at ha hb
     exact (h.each k a b ha hb).kept gs (ne _ _ _ _ _ (h.each k a b ha hb) (by decide))
 · have hic:i<cv.length:=by rw [h.cl];exact hil
   by_cases e:k=i
   · subst e
     rw [List.getElem?_set_self hic] at ha
     rw [List.getElem?_set_ne hkl] at hb
     injection ha with ha
     subst ha
     intro e2
     exact hd l b bb (Ne.symm hkl) hb e2 hab
   · rw [List.getElem?_set_ne (Ne.symm e)] at ha
     by_cases e2:l=i
     · subst e2
       rw [List.getElem?_set_self hic] at hb
       injection hb with hb
       subst hb
       exact hd k a bb e ha hab
     · rw [List.getElem?_set_ne (Ne.symm e2)] at hb
       exact h.dis k l a b bb hkl ha hb hab
def Yae (w:World) (mem:Int) (dl:List Int) (fs:List FnP) (e:Ending) (w':World):Prop :=
 ∃ D F cv,e = .returned (.agg #[.int .i64 mem,D,F])/\w.grownBy w' none/\Zco w' w.heap.size D F dl fs cv
def Xbw (w:World) (B:Nat) (fs:List FnP) (cv:List Value):Prop:=cv.length=fs.length/\∀ (k:Nat) (f:FnP) (v:Value),fs[k]? = some f->cv[k]? = some v->∃ (p:Option Addr) (c:Nat),v = .slice p f.2.2.2.length c/\Ji w B p f.2.2.2
theorem Yqx {w:World} {B:Nat} {pF:Option Addr} {fs:List FnP} (h:Yk w B pF fs):∃ cv,Xbw w B fs cv/\Rd w pF (Xa fs cv):=by
 by_cases h0:0<fs.length
 · obtain ⟨b,o,e,hb,hc⟩:=h h0
   have hex:∀ k:Nat,∃ v:Value,∀ f:FnP,fs[k]? = some f->w.cell? ⟨b,o+k*4+3,none⟩=some v/\∃ (p:Option Addr) (c:Nat),v = .slice p f.2.2.2.length c/\Ji w B p f.2.2.2:=by
    intro k
    cases hf:fs[k]? with
    | none=>exact ⟨undef,fun f h=>by cases h⟩
    | some f =>
      obtain ⟨a,l,r,c⟩:=f
      obtain ⟨-,-,-,pc,cc,h3,h4⟩:=hc k a l r c hf
      exact ⟨_,fun f h=>by injection h with h;subst h;exact ⟨h3,pc,cc,rfl,h4⟩⟩
   obtain ⟨vv,hvv⟩:=Classical.axiomOfChoice hex
   refine ⟨(List.range fs.length).map vv,⟨by simp,fun k f v hf hv => ?_⟩,fun _=>⟨b,o,e,fun j u hj => ?_⟩⟩
   · have hk:=(List.getElem?_eq_some_iff.1 hf).1
     simp [hk] at hv
     subst hv
     exact (hvv k f hf).2
   · have hl:=Ja fs ((List.range fs.length).map vv) (by simp)
     have hj2:=(List.getElem?_eq_some_iff.1 hj).1
     obtain ⟨k,r,rfl,hr⟩:∃ k r,j=k*4+r/\r<4:=⟨j / 4,j % 4,by omega,by omega⟩
     have hk:k<fs.length:=by omega
     obtain ⟨⟨a,l,rr,c⟩,hf⟩:∃ f,fs[k]? = some f:=⟨_,List.getElem?_eq_getElem hk⟩
     obtain ⟨q0,q1,q2,q3⟩:=Xs fs ((List.range fs.length).map vv) k _ (vv k) hf (by simp [hk])
     obtain ⟨e0,e1,e2,-⟩:=hc k a l rr c hf
     have e3:=(hvv k _ hf).1
     rcases (by omega:r=0\/r=1\/r=2\/r=3) with rfl|rfl|rfl|rfl
     · rw [Nat.add_zero] at hj ⊢;rw [q0] at hj;injection hj with hj;subst hj;exact e0
     · rw [q1] at hj;injection hj with hj;subst hj;exact e1
     · rw [q2] at hj;injection hj with hj;subst hj;exact e2
     · rw [q3] at hj;injection hj with hj;subst hj;exact e3
 · have:fs=[]:=List.eq_nil_of_length_eq_zero (by omega)
   subst this
   exact ⟨[],⟨rfl,fun k f v hf _=>by simp at hf⟩,fun h=>absurd rfl h⟩
theorem Ylh {w:World} {B:Nat} {fs:List FnP} {cv:List Value} (h:Xbw w B fs cv):∀ v∈cv,v.oneCell'=true:=fun v hv=>by
 obtain ⟨k,hk⟩:=List.getElem?_of_mem hv
 have hl:=(List.getElem?_eq_some_iff.1 hk).1
 obtain ⟨p,c,rfl,_⟩:=h.2 k (fs[k]'(by rw [<- h.1];exact hl)) v (List.getElem?_eq_getElem _) hk
 rfl
theorem Zwj {w:World} {B:Nat} {p:Option Addr} {c:List Ins} (h:Ji w B p c):Rd w p (Zw c):=fun h0=>by
 have hl:0<c.length:=by
  cases c with
  | nil=>simp [Zw] at h0
  | cons x r=>simp
 obtain ⟨b,o,e,hb,hc⟩:=h hl
 refine ⟨b,o,e,fun j u hj => ?_⟩
 have hj2:=(List.getElem?_eq_some_iff.1 hj).1
 rw [Xo] at hj2
 obtain ⟨i,r,rfl,hr⟩:∃ i r,j=i*2+r/\r<2:=⟨j / 2,j % 2,by omega,by omega⟩
 obtain ⟨⟨op,a⟩,hi⟩:∃ x,c[i]? = some x:=⟨_,List.getElem?_eq_getElem (by omega)⟩
 obtain ⟨q0,q1⟩:=Zad c i op a hi
 obtain ⟨e0,e1⟩:=hc i op a hi
 rcases (by omega:r=0\/r=1) with rfl|rfl
 · rw [Nat.add_zero] at hj ⊢;rw [q0] at hj;injection hj with hj;subst hj;exact e0
 · rw [q1] at hj;injection hj with hj;subst hj;exact e1
theorem Zbl:∀ (c:List Ins),∀ u∈Zw c,u.oneCell'=true
 | [],u,hu=>by simp [Zw] at hu
 | x::r,u,hu=>by
   simp only [Zw,List.mem_cons] at hu
   rcases hu with rfl|rfl|hu
   · rfl
   · rfl
   · exact Zbl r u hu
structure Yyd (w0 w:World) (b1 base k:Nat) (mem:Int) (D F:Value) (dl:List Int) (fs:List FnP) (cv0 cv:List Value):Prop where
 g:w0.grownBy w none
 box:w.heap[b1]? = some (.cells #[.int .i64 mem,D,F] 25 (0,0))
 dt:w.ownsRow base 5 1 D dl.length (dl.map (Value.int .u8))
 fr:w.ownsRow base 52 4 F fs.length (Xa fs cv)
 cl:cv.length=fs.length
 old:∀ j,k<=j->cv[j]? = cv0[j]?
 each:∀ (j:Nat) (f:FnP) (v:Value),j<k->fs[j]? = some f->cv[j]? = some v->w.ownsRow base 49 2 v f.2.2.2.length (Zw f.2.2.2)
 dis:∀ (j l:Nat) (v v':Value) (b:Nat),j<k->l<k->j≠l->cv[j]? = some v->cv[l]? = some v'->v.ownBlock=some b->v'.ownBlock≠some b
theorem Ypq {w0 w w5:World} {b1 base gF cF k:Nat} {mem:Int} {D:Value} {dl:List Int} {fs:List FnP} {cv0 cv:List Value} {f:FnP} {v5:Value} (h:Yyd w0 w b1 base k mem D (.slice (some ⟨gF,0,none⟩) fs.length cF) dl fs cv0 cv) (hf:fs[k]? = some f) (hb0:w0.heap.size<=base) (hbw:base<=w.heap.size) (hg:w.grownBy w5 none) (ho:w5.ownsRow w.heap.size 49 2 v5 f.2.2.2.length (Zw f.2.2.2)) :
 Yyd w0 (w5.setCell ⟨gF,k*4+3,none⟩ v5) b1 base (k+1) mem D (.slice (some ⟨gF,0,none⟩) fs.length cF) dl fs cv0 (cv.set k v5):=by
 have hkl:=(List.getElem?_eq_some_iff.1 hf).1
 have gs:=Zg w5 gF (k*4+3) v5
 have hfr:=h.fr.kept hg (Classical.em _)
 have lt:=h.fr.lt gF rfl
 have hnb:b1≠gF:=by
  intro e
  have:=Yd h.fr h.box (by decide)
  exact this (by rw [e];rfl)
 have hrow:=(hfr.stored (k*4+3) v5).1
 rw [Ziu] at hrow
 have ne:∀ (v2:Value) (n:Nat) (xs:List Value) (E:TypeId) (sz b:Nat),w5.ownsRow b E sz v2 n xs->E≠52->v2.ownBlock=none\/v2.ownBlock≠some gF:=fun v2 n xs E sz b hoo hE=>Xr (Ye hoo (Nat.zero_le _)) (Ye hfr (Nat.zero_le _)) hE
 have hkc:k<cv.length:=by rw [h.cl];exact hkl
 refine ⟨Ze (Za h.g hg) (by omega),Zb (Zb h.box hg (by simp)) gs (by intro e;injection e with e;exact hnb e.symm),(h.dt.kept hg (Classical.em _)).kept gs (ne _ _ _ _ _ _ (h.dt.kept hg (Classical.em _)) (by decide)),hrow,by simp [h.cl],fun j hj => ?_,fun j f' v hj hf' hv => ?_,fun j l v v' b hj hl hjl hv hv' hb => ?_⟩
 · rw [List.getElem?_set_ne (by omega)]
   exact h.old j (by omega)
 · by_cases e:j=k
   · subst e
     rw [List.getElem?_set_self hkc] at hv
     injection hv with hv;subst hv
     rw [hf] at hf';injection hf' with hf';subst hf'
     exact (Ye ho hbw).kept gs (ne _ _ _ _ _ _ ho (by decide))
   · rw [List.getElem?_set_ne (Ne.symm e)] at hv
     have:=(h.each j f' v (by omega) hf' hv).kept hg (Classical.em _)
     exact this.kept gs (ne _ _ _ _ _ _ this (by decide))
 · have old_lt:∀ (j:Nat) (v:Value) (b:Nat),j<k->cv[j]? = some v->v.ownBlock=some b->b<w.heap.size:=fun j v b hj hv hb=>by
    have hjl2:=(List.getElem?_eq_some_iff.1 hv).1
    rw [h.cl] at hjl2
    exact ((h.each j _ v hj (List.getElem?_eq_getElem hjl2) hv).lt b hb).2
   by_cases e:j=k
   · subst e
     rw [List.getElem?_set_self hkc] at hv
     injection hv with hv;subst hv
     rw [List.getElem?_set_ne hjl] at hv'
     have g1:=(ho.lt b hb).1
     intro e2
     have:=old_lt l v' b (by omega) hv' e2
     omega
   · rw [List.getElem?_set_ne (Ne.symm e)] at hv
     by_cases e2:l=k
     · subst e2
       rw [List.getElem?_set_self hkc] at hv'
       injection hv' with hv';subst hv'
       have g1:=old_lt j v b (by omega) hv hb
       intro e3
       have:=(ho.lt b e3).1
       omega
     · rw [List.getElem?_set_ne (Ne.symm e2)] at hv'
       exact h.dis j l v v' b (by omega) (by omega) hjl hv hv' hb
theorem Ypr {w0 w:World} {b1 base:Nat} {mem:Int} {D F:Value} {dl:List Int} {fs:List FnP} {cv0 cv:List Value} (h:Yyd w0 w b1 base fs.length mem D F dl fs cv0 cv):Zco w base D F dl fs cv :=
 ⟨h.dt,h.fr,h.cl,fun k f v hf hv=>h.each k f v (List.getElem?_eq_some_iff.1 hf).1 hf hv,fun k l v v' b hkl hv hv' hb=>h.dis k l v v' b (by rw [<- h.cl];exact (List.getElem?_eq_some_iff.1 hv).1) (by rw [<- h.cl];exact (List.getElem?_eq_some_iff.1 hv').1) hkl hv hv' hb⟩
end Go.Proofs.Ythlkflagancdfaa.OT
namespace Go.Proofs.Ythlkflagancdfaa.CK
open Go.RowKit Go.Great
structure WY (c s n:Nat) (D:List (Nat × Nat)) (W:World) (B P Q:World->Prop) (l:Array Bool) (w:World):Prop where
 sz:l.size=n
 h0:l.getD c false=false->w=W
 b:l.getD s false=false->B w
 h1:l.getD c false=true->l.getD s false=false->P w
 h2:l.getD s false=true->Q w
 x:l.getD s false=true->∀ j,j<n->l.getD j false=true
 cl:∀ p∈D,l.getD p.1 false=true->l.getD p.2 false=true
theorem Zkq {c s n:Nat} {D:List (Nat × Nat)} {W:World} {B P Q:World->Prop} (hb:B W):WY c s n D W B P Q (Array.replicate n false) W :=
 ⟨by simp,fun _=>rfl,fun _=>hb,fun h=>(by rw [getD_replicate_false] at h;cases h),fun h=>(by rw [getD_replicate_false] at h;cases h),fun h=>(by rw [getD_replicate_false] at h;cases h),fun p _ h=>(by rw [getD_replicate_false] at h;cases h)⟩
theorem Yak {c s n i:Nat} {D:List (Nat × Nat)} {W w:World} {B P Q:World->Prop} {l:Array Bool} (h:WY c s n D W B P Q l w) (hin:i<n) (hun:l.getD i false=false):l.getD s false=false:=by
 cases e:l.getD s false with
 | false=>rfl
 | true=>rw [h.x e i hin] at hun;cases hun
theorem Yg {c s n i:Nat} {D:List (Nat × Nat)} {W w:World} {B P Q:World->Prop} {l:Array Bool} (h:WY c s n D W B P Q l w) (hin:i<n) (hun:l.getD i false=false) (hc:i≠c) (hs:i≠s) (hp:∀ p∈D,p.1=i->l.getD p.2 false=true):WY c s n D W B P Q (l.setIfInBounds i true) w:=by
 have gc:(l.setIfInBounds i true).getD c false=l.getD c false:=by rw [Yc l i c (by rw [h.sz];exact hin),if_neg (Ne.symm hc)]
 have gs:(l.setIfInBounds i true).getD s false=l.getD s false:=by rw [Yc l i s (by rw [h.sz];exact hin),if_neg (Ne.symm hs)]
 have ns:=Yak h hin hun
 refine ⟨by simp [h.sz],fun e=>h.h0 (by rw [<- gc];exact e),fun _=>h.b ns,fun e1 _=>h.h1 (by rw [<- gc];exact e1) ns,fun e => ?_,fun e => ?_,Yjp h.sz hin h.cl hp⟩
 · rw [gs,ns] at e;cases e
 · rw [gs,ns] at e;cases e
theorem Zpl {c s n:Nat} {D:List (Nat × Nat)} {W w w':World} {B P Q P' Q':World->Prop} {l:Array Bool} (h:WY c s n D W B P Q l w) (hin:c<n) (hun:l.getD c false=false) (hs:c≠s) (hd:∀ p∈D,p.1=c->l.getD p.2 false=true) (hb:B w') (hp:P' w'):WY c s n D W B P' Q' (l.setIfInBounds c true) w':=by
 have gc:(l.setIfInBounds c true).getD c false=true:=by rw [Yc l c c (by rw [h.sz];exact hin),if_pos rfl]
 have gs:(l.setIfInBounds c true).getD s false=l.getD s false:=by rw [Yc l c s (by rw [h.sz];exact hin),if_neg (Ne.symm hs)]
 have ns:=Yak h hin hun
 refine ⟨by simp [h.sz],fun e => ?_,fun _=>hb,fun _ _=>hp,fun e => ?_,fun e => ?_,Yjp h.sz hin h.cl hd⟩
 · rw [gc] at e;cases e
 · rw [gs,ns] at e;cases e
 · rw [gs,ns] at e;cases e
theorem Zkp {c s n:Nat} {D:List (Nat × Nat)} {W w w':World} {B P Q:World->Prop} {l:Array Bool} (h:WY c s n D W B P Q l w) (hin:s<n) (hc:c≠s) (hcn:c<n) (hall:∀ j,j<n->j≠s->l.getD j false=true) (hd:∀ p∈D,p.1=s->l.getD p.2 false=true) (hq:Q w'):WY c s n D W B P Q (l.setIfInBounds s true) w':=by
 have gj:∀ j,j<n->(l.setIfInBounds s true).getD j false=true:=fun j hj=>by
  rw [Yc l s j (by rw [h.sz];exact hin)]
  by_cases e:j=s
  · rw [if_pos e]
  · rw [if_neg e];exact hall j hj e
 refine ⟨by simp [h.sz],fun e => ?_,fun e => ?_,fun _ e => ?_,fun _=>hq,fun _=>gj,Yjp h.sz hin h.cl hd⟩
 · rw [gj c hcn] at e;cases e
 · rw [gj s hin] at e;cases e
 · rw [gj s hin] at e;cases e
theorem Zn {ops:Array Oper} {l:Array Bool} {i:Nat} (D:List (Nat × Nat)) (hi:i∈Region.ready .any ops l) (h:(D.all fun p=>p.1 != i || ((ops[i]?).any fun o=>o.after.any fun e=>e.on == p.2 && Region.binds .any e))=true):∀ p∈D,p.1=i->l.getD p.2 false=true:=fun p hp e=>by
 have h1:=List.all_eq_true.1 h p hp
 rw [e] at h1
 simp only [bne_self_eq_false,Bool.false_or] at h1
 exact Zf hi p.2 h1
end Go.Proofs.Ythlkflagancdfaa.CK
namespace Go.Proofs.Ythlkflagancdfaa.OT
open Go.RowKit Go.Great
open Go.Proofs.Ythlkflagancdfaa.CK
def tw6:Nat->Nat
 | 0=>18
 | 1=>19
 | 2=>20
 | 3=>21
 | 4=>22
 | 5=>23
 | 6=>24
 | 7=>25
 | 8=>26
 | 9=>27
 | 10=>28
 | 11=>29
 | 12=>1012
 | _=>5000
theorem Zec:∀ i,i<13->∀ j,j<13->j≠i->tw6 j≠tw6 i:=by decide
theorem Yde (i:Nat) (h:i<13):i=0\/i=1\/i=2\/i=3\/i=4\/i=5\/i=6\/i=7\/i=8\/i=9\/i=10\/i=11\/i=12:=by omega
theorem Zpq (j:Nat) (hj:j∈[1,3]):∀ i,i<13->tw6 i≠j:=by revert j;decide
def Znm (b1 gF nF cF4 k nc cc:Nat) (pc:Option Addr) (pv:Option Addr) (cv9:Nat):Nat->Value
 | 0 => .pointer (some ⟨b1,2,none⟩)
 | 1 => .slice (some ⟨gF,0,none⟩) nF cF4
 | 2 => .int .i64 k
 | 3 => .pointer (some ⟨b1,2,none⟩)
 | 4 => .slice (some ⟨gF,0,none⟩) nF cF4
 | 5 => .int .i64 k
 | 6 => .pointer (some ⟨gF,k*4,none⟩)
 | 7 => .pointer (some ⟨gF,k*4+3,none⟩)
 | 8 => .slice pc nc cc
 | 9 => .slice pv nc cv9
 | 10 => .pointer (some ⟨gF,k*4,none⟩)
 | 11 => .pointer (some ⟨gF,k*4+3,none⟩)
 | 12=>undef
 | _=>undef
theorem Yum {b1 gF nF cF4 k nc cc:Nat} {pc:Option Addr} {pv:Option Addr} {cv9:Nat} {pv2:Option Addr} {cv92:Nat} (l:Array Bool) (hun:l.getD 9 false=false):∀ i,i<13->l.getD i false=true->tw6 i<32->Znm b1 gF nF cF4 k nc cc pc pv2 cv92 i=Znm b1 gF nF cF4 k nc cc pc pv cv9 i:=by
 intro i hi hl _
 rcases Yde i hi with rfl|rfl|rfl|rfl|rfl|rfl|rfl|rfl|rfl|rfl|rfl|rfl|rfl <;> first|rfl|(rw [hun] at hl;cases hl)
theorem Zag {w:World} {base b:Nat} {D F:Value} {mem:Int} {dl:List Int} {fs:List FnP} {cv:List Value} {cs:Array Value} (h:Zco w base D F dl fs cv) (hb:w.heap[b]? = some (.cells cs 25 (0,0))) :
 Zco (((w.setCell ⟨b,0,none⟩ (.int .i64 mem)).setCell ⟨b,1,none⟩ D).setCell ⟨b,2,none⟩ F) base D F dl fs cv:=by
 have g:w.grownBy (((w.setCell ⟨b,0,none⟩ (.int .i64 mem)).setCell ⟨b,1,none⟩ D).setCell ⟨b,2,none⟩ F) (some b):=Za (Za (Zg _ _ _ _) (Zg _ _ _ _)) (Zg _ _ _ _)
 have n:∀ {base:Nat} {e:TypeId} {size n:Nat} {v:Value} {xs:List Value},w.ownsRow base e size v n xs->e≠25->v.ownBlock=none\/v.ownBlock≠some b:=fun ho he=>Or.inr (Yd ho hb he)
 exact ⟨h.dt.kept g (n h.dt (by decide)),h.fr.kept g (n h.fr (by decide)),h.cl,fun k f v hf hv=>(h.each k f v hf hv).kept g (n (h.each k f v hf hv) (by decide)),h.dis⟩
theorem Zkt (mem:Int) (dl:List Int) (fs:List FnP) (pd pF:Option Addr) (cd cF B:Nat) (w:World) (hB:B<=w.heap.size) (hF:Yk w B pF fs) (hD:Rd w pd (dl.map (Value.int .u8))) (hd:dl.length<=4194304) (hn:fs.length<=2097152) (hc:∀ f∈fs,f.2.2.2.length<=4194304) :
 Calls Try.prog 20 #[.agg #[.int .i64 mem,.slice pd dl.length cd,.slice pF fs.length cF]] w (Yae w mem dl fs):=by
 obtain ⟨cv0,hold,hrd⟩:=Yqx hF
 have T1:=Hq (Yt w (.cells #[.int .i64 mem,.slice pd dl.length cd,.slice pF fs.length cF] 25) (.cells #[.int .i64 0,.slice none 0 0,.slice none 0 0] 25))
 have T2:=Hq (Yi w (.cells #[.int .i64 mem,.slice pd dl.length cd,.slice pF fs.length cF] 25) (.cells #[.int .i64 0,.slice none 0 0,.slice none 0 0] 25))
 have G1:=Hq (Za (Ga w (.cells #[.int .i64 mem,.slice pd dl.length cd,.slice pF fs.length cF] 25) none) (Ga _ (.cells #[.int .i64 0,.slice none 0 0,.slice none 0 0] 25) none))
 have CB:=Hq (fun W (g:w.grownBy W none)=>Yim pd dl.length cd (dl.map (Value.int .u8)) W (by simp) (Yy hD g) (Zpk dl) hd)
 have CF:=Hq (fun W (g:w.grownBy W none)=>Yil pF fs.length cF (Xa fs cv0) W (Ja fs cv0 hold.1) (Yy hrd g) (Yhr (Ylh hold)) (by omega))
 have OL:=Hq hold
 have HC:=Hq hc
 have hni:(fs.length:Int)<=2097152:=by omega
 clear hold hrd hF hD hc
 go_enter Try.func20,Try.ntmps20
 go_wp2_with (first
  | (go_at_call 27;refine (CB.out _ G1.out).mono ?_;rintro e w2 ⟨v2,rfl,g2,o2⟩;obtain ⟨pD,cD,hv2⟩:=Zq o2;subst hv2;have X2:=Hq (Zb T1.out g2 (by simp));have Y2:=Hq (Zb T2.out g2 (by simp));have G2:=Hq (Za G1.out g2);have O2:=Hq o2;have k0:=Cq _ _ 0 _ _ _ X2.out;have k1:=Cq _ _ 1 _ _ _ X2.out;have k2:=Cq _ _ 2 _ _ _ X2.out;have z0:=frozen_of_row _ _ 0 _ _ X2.out;have z1:=frozen_of_row _ _ 1 _ _ X2.out;have z2:=frozen_of_row _ _ 2 _ _ X2.out;have q2:=(Gs X2.out);clear g2 o2))
 have X3:=Hq (show (w2.setCell ⟨w.heap.size,1,none⟩ (.slice pD dl.length cD)).heap[w.heap.size]? = some (.cells #[.int .i64 mem,.slice pD dl.length cD,.slice pF fs.length cF] 25 (0,0)) by rw [Zi X2.out];rfl)
 have Y3:=Hq (Zb Y2.out (Zg w2 w.heap.size 1 (.slice pD dl.length cD)) (by simp))
 have G3:=Hq (Ze (b:=w.heap.size) (o:=1) (v := .slice pD dl.length cD) G2.out (Nat.le_refl _))
 have O3:=Hq (Zdy (b:=w.heap.size) (o:=1) (u := .slice pD dl.length cD) O2.out (by simp;omega))
 clear k0 k1 k2 z0 z1 z2 q2
 generalize w2.setCell ⟨w.heap.size,1,none⟩ (.slice pD dl.length cD)=w3 at *
 refine (CF.out _ G3.out).mono ?_
 rintro e w4 ⟨v4,rfl,g4,o4⟩
 obtain ⟨pF4,cF4,hv4⟩:=Zq o4
 subst hv4
 have X4:=Hq (Zb X3.out g4 (by simp))
 have Y4:=Hq (Zb Y3.out g4 (by simp))
 have G4:=Hq (Za G3.out g4)
 have O4:=Hq o4
 have D4:=Hq (O3.out.kept g4 (Classical.em _))
 have k0:=Cq _ _ 0 _ _ _ X4.out
 have k1:=Cq _ _ 1 _ _ _ X4.out
 have k2:=Cq _ _ 2 _ _ _ X4.out
 have z0:=frozen_of_row _ _ 0 _ _ X4.out
 have z1:=frozen_of_row _ _ 1 _ _ X4.out
 have z2:=frozen_of_row _ _ 2 _ _ X4.out
 have q2:=(Gs X4.out)
 clear g4 o4
 go_wp2
 have hb3:w.heap.size<w3.heap.size:=(Gs X3.out)
 have X5:=Hq (show (w4.setCell ⟨w.heap.size,2,none⟩ (.slice pF4 fs.length cF4)).heap[w.heap.size]? = some (.cells #[.int .i64 mem,.slice pD dl.length cD,.slice pF4 fs.length cF4] 25 (0,0)) by rw [Zi X4.out];rfl)
 have Y5:=Hq (Zb Y4.out (Zg w4 w.heap.size 2 (.slice pF4 fs.length cF4)) (by simp))
 have G5:=Hq (Ze (b:=w.heap.size) (o:=2) (v := .slice pF4 fs.length cF4) G4.out (Nat.le_refl _))
 have O5:=Hq (Zdy (b:=w.heap.size) (o:=2) (u := .slice pF4 fs.length cF4) O4.out hb3)
 have D5:=Hq (Zdy (b:=w.heap.size) (o:=2) (u := .slice pF4 fs.length cF4) D4.out (by simp;omega))
 have TW:=Hq (show Yyd w (w4.setCell ⟨w.heap.size,2,none⟩ (.slice pF4 fs.length cF4)) w.heap.size w.heap.size 0 mem (.slice pD dl.length cD) (.slice pF4 fs.length cF4) dl fs cv0 cv0 from
  ⟨G5.out,X5.out,Ye D5.out (by simp;omega),Ye O5.out (by omega),OL.out.1,fun j _=>rfl,fun j f v hj=>absurd hj (Nat.not_lt_zero _),fun j l v v' b hj=>absurd hj (Nat.not_lt_zero _)⟩)
 clear k0 k1 k2 z0 z1 z2 q2 hb3
 generalize w4.setCell ⟨w.heap.size,2,none⟩ (.slice pF4 fs.length cF4)=w5 at *
 go_loopw [15] (fun i wr=>∃ (k:Nat) (cv:List Value),i = .int .i64 k/\k<=fs.length/\wr.heap[w.heap.size+1]? = some (.cells #[.int .i64 0,.slice none 0 0,.slice none 0 0] 25 (0,0))/\Yyd w wr w.heap.size w.heap.size k mem (.slice pD dl.length cD) (.slice pF4 fs.length cF4) dl fs cv0 cv) (fun i _=>fs.length - (intOf i).toNat)
 case atStart=>exact ⟨0,cv0,rfl,Nat.zero_le _,Y5.out,TW.out⟩
 case round =>
  obtain ⟨k,cv,rfl,hk,hg5,hT⟩:=hrel
  have HT:=Hq hT
  have HG:=Hq hg5
  clear hT hg5
  have y0:=Cq _ _ 0 _ _ _ HT.out.box
  have y1:=Cq _ _ 1 _ _ _ HT.out.box
  have y2:=Cq _ _ 2 _ _ _ HT.out.box
  have lb:=(Gs HT.out.box)
  by_cases hlt:(k:Int)<(fs.length:Int)
  · obtain ⟨f,hf⟩:∃ f,fs[k]? = some f:=⟨_,List.getElem?_eq_getElem (by omega)⟩
    obtain ⟨v,hv⟩:∃ v,cv[k]? = some v:=⟨_,List.getElem?_eq_getElem (by rw [HT.out.cl];omega)⟩
    have hv0:cv0[k]? = some v:=by rw [<- HT.out.old k (Nat.le_refl _)];exact hv
    obtain ⟨pc,cc,rfl,hcb⟩:=OL.out.2 k f v hf hv0
    obtain ⟨gF,cap,e,hgF,hcell⟩:=Yb HT.out.fr (by omega)
    injection e with e1 e2 e3
    subst e1;subst e3
    obtain ⟨-,-,-,q3⟩:=Xs fs cv k f _ hf hv
    have c3:=hcell _ _ q3 (by omega)
    have hfz:=Yf HT.out.fr (k*4+3)
    have CC:=Hq (fun W (g:w.grownBy W none)=>Yik pc f.2.2.2.length cc (Zw f.2.2.2) W (Xo _) (Yy (Zwj hcb) g) (Zbl _) (HC.out f (List.mem_of_getElem? hf)))
    have HF:=Hq hf
    clear hcell hf hv hv0 hcb q3
    generalize hnc:f.2.2.2.length=nc at *
    have HNC:=Hq hnc
    clear hnc
    go_wp2
    go_upto_region 6 with fail
    rename_i K hK
    refine Xe (n:=13) (J:=fun a0 l a1 w1=>∃ pv cv9,RJ a0 32 13 tw6 (Znm w.heap.size gF fs.length cF4 k nc cc pc pv cv9) l a1/\WY 9 12 13 [(1,0),(4,3),(6,4),(6,5),(7,6),(8,7),(9,8),(10,1),(10,2),(11,10),(12,11),(12,9)] (wr.drew) (fun W'=>W'.cell? ⟨w.heap.size,2,none⟩=some (.slice (some ⟨gF,0,none⟩) fs.length cF4)/\W'.cell? ⟨gF,k*4+3,none⟩=some (.slice pc nc cc)/\w.heap.size<W'.heap.size/\gF<W'.heap.size) (fun W'=>wr.grownBy W' none/\W'.ownsRow wr.heap.size 49 2 (.slice pv nc cv9) nc (Zw f.2.2.2)/\W'.frozen? ⟨gF,k*4+3,none⟩=false) (fun W'=>∃ w6:World,W'=w6.setCell ⟨gF,k*4+3,none⟩ (.slice pv nc cv9)/\wr.grownBy w6 none/\w6.ownsRow wr.heap.size 49 2 (.slice pv nc cv9) nc (Zw f.2.2.2)) l w1) (by kernel_rfl) rfl (Jh (by kernel_rfl)) (fun l a1 w1 h=>by obtain ⟨_,_,_,h⟩:=h;exact h.sz) ⟨none,0,Xd rfl,Zkq (⟨y2,c3,lb,hgF⟩)⟩ ?step ?fin
    case step =>
     intro l a1 w' i hJJ hi hin
     obtain ⟨pv,cv9,hJ,hW⟩:=hJJ
     have hun:l.getD i false=false:=getD_both (mem_ready.1 hi).1
     have hns:=Yak hW hin hun
     have hb:=hW.b hns
     rcases Yde i hin with rfl|rfl|rfl|rfl|rfl|rfl|rfl|rfl|rfl|rfl|rfl|rfl|rfl
     · have e1:a1.tmps.getD 1 undef = .pointer (some ⟨w.heap.size,0,none⟩):=hJ.un 1 (fun i hi _=>Zpq 1 (by decide) i hi)
       exact Zj (Zp hW hJ rfl (by rfl) rfl (by decide) (by decide) (Zec _ (by decide)) (w':=w') (by simp [execOp,resolve,invoke,builtin,Act.eval,e1,hlt,hb.2.2.1,hb.2.2.2,go_sem,Znm]) (Yg hW (by decide) hun (by decide) (by decide) (Zn _ hi (by kernel_rfl)))) (fun a9 w9 h9=>⟨pv,cv9,h9⟩)
     · have e18:a1.tmps.getD 18 undef = .pointer (some ⟨w.heap.size,2,none⟩):=(Zm hJ hi 0 (by kernel_rfl))
       have h0:=hb.1
       exact Zj (Zp hW hJ rfl (by rfl) rfl (by decide) (by decide) (Zec _ (by decide)) (w':=w') (by simp [execOp,resolve,invoke,builtin,Act.eval,e18,h0,hlt,hb.2.2.1,hb.2.2.2,go_sem,Znm]) (Yg hW (by decide) hun (by decide) (by decide) (Zn _ hi (by kernel_rfl)))) (fun a9 w9 h9=>⟨pv,cv9,h9⟩)
     · have e3:a1.tmps.getD 3 undef = .int .i64 k:=hJ.un 3 (fun i hi _=>Zpq 3 (by decide) i hi)
       exact Zj (Zp hW hJ rfl (by rfl) rfl (by decide) (by decide) (Zec _ (by decide)) (w':=w') (by simp [execOp,resolve,invoke,builtin,Act.eval,e3,hlt,hb.2.2.1,hb.2.2.2,go_sem,Znm]) (Yg hW (by decide) hun (by decide) (by decide) (Zn _ hi (by kernel_rfl)))) (fun a9 w9 h9=>⟨pv,cv9,h9⟩)
     · have e1:a1.tmps.getD 1 undef = .pointer (some ⟨w.heap.size,0,none⟩):=hJ.un 1 (fun i hi _=>Zpq 1 (by decide) i hi)
       exact Zj (Zp hW hJ rfl (by rfl) rfl (by decide) (by decide) (Zec _ (by decide)) (w':=w') (by simp [execOp,resolve,invoke,builtin,Act.eval,e1,hlt,hb.2.2.1,hb.2.2.2,go_sem,Znm]) (Yg hW (by decide) hun (by decide) (by decide) (Zn _ hi (by kernel_rfl)))) (fun a9 w9 h9=>⟨pv,cv9,h9⟩)
     · have e21:a1.tmps.getD 21 undef = .pointer (some ⟨w.heap.size,2,none⟩):=(Zm hJ hi 3 (by kernel_rfl))
       have h0:=hb.1
       exact Zj (Zp hW hJ rfl (by rfl) rfl (by decide) (by decide) (Zec _ (by decide)) (w':=w') (by simp [execOp,resolve,invoke,builtin,Act.eval,e21,h0,hlt,hb.2.2.1,hb.2.2.2,go_sem,Znm]) (Yg hW (by decide) hun (by decide) (by decide) (Zn _ hi (by kernel_rfl)))) (fun a9 w9 h9=>⟨pv,cv9,h9⟩)
     · have e3:a1.tmps.getD 3 undef = .int .i64 k:=hJ.un 3 (fun i hi _=>Zpq 3 (by decide) i hi)
       exact Zj (Zp hW hJ rfl (by rfl) rfl (by decide) (by decide) (Zec _ (by decide)) (w':=w') (by simp [execOp,resolve,invoke,builtin,Act.eval,e3,hlt,hb.2.2.1,hb.2.2.2,go_sem,Znm]) (Yg hW (by decide) hun (by decide) (by decide) (Zn _ hi (by kernel_rfl)))) (fun a9 w9 h9=>⟨pv,cv9,h9⟩)
     · have e22:a1.tmps.getD 22 undef = .slice (some ⟨gF,0,none⟩) fs.length cF4:=(Zm hJ hi 4 (by kernel_rfl))
       have e23:a1.tmps.getD 23 undef = .int .i64 k:=(Zm hJ hi 5 (by kernel_rfl))
       exact Zj (Zp hW hJ rfl (by rfl) rfl (by decide) (by decide) (Zec _ (by decide)) (w':=w') (by first|(simp [execOp,resolve,invoke,builtin,Act.eval,e22,e23,hlt,hb.2.2.1,hb.2.2.2,go_sem,Znm];done)|(simp [execOp,resolve,invoke,builtin,Act.eval,e22,e23,hlt,hb.2.2.1,hb.2.2.2,go_sem,Znm];omega)|(simp [execOp,resolve,invoke,builtin,Act.eval,e22,e23,hlt,hb.2.2.1,hb.2.2.2,go_sem,Znm];intro h;omega)|(simp [execOp,resolve,invoke,builtin,Act.eval,e22,e23,hlt,hb.2.2.1,hb.2.2.2,go_sem,Znm];intros;omega)) (Yg hW (by decide) hun (by decide) (by decide) (Zn _ hi (by kernel_rfl)))) (fun a9 w9 h9=>⟨pv,cv9,h9⟩)
     · have e24:a1.tmps.getD 24 undef = .pointer (some ⟨gF,k*4,none⟩):=(Zm hJ hi 6 (by kernel_rfl))
       exact Zj (Zp hW hJ rfl (by rfl) rfl (by decide) (by decide) (Zec _ (by decide)) (w':=w') (by simp [execOp,resolve,invoke,builtin,Act.eval,e24,hlt,hb.2.2.1,hb.2.2.2,go_sem,Znm]) (Yg hW (by decide) hun (by decide) (by decide) (Zn _ hi (by kernel_rfl)))) (fun a9 w9 h9=>⟨pv,cv9,h9⟩)
     · have e25:a1.tmps.getD 25 undef = .pointer (some ⟨gF,k*4+3,none⟩):=(Zm hJ hi 7 (by kernel_rfl))
       have h0:=hb.2.1
       exact Zj (Zp hW hJ rfl (by rfl) rfl (by decide) (by decide) (Zec _ (by decide)) (w':=w') (by simp [execOp,resolve,invoke,builtin,Act.eval,e25,h0,hlt,hb.2.2.1,hb.2.2.2,go_sem,Znm]) (Yg hW (by decide) hun (by decide) (by decide) (Zn _ hi (by kernel_rfl)))) (fun a9 w9 h9=>⟨pv,cv9,h9⟩)
     · have e26:a1.tmps.getD 26 undef = .slice pc nc cc:=(Zm hJ hi 8 (by kernel_rfl))
       have hw0:=hW.h0 hun
       subst hw0
       refine Xq rfl (by rfl) (by simp [execOp,resolve,invoke,Act.eval,e26,go_sem]) (Calls.mono (CC.out wr.drew (Zd HT.out.g)) (fun e w2 he => ?_))
       obtain ⟨v6,rfl,g6,o6⟩:=he
       obtain ⟨pv2,cv92,hv6⟩:=Zq o6
       subst hv6
       have g7:wr.grownBy w2 none:=Za (Zd (Zc wr none)) g6
       refine ⟨_,rfl,pv2,cv92,?_,Zpl hW (by decide) hun (by decide) (Zn _ hi (by kernel_rfl)) (⟨g6.cell hb.1 (by simp),g6.cell hb.2.1 (by simp),Nat.lt_of_lt_of_le hb.2.2.1 g6.size,Nat.lt_of_lt_of_le hb.2.2.2 g6.size⟩) (⟨g7,o6,Yf (HT.out.fr.kept g7 (Classical.em _)) (k*4+3)⟩)⟩
       exact Jq (val:=Znm w.heap.size gF fs.length cF4 k nc cc pc pv2 cv92) (Jj hJ (Yum l hun)) (by decide) (by decide) (Zec _ (by decide))
     · have e19:a1.tmps.getD 19 undef = .slice (some ⟨gF,0,none⟩) fs.length cF4:=(Zm hJ hi 1 (by kernel_rfl))
       have e20:a1.tmps.getD 20 undef = .int .i64 k:=(Zm hJ hi 2 (by kernel_rfl))
       exact Zj (Zp hW hJ rfl (by rfl) rfl (by decide) (by decide) (Zec _ (by decide)) (w':=w') (by first|(simp [execOp,resolve,invoke,builtin,Act.eval,e19,e20,hlt,hb.2.2.1,hb.2.2.2,go_sem,Znm];done)|(simp [execOp,resolve,invoke,builtin,Act.eval,e19,e20,hlt,hb.2.2.1,hb.2.2.2,go_sem,Znm];omega)|(simp [execOp,resolve,invoke,builtin,Act.eval,e19,e20,hlt,hb.2.2.1,hb.2.2.2,go_sem,Znm];intro h;omega)|(simp [execOp,resolve,invoke,builtin,Act.eval,e19,e20,hlt,hb.2.2.1,hb.2.2.2,go_sem,Znm];intros;omega)) (Yg hW (by decide) hun (by decide) (by decide) (Zn _ hi (by kernel_rfl)))) (fun a9 w9 h9=>⟨pv,cv9,h9⟩)
     · have e28:a1.tmps.getD 28 undef = .pointer (some ⟨gF,k*4,none⟩):=(Zm hJ hi 10 (by kernel_rfl))
       exact Zj (Zp hW hJ rfl (by rfl) rfl (by decide) (by decide) (Zec _ (by decide)) (w':=w') (by simp [execOp,resolve,invoke,builtin,Act.eval,e28,hlt,hb.2.2.1,hb.2.2.2,go_sem,Znm]) (Yg hW (by decide) hun (by decide) (by decide) (Zn _ hi (by kernel_rfl)))) (fun a9 w9 h9=>⟨pv,cv9,h9⟩)
     · have e29:a1.tmps.getD 29 undef = .pointer (some ⟨gF,k*4+3,none⟩):=(Zm hJ hi 11 (by kernel_rfl))
       have e27:a1.tmps.getD 27 undef = .slice pv nc cv9:=(Zm hJ hi 9 (by kernel_rfl))
       have hpw:=hW.h1 (Zf hi 9 (by kernel_rfl)) hun
       have hfz9:=hpw.2.2
       have hc9:=hb.2.1
       exact Zj (Zbh hW hJ rfl rfl rfl (by decide) (by decide) (w':=w'.setCell ⟨gF,k*4+3,none⟩ (.slice pv nc cv9)) (by simp [execOp,Act.eval,e29,e27,hfz9,hc9,go_sem]) (Zkp hW (by decide) (by decide) (by decide) (fun j hj hne=>by
        rcases Yde j hj with rfl|rfl|rfl|rfl|rfl|rfl|rfl|rfl|rfl|rfl|rfl|rfl|rfl
        · exact hW.cl (1,0) (by decide) (hW.cl (10,1) (by decide) (hW.cl (11,10) (by decide) (Zf hi 11 (by kernel_rfl))))
        · exact hW.cl (10,1) (by decide) (hW.cl (11,10) (by decide) (Zf hi 11 (by kernel_rfl)))
        · exact hW.cl (10,2) (by decide) (hW.cl (11,10) (by decide) (Zf hi 11 (by kernel_rfl)))
        · exact hW.cl (4,3) (by decide) (hW.cl (6,4) (by decide) (hW.cl (7,6) (by decide) (hW.cl (8,7) (by decide) (hW.cl (9,8) (by decide) (Zf hi 9 (by kernel_rfl))))))
        · exact hW.cl (6,4) (by decide) (hW.cl (7,6) (by decide) (hW.cl (8,7) (by decide) (hW.cl (9,8) (by decide) (Zf hi 9 (by kernel_rfl)))))
        · exact hW.cl (6,5) (by decide) (hW.cl (7,6) (by decide) (hW.cl (8,7) (by decide) (hW.cl (9,8) (by decide) (Zf hi 9 (by kernel_rfl)))))
        · exact hW.cl (7,6) (by decide) (hW.cl (8,7) (by decide) (hW.cl (9,8) (by decide) (Zf hi 9 (by kernel_rfl))))
        · exact hW.cl (8,7) (by decide) (hW.cl (9,8) (by decide) (Zf hi 9 (by kernel_rfl)))
        · exact hW.cl (9,8) (by decide) (Zf hi 9 (by kernel_rfl))
        · exact Zf hi 9 (by kernel_rfl)
        · exact hW.cl (11,10) (by decide) (Zf hi 11 (by kernel_rfl))
        · exact Zf hi 11 (by kernel_rfl)
        · exact absurd rfl hne) (Zn _ hi (by kernel_rfl)) (⟨w',rfl,hpw.1,hpw.2.1⟩))) (fun a9 w9 h9=>⟨pv,cv9,h9⟩)
    intro l a1 w9 hJJ hl
    obtain ⟨pv,cv9,hJ,hW⟩:=hJJ
    obtain ⟨w6,rfl,g6,o6⟩:=hW.h2 (hl 12 (by decide))
    have hput:=Jf hJ rfl hl (fun i j h1 h2 h3=>Zec j h2 i h1 h3)
    subst hput
    have TN:=Hq (Ypq HT.out HF.out (Nat.le_refl _) HT.out.g.size g6 (by rw [HNC.out];exact o6))
    have YN:=Hq (Zb (Zb HG.out g6 (by simp)) (Zg w6 gF (k*4+3) (.slice pv nc cv9)) (by intro e;exact Yd HT.out.fr HG.out (by decide) e))
    clear hJ hW hl g6 o6
    refine hK _ _ ?_
    simp only [Zai,tw6,Znm,Act.put,List.setIfInBounds_toArray,List.set_cons_zero,List.set_cons_succ]
    clear hK K
    go_wp2
    go_roundw
    case rel=>exact ⟨k+1,_,by go_num,by omega,YN.out,TN.out⟩
    case measure=>simp [intOf];omega
  · have hkn:k=fs.length:=by omega
    subst hkn
    have b0:=Cq _ _ 0 _ _ _ HG.out
    have b1:=Cq _ _ 1 _ _ _ HG.out
    have b2:=Cq _ _ 2 _ _ _ HG.out
    have z0:=frozen_of_row _ _ 0 _ _ HG.out
    have z1:=frozen_of_row _ _ 1 _ _ HG.out
    have z2:=frozen_of_row _ _ 2 _ _ HG.out
    have lb2:=(Gs HG.out)
    have OO:=Hq (Ypr HT.out)
    have GG:=Hq HT.out.g
    go_wp2
    refine bodyPost_ret (v := .agg #[.int .i64 mem,.slice pD dl.length cD,.slice pF4 fs.length cF4]) ?_ rfl ⟨_,_,cv,rfl,Ze (Ze (Ze GG.out (by omega)) (by omega)) (by omega),?_⟩
    · rw [Ym rfl]
      go_simp
    · have hb:=HG.out
      have ns:=Zag (D := .slice pD dl.length cD) (F := .slice pF4 fs.length cF4) (mem:=mem) OO.out hb
      exact ns
end Go.Proofs.Ythlkflagancdfaa.OT
