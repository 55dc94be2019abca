/-
  Part of a proof: contracts of functions and lemmas, each stated by its own theorem. Conditions: as each theorem states.
-/
import Derived.Test.YthlkflagancdfaaML13
import Derived.Test.YthlkflagancdfaaML01
import Derived.Laws.ResultCell
import Derived.Great.BuildSlice
import Derived.Deep.QuietTactic
import Derived.BigQuiet
import Derived.Laws.StructEq
set_option linter.unusedSimpArgs false
set_option linter.unusedVariables false
set_option maxRecDepth 100000
set_option maxHeartbeats 16000000
namespace Go.Proofs.Ythlkflagancdfaa.OT
open Go.RowKit Go.Great
open Go.Proofs.Ythlkflagancdfaa.CK
def Zo (w:World) (o:Option Zaq) (e:Ending) (w':World):Prop:=w.grownBy w' none/\match o with
 | none=>∃ (l wt:Int) (q:Option Addr) (m k:Nat),e = .returned (.tuple #[.agg #[.int .i64 l,.slice q m k,.int .i64 wt],.bool false])
 | some x=>∃ (q:Option Addr) (k:Nat),e = .returned (.tuple #[.agg #[.int .i64 x.long,.slice q x.put.length k,.int .i64 x.what],.bool true])/\(q=none->k=0)/\Ji w' w'.heap.size q x.put
theorem Zae {w:World} {B:Nat} {p:Option Addr} {c:List Ins} (hC:Ji w B p c) {n:Nat} (hn:n<c.length):∃ b o:Nat,p=some ⟨b,o,none⟩/\b<B/\w.cell? ⟨b,o+n*2,none⟩=some (.int .i64 (Zu c n).1)/\w.cell? ⟨b,o+n*2+1,none⟩=some (.int .i64 (Zu c n).2):=by
 obtain ⟨b,o,e,hb,h⟩:=hC (by omega)
 have he:c[n]? = some (Zu c n):=by
  unfold Zu
  rw [List.getD_eq_getElem?_getD,List.getElem?_eq_getElem hn];rfl
 obtain ⟨h0,h1⟩:=h n (Zu c n).1 (Zu c n).2 he
 exact ⟨b,o,e,hb,h0,h1⟩
theorem Ytj (c:List Ins) (p:Option Addr) (cap B n:Nat) (long:Int) (w:World) (hB:B<=w.heap.size) (hC:Ji w B p c) (hn:n<c.length) (hl:c.length<=4096) (h0:(Zu c n).1=0) :
 Calls Try.prog 66 #[.slice p c.length cap,.int .i64 n,.int .i64 long] w (Zo w (some ⟨1,[],2⟩)):=by
 obtain ⟨b,o,rfl,hb,c0,c1⟩:=Zae hC hn
 rw [h0] at c0
 generalize (Zu c n).2=a at c1
 have hbw:b<w.heap.size:=by omega
 have q1:(n:Int)<(c.length:Int):=by omega
 have J:=Hq (fun op w=>Ys op w)
 clear hC h0
 go_enter Try.func66,Try.ntmps66
 go_wp2_with (go_at_call 52;refine (J.out _ _).mono ?_;rintro e w' ⟨rfl,rfl⟩)
 refine bodyPost_ret (v := .tuple #[.agg #[.int .i64 1,.slice none 0 0,.int .i64 2],.bool true]) ?_ rfl ⟨?_,none,0,rfl,fun _=>rfl,fun h=>absurd h (by decide)⟩
 · rw [results_cell_tmp rfl]
   go_simp
 · exact Za (Ga _ _ _) (Ga _ _ _)
theorem Yti (c:List Ins) (p:Option Addr) (cap B n:Nat) (long:Int) (w:World) (hB:B<=w.heap.size) (hC:Ji w B p c) (hn:n<c.length) (hl:c.length<=4096) (h0:(Zu c n).1=14) (h1:(Zu c n).2=(n:Int)+1) :
 Calls Try.prog 66 #[.slice p c.length cap,.int .i64 n,.int .i64 long] w (Zo w (some ⟨1,[],2⟩)):=by
 obtain ⟨b,o,rfl,hb,c0,c1⟩:=Zae hC hn
 rw [h0] at c0
 rw [h1] at c1
 have hbw:b<w.heap.size:=by omega
 have q1:(n:Int)<(c.length:Int):=by omega
 have J:=Hq (fun op w=>Ys op w)
 clear hC h0 h1
 go_enter Try.func66,Try.ntmps66
 go_wp2_with (go_at_call 52;refine (J.out _ _).mono ?_;rintro e w' ⟨rfl,rfl⟩)
 refine bodyPost_ret (v := .tuple #[.agg #[.int .i64 1,.slice none 0 0,.int .i64 2],.bool true]) ?_ rfl ⟨?_,none,0,rfl,fun _=>rfl,fun h=>absurd h (by decide)⟩
 · rw [results_cell_tmp rfl]
   go_simp
 · exact Za (Ga _ _ _) (Ga _ _ _)
theorem Ykx {w:World} {cs:Array Value} {x:Ins} (hx:cs = #[.int .i64 x.1,.int .i64 x.2]):Ji (w.alloc (.cells cs 49)) (w.alloc (.cells cs 49)).heap.size (some ⟨w.heap.size,0,none⟩) [x]:=by
 intro _
 refine ⟨w.heap.size,0,rfl,by rw [World.size_alloc];omega,fun i op a hi => ?_⟩
 cases i with
 | zero =>
   simp at hi
   subst hi
   subst hx
   have h:=heap_alloc_new w (.cells #[.int .i64 op,.int .i64 a] 49)
   exact ⟨Cq _ _ 0 _ _ _ h,Cq _ _ 1 _ _ _ h⟩
 | succ k=>simp at hi
theorem Ztq {w:World} {cs:Array Value} {x:Ins} {g:Nat} (hx:cs = #[.int .i64 x.1,.int .i64 x.2]) (hg:w.heap.size=g):Ji (w.alloc (.cells cs 49)) (w.alloc (.cells cs 49)).heap.size (some ⟨g,0,none⟩) [x]:=hg ▸ Ykx hx
theorem Yth (c:List Ins) (p:Option Addr) (cap B n:Nat) (long:Int) (w:World) (hB:B<=w.heap.size) (hC:Ji w B p c) (hn:n<c.length) (hl:c.length<=4096) (h0:(Zu c n).1=15\/(Zu c n).1=16) (h1:(Zu c n).2=(n:Int)+1) :
 Calls Try.prog 66 #[.slice p c.length cap,.int .i64 n,.int .i64 long] w (Zo w (some ⟨1,[(4,0)],2⟩)):=by
 obtain ⟨b,o,rfl,hb,c0,c1⟩:=Zae hC hn
 rw [h1] at c1
 have hbw:b<w.heap.size:=by omega
 have q1:(n:Int)<(c.length:Int):=by omega
 have J:=Hq (fun op w=>Ys op w)
 clear hC h1
 rcases h0 with h0|h0
 all_goals
  rw [h0] at c0
  clear h0
  go_enter Try.func66,Try.ntmps66
  go_wp2_with (first
   | (go_at_call 52;refine (J.out _ _).mono ?_;rintro e w' ⟨rfl,rfl⟩)
   | (refine wpList_buildSliceTo rfl 50 49 1 _ rfl _ rfl (some 43) rfl Try.underlying50 #[.int .i64 4,.int .i64 0] (by kernel_rfl) ?_))
  refine bodyPost_ret (v := .tuple #[.agg #[.int .i64 1,.slice (some ⟨w.heap.size+1+1,0,none⟩) 1 1,.int .i64 2],.bool true]) ?_ rfl ⟨?_,some ⟨w.heap.size+1+1,0,none⟩,1,rfl,(fun h=>by cases h),?_⟩
  · rw [results_cell_tmp rfl]
    go_simp
  · exact Za (Za (Ga _ _ _) (Ga _ _ _)) (Ga _ _ _)
  · exact Ztq (x:=(4,0)) rfl (by rw [World.size_alloc,World.size_alloc])
theorem Ytg (c:List Ins) (p:Option Addr) (cap B n m:Nat) (long:Int) (w:World) (hB:B<=w.heap.size) (hC:Ji w B p c) (hn:n<c.length) (hl:c.length<=4096) (h0:(Zu c n).1=14) (h1:(Zu c n).2=(m:Int)) (hm:m<c.length) (hne:(m:Int)≠(n:Int)+1) (he:(Zu c m).1=18\/(Zu c m).1=1\/(Zu c m).1=2) :
 Calls Try.prog 66 #[.slice p c.length cap,.int .i64 n,.int .i64 long] w (Zo w (some ⟨1,[Zu c m],3⟩)):=by
 obtain ⟨b,o,rfl,hb,c0,c1⟩:=Zae hC hn
 obtain ⟨b',o',e2,hb',d0,d1⟩:=Zae hC hm
 injection e2 with e2
 injection e2 with e2 e3 _
 subst e2
 subst e3
 rw [h0] at c0
 rw [h1] at c1
 have hbw:b<w.heap.size:=by omega
 have q1:(n:Int)<(c.length:Int):=by omega
 have q2:(m:Int)<(c.length:Int):=by omega
 have q3:((m:Int) == (n:Int)+1)=false:=by simp [hne]
 have J:=Hq (fun op w=>Ys op w)
 generalize Zu c m=x at *
 obtain ⟨x0,x1⟩:=x
 simp only [] at d0 d1 he
 clear hC h1 h0 hne
 rcases he with rfl|rfl|rfl
 all_goals
  go_enter Try.func66,Try.ntmps66
  go_wp2_with (first
   | (go_at_call 52;refine (J.out _ _).mono ?_;rintro e w' ⟨rfl,rfl⟩)
   | (refine wpList_buildSliceTo rfl 50 49 1 _ rfl _ rfl (some 61) rfl Try.underlying50 #[.int .i64 _,.int .i64 x1] (by kernel_rfl) ?_))
  refine bodyPost_ret (v := .tuple #[.agg #[.int .i64 1,.slice (some ⟨w.heap.size+1+1+1,0,none⟩) 1 1,.int .i64 3],.bool true]) ?_ rfl ⟨?_,some ⟨w.heap.size+1+1+1,0,none⟩,1,rfl,(fun h=>by cases h),?_⟩
  · rw [results_cell_tmp rfl]
    go_simp
  · exact Za (Za (Za (Ga _ _ _) (Ga _ _ _)) (Ga _ _ _)) (Ga _ _ _)
  · exact Ztq (x:=(_,x1)) rfl (by rw [World.size_alloc,World.size_alloc,World.size_alloc])
theorem Ytf (c:List Ins) (p:Option Addr) (cap B n:Nat) (long:Int) (w:World) (hB:B<=w.heap.size) (hC:Ji w B p c) (hn:n<c.length) (hl:c.length<=4096) (h0:(Zu c n).1≠0) (h1:jmp (Zu c n).1=false) :
 Calls Try.prog 66 #[.slice p c.length cap,.int .i64 n,.int .i64 long] w (Zo w none):=by
 obtain ⟨b,o,rfl,hb,c0,c1⟩:=Zae hC hn
 have hbw:b<w.heap.size:=by omega
 have q1:(n:Int)<(c.length:Int):=by omega
 generalize (Zu c n).1=op at *
 generalize (Zu c n).2=a at *
 have z0:(op == 0)=false:=by simp [h0]
 have z1:(op == 14)=false:=by
  simp only [jmp,Bool.or_eq_false_iff] at h1
  exact h1.1.1
 have J:=Hq (show ∀ w,Calls Try.prog 52 #[.int .i64 op] w fun e w'=>e = .returned (.bool false)/\w=w' from fun w=>h1 ▸ Ys op w)
 clear hC h0 h1
 go_enter Try.func66,Try.ntmps66
 go_wp2_with (go_at_call 52;refine (J.out _).mono ?_;rintro e w' ⟨rfl,rfl⟩)
 refine bodyPost_ret (v := .tuple #[.agg #[.int .i64 0,.slice none 0 0,.int .i64 0],.bool false]) ?_ rfl ⟨?_,0,0,none,0,0,rfl⟩
 · rw [results_cell_tmp rfl]
   go_simp
 · exact Za (Ga _ _ _) (Ga _ _ _)
theorem Yte (c:List Ins) (p:Option Addr) (cap B n:Nat) (long:Int) (w:World) (hB:B<=w.heap.size) (hC:Ji w B p c) (hn:n<c.length) (hl:c.length<=4096) (h0:(Zu c n).1=15\/(Zu c n).1=16) (h1:(Zu c n).2≠(n:Int)+1) :
 Calls Try.prog 66 #[.slice p c.length cap,.int .i64 n,.int .i64 long] w (Zo w none):=by
 obtain ⟨b,o,rfl,hb,c0,c1⟩:=Zae hC hn
 have hbw:b<w.heap.size:=by omega
 have q1:(n:Int)<(c.length:Int):=by omega
 have J:=Hq (fun op w=>Ys op w)
 rcases h0 with h0|h0
 all_goals
  rw [h0] at c0
  generalize (Zu c n).2=a at *
  have q3:(a == (n:Int)+1)=false:=by simp [h1]
  clear hC h0 h1
  go_enter Try.func66,Try.ntmps66
  go_wp2_with (go_at_call 52;refine (J.out _ _).mono ?_;rintro e w' ⟨rfl,rfl⟩)
  refine bodyPost_ret (v := .tuple #[.agg #[.int .i64 0,.slice none 0 0,.int .i64 0],.bool false]) ?_ rfl ⟨?_,0,0,none,0,0,rfl⟩
  · rw [results_cell_tmp rfl]
    go_simp
  · exact Za (Ga _ _ _) (Ga _ _ _)
theorem Ytd (c:List Ins) (p:Option Addr) (cap B n m:Nat) (long:Int) (w:World) (hB:B<=w.heap.size) (hC:Ji w B p c) (hn:n<c.length) (hl:c.length<=4096) (h0:(Zu c n).1=14) (h1:(Zu c n).2=(m:Int)) (hm:m<c.length) (hne:(m:Int)≠(n:Int)+1) (he:¬ ((Zu c m).1=18\/(Zu c m).1=1\/(Zu c m).1=2)) :
 Calls Try.prog 66 #[.slice p c.length cap,.int .i64 n,.int .i64 long] w (Zo w none):=by
 obtain ⟨b,o,rfl,hb,c0,c1⟩:=Zae hC hn
 obtain ⟨b',o',e2,hb',d0,d1⟩:=Zae hC hm
 injection e2 with e2
 injection e2 with e2 e3 _
 subst e2
 subst e3
 rw [h0] at c0
 rw [h1] at c1
 have hbw:b<w.heap.size:=by omega
 have q1:(n:Int)<(c.length:Int):=by omega
 have q2:(m:Int)<(c.length:Int):=by omega
 have q3:((m:Int) == (n:Int)+1)=false:=by simp [hne]
 have J:=Hq (fun op w=>Ys op w)
 generalize Zu c m=x at *
 obtain ⟨x0,x1⟩:=x
 simp only [] at d0 d1 he
 have r1:(x0 == 18)=false:=by simp;omega
 have r2:(x0 == 1)=false:=by simp;omega
 have r3:(x0 == 2)=false:=by simp;omega
 clear hC h1 h0 hne he
 go_enter Try.func66,Try.ntmps66
 go_wp2_with (go_at_call 52;refine (J.out _ _).mono ?_;rintro e w' ⟨rfl,rfl⟩)
 refine bodyPost_ret (v := .tuple #[.agg #[.int .i64 0,.slice none 0 0,.int .i64 0],.bool false]) ?_ rfl ⟨?_,0,0,none,0,0,rfl⟩
 · rw [results_cell_tmp rfl]
   go_simp
 · exact Za (Za (Ga _ _ _) (Ga _ _ _)) (Ga _ _ _)
theorem Yjd (c:List Ins) (p:Option Addr) (cap B n:Nat) (long:Int) (w:World) (hB:B<=w.heap.size) (hC:Ji w B p c) (hn:n<c.length) (hl:c.length<=4096) (hj:(Zu c n).1=14->0<=(Zu c n).2/\(Zu c n).2<c.length) :
 Calls Try.prog 66 #[.slice p c.length cap,.int .i64 n,.int .i64 long] w (Zo w (Js c n)):=by
 unfold Js
 simp only []
 by_cases h0:(Zu c n).1=0
 · rw [if_pos h0];exact Ytj c p cap B n long w hB hC hn hl h0
 rw [if_neg h0]
 by_cases h1:(Zu c n).1=14/\(Zu c n).2=(n:Int)+1
 · rw [if_pos h1];exact Yti c p cap B n long w hB hC hn hl h1.1 h1.2
 rw [if_neg h1]
 by_cases h2:jmp (Zu c n).1=true/\(Zu c n).2=(n:Int)+1
 · rw [if_pos h2]
   refine Yth c p cap B n long w hB hC hn hl ?_ h2.2
   have:=h2.1
   simp only [jmp,Bool.or_eq_true,beq_iff_eq] at this
   omega
 rw [if_neg h2]
 by_cases h14:(Zu c n).1=14
 · obtain ⟨g0,g1⟩:=hj h14
   obtain ⟨m,hm⟩:=Int.eq_ofNat_of_zero_le g0
   have hml:m<c.length:=by omega
   have hne:(m:Int)≠(n:Int)+1:=fun e=>h1 ⟨h14,by rw [hm,e]⟩
   rw [show (Zu c n).2.toNat=m by omega]
   by_cases h3:(Zu c m).1=18\/(Zu c m).1=1\/(Zu c m).1=2
   · rw [if_pos ⟨h14,h3⟩];exact Ytg c p cap B n m long w hB hC hn hl h14 hm hml hne h3
   · rw [if_neg (fun h=>h3 h.2)];exact Ytd c p cap B n m long w hB hC hn hl h14 hm hml hne h3
 · rw [if_neg (fun h=>h14 h.1)]
   cases hb:jmp (Zu c n).1 with
   | false=>exact Ytf c p cap B n long w hB hC hn hl h0 hb
   | true =>
     refine Yte c p cap B n long w hB hC hn hl ?_ (fun e=>h2 ⟨hb,e⟩)
     simp only [jmp,Bool.or_eq_true,beq_iff_eq] at hb
     omega
theorem Zdu {w W:World} {cs:Array Value} {t:TypeId} {x:Ins} {g:Nat} (hg:W.heap.size=g) (hw:w=W.alloc (.cells cs t)) (hx:cs = #[.int .i64 x.1,.int .i64 x.2]):Ji w w.heap.size (some ⟨g,0,none⟩) [x]:=by
 subst hw;subst hg;subst hx
 intro _
 refine ⟨W.heap.size,0,rfl,by rw [World.size_alloc];omega,fun i op a hi => ?_⟩
 cases i with
 | zero =>
   simp at hi
   subst hi
   have h:=heap_alloc_new W (.cells #[.int .i64 op,.int .i64 a] t)
   exact ⟨Cq _ _ 0 _ _ _ h,Cq _ _ 1 _ _ _ h⟩
 | succ k=>simp at hi
theorem Zgh (a b c d:Int) (w:World):(binOp .eql 49 (.agg #[.int .i64 a,.int .i64 b]) (.agg #[.int .i64 c,.int .i64 d])).run Try.prog w = .ok (.bool (a == c && b == d)) w:=by
 rw [run_eql_struct]
 cases h1:a == c <;> cases h2:b == d <;> (go_simp;try simp [h1,h2])
theorem Zwn (a b c d:Int) (w:World):(binOp .neq 49 (.agg #[.int .i64 a,.int .i64 b]) (.agg #[.int .i64 c,.int .i64 d])).run Try.prog w = .ok (.bool (!(a == c && b == d))) w:=by
 rw [run_neq_struct]
 cases h1:a == c <;> cases h2:b == d <;> (go_simp;try simp [h1,h2])
section
variable (b o n len cap:Nat) (op a op2 a2 op3 a3 long:Int) (w:World)
theorem Zvy (p:Option Addr) (hl:long<3) :
 Calls Try.prog 69 #[.slice p len cap,.int .i64 n,.int .i64 long] w (Zo w none):=by
 have hd:decide (long<3)=true:=by simpa using hl
 go_enter Try.func69,Try.ntmps69
 go_wp2
 go_quiet (fail)
 go_wp2
 ((refine bodyPost_ret (v := .tuple #[.agg #[.int .i64 0,.slice none 0 0,.int .i64 0],.bool false]) ?_ rfl ⟨?_,0,0,none,0,0,rfl⟩);(focus (rw [results_cell_tmp rfl];go_simp));(repeat (first|exact Zc _ _|exact Ga _ _ _|refine Za ?_ (Ga _ _ _)|refine Zh ?_ _|refine Zd ?_|(refine Ze ?_ (by simp;omega))|(refine Ze ?_ (by simp)))))
theorem Ypu (hbw:b<w.heap.size) (q1:(n:Int)<(len:Int)) (c0:w.cell? ⟨b,o+n*2,none⟩=some (.int .i64 op)) (h3:3<=long) (hx:op≠8) :
 Calls Try.prog 69 #[.slice (some ⟨b,o,none⟩) len cap,.int .i64 n,.int .i64 long] w (Zo w none):=by
 have hd:decide (long<3)=false:=by simpa using h3
 have hx2:(op != 8)=true:=by simpa using hx
 clear hx
 go_enter Try.func69,Try.ntmps69
 go_wp2
 go_quiet (fail)
 go_wp2
 ((refine bodyPost_ret (v := .tuple #[.agg #[.int .i64 0,.slice none 0 0,.int .i64 0],.bool false]) ?_ rfl ⟨?_,0,0,none,0,0,rfl⟩);(focus (rw [results_cell_tmp rfl];go_simp));(repeat (first|exact Zc _ _|exact Ga _ _ _|refine Za ?_ (Ga _ _ _)|refine Zh ?_ _|refine Zd ?_|(refine Ze ?_ (by simp;omega))|(refine Ze ?_ (by simp)))))
theorem Ypt (hbw:b<w.heap.size) (q1:(n:Int)<(len:Int)) (q2:(n:Int)+1<(len:Int)) (ql:(len:Int)<=4096) (c0:w.cell? ⟨b,o+n*2,none⟩=some (.int .i64 8)) (c1:w.cell? ⟨b,o+n*2+1,none⟩=some (.int .i64 a)) (d0:w.cell? ⟨b,o+(n+1)*2,none⟩=some (.int .i64 op2)) (d1:w.cell? ⟨b,o+(n+1)*2+1,none⟩=some (.int .i64 a2)) (h3:3<=long) (hx:op2≠7\/a2≠a) :
 Calls Try.prog 69 #[.slice (some ⟨b,o,none⟩) len cap,.int .i64 n,.int .i64 long] w (Zo w none):=by
 have hd:decide (long<3)=false:=by simpa using h3
 have hw1:IntKind.i64.wrap ((n:Int)+1)=(n:Int)+1:=IntWalk.i64_in _ (by omega)
 have hx2:(op2 == 7 && a2 == a)=false:=by rcases hx with h|h <;> simp [h]
 have hS:=Zwn op2 a2 7 a
 rw [hx2] at hS
 clear hx hx2
 go_enter Try.func69,Try.ntmps69
 go_wp2
 go_quiet (fail)
 go_wp2
 ((refine bodyPost_ret (v := .tuple #[.agg #[.int .i64 0,.slice none 0 0,.int .i64 0],.bool false]) ?_ rfl ⟨?_,0,0,none,0,0,rfl⟩);(focus (rw [results_cell_tmp rfl];go_simp));(repeat (first|exact Zc _ _|exact Ga _ _ _|refine Za ?_ (Ga _ _ _)|refine Zh ?_ _|refine Zd ?_|(refine Ze ?_ (by simp;omega))|(refine Ze ?_ (by simp)))))
theorem Yps (hbw:b<w.heap.size) (q1:(n:Int)<(len:Int)) (q2:(n:Int)+1<(len:Int)) (q3:(n:Int)+2<(len:Int)) (ql:(len:Int)<=4096) (c0:w.cell? ⟨b,o+n*2,none⟩=some (.int .i64 8)) (c1:w.cell? ⟨b,o+n*2+1,none⟩=some (.int .i64 a)) (d0:w.cell? ⟨b,o+(n+1)*2,none⟩=some (.int .i64 7)) (d1:w.cell? ⟨b,o+(n+1)*2+1,none⟩=some (.int .i64 a)) (e0:w.cell? ⟨b,o+(n+2)*2,none⟩=some (.int .i64 op3)) (h3:3<=long) (hx:op3≠18) :
 Calls Try.prog 69 #[.slice (some ⟨b,o,none⟩) len cap,.int .i64 n,.int .i64 long] w (Zo w none):=by
 have hd:decide (long<3)=false:=by simpa using h3
 have hw1:IntKind.i64.wrap ((n:Int)+1)=(n:Int)+1:=IntWalk.i64_in _ (by omega)
 have hw2:IntKind.i64.wrap ((n:Int)+2)=(n:Int)+2:=IntWalk.i64_in _ (by omega)
 have hx2:(op3 != 18)=true:=by simpa using hx
 have hS:=Zwn 7 a 7 a
 rw [show (7 == (7:Int) && a == a)=true by simp] at hS
 clear hx
 go_enter Try.func69,Try.ntmps69
 go_wp2
 go_quiet (fail)
 go_wp2
 ((refine bodyPost_ret (v := .tuple #[.agg #[.int .i64 0,.slice none 0 0,.int .i64 0],.bool false]) ?_ rfl ⟨?_,0,0,none,0,0,rfl⟩);(focus (rw [results_cell_tmp rfl];go_simp));(repeat (first|exact Zc _ _|exact Ga _ _ _|refine Za ?_ (Ga _ _ _)|refine Zh ?_ _|refine Zd ?_|(refine Ze ?_ (by simp;omega))|(refine Ze ?_ (by simp)))))
theorem Yjx (hbw:b<w.heap.size) (q1:(n:Int)<(len:Int)) (q2:(n:Int)+1<(len:Int)) (q3:(n:Int)+2<(len:Int)) (ql:(len:Int)<=4096) (c0:w.cell? ⟨b,o+n*2,none⟩=some (.int .i64 8)) (c1:w.cell? ⟨b,o+n*2+1,none⟩=some (.int .i64 a)) (d0:w.cell? ⟨b,o+(n+1)*2,none⟩=some (.int .i64 7)) (d1:w.cell? ⟨b,o+(n+1)*2+1,none⟩=some (.int .i64 a)) (e0:w.cell? ⟨b,o+(n+2)*2,none⟩=some (.int .i64 18)) (h3:3<=long) :
 Calls Try.prog 69 #[.slice (some ⟨b,o,none⟩) len cap,.int .i64 n,.int .i64 long] w (Zo w (some ⟨3,[(18,0)],5⟩)):=by
 have hd:decide (long<3)=false:=by simpa using h3
 have hw1:IntKind.i64.wrap ((n:Int)+1)=(n:Int)+1:=IntWalk.i64_in _ (by omega)
 have hw2:IntKind.i64.wrap ((n:Int)+2)=(n:Int)+2:=IntWalk.i64_in _ (by omega)
 have hS:=Zwn 7 a 7 a
 rw [show (7 == (7:Int) && a == a)=true by simp] at hS
 go_enter Try.func69,Try.ntmps69
 go_wp2
 go_quiet (fail)
 go_wp2_with (refine wpList_buildSliceTo rfl 50 49 1 _ rfl _ rfl (some 43) rfl Try.underlying50 #[.int .i64 18,.int .i64 0] (by kernel_rfl) ?_)
 refine bodyPost_ret (v := .tuple #[.agg #[.int .i64 3,.slice (some ⟨w.heap.size+1,0,none⟩) 1 1,.int .i64 5],.bool true]) ?_ rfl ⟨?_,some ⟨w.heap.size+1,0,none⟩,1,rfl,(fun h=>by cases h),?_⟩
 · rw [results_cell_tmp rfl]
   go_simp
 · (repeat (first|exact Zc _ _|exact Ga _ _ _|refine Za ?_ (Ga _ _ _)|refine Zh ?_ _|refine Zd ?_|(refine Ze ?_ (by simp;omega))|(refine Ze ?_ (by simp))))
 · refine Zdu (x:=(18,0)) ?_ rfl rfl
   simp
end
theorem Ydi (c:List Ins) (p:Option Addr) (cap B n lg:Nat) (w:World) (hB:B<=w.heap.size) (hC:Ji w B p c) (hn:n<c.length) (hl:c.length<=4096) (hg:lg<=3) (hlong:n+lg<=c.length) :
 Calls Try.prog 69 #[.slice p c.length cap,.int .i64 n,.int .i64 lg] w (Zo w (Zaz c n lg)):=by
 unfold Zaz
 by_cases h3:3<=lg
 · obtain ⟨b,o,rfl,hb,c0,c1⟩:=Zae hC hn
   obtain ⟨b',o',e2,-,d0,d1⟩:=Zae hC (n:=n+1) (by omega)
   injection e2 with e2;injection e2 with e2 e3 _;subst e2;subst e3
   obtain ⟨b',o',e2,-,e0,e1⟩:=Zae hC (n:=n+2) (by omega)
   injection e2 with e2;injection e2 with e2 e3 _;subst e2;subst e3
   by_cases hx:(Zu c n).1=8
   · rw [hx] at c0
     by_cases hy:Zu c (n+1)=(7,(Zu c n).2)
     · rw [hy] at d0 d1
       by_cases hz:(Zu c (n+2)).1=18
       · rw [if_pos ⟨h3,hx,hy,hz⟩]
         rw [hz] at e0
         exact Yjx b o n c.length cap _ lg w (by omega) (by omega) (by omega) (by omega) (by omega) c0 c1 d0 d1 e0 (by omega)
       · rw [if_neg (fun h=>hz h.2.2.2)]
         exact Yps b o n c.length cap _ _ lg w (by omega) (by omega) (by omega) (by omega) (by omega) c0 c1 d0 d1 e0 (by omega) hz
     · rw [if_neg (fun h=>hy h.2.2.1)]
       refine Ypt b o n c.length cap _ _ _ lg w (by omega) (by omega) (by omega) (by omega) c0 c1 d0 d1 (by omega) ?_
       by_cases q:(Zu c (n+1)).1=7
       · exact Or.inr fun e=>hy (by rw [<- e,<- q])
       · exact Or.inl q
   · rw [if_neg (fun h=>hx h.2.1)]
     exact Ypu b o n c.length cap _ lg w (by omega) (by omega) c0 (by omega) hx
 · rw [if_neg (fun h=>h3 h.1)]
   exact Zvy n c.length cap lg w p (by omega)
theorem Xx {b:Nat} {w:World} (h:b<w.heap.size):(b<w.heap.size/\b<w.heap.size+1/\b<w.heap.size+1+1/\b<w.heap.size+1+1+1/\b<w.heap.size+1+1+1+1/\b<w.heap.size+1+1+1+1+1) /\
 (w.heap.size<w.heap.size+1/\w.heap.size<w.heap.size+1+1/\w.heap.size<w.heap.size+1+1+1/\w.heap.size<w.heap.size+1+1+1+1/\w.heap.size<w.heap.size+1+1+1+1+1) /\
 (w.heap.size+1<w.heap.size+1+1/\w.heap.size+1<w.heap.size+1+1+1/\w.heap.size+1<w.heap.size+1+1+1+1/\w.heap.size+1<w.heap.size+1+1+1+1+1) /\
 (w.heap.size+1+1<w.heap.size+1+1+1/\w.heap.size+1+1<w.heap.size+1+1+1+1/\w.heap.size+1+1<w.heap.size+1+1+1+1+1) /\
 w.heap.size+1+1+1<w.heap.size+1+1+1+1/\w.heap.size+1+1+1<w.heap.size+1+1+1+1+1:=by omega
theorem nh1 (v:Int) (h:(CW.opn v == 1)=false):Hid (∀ w,Calls Try.prog 83 #[.int .i64 v] w fun e w'=>e = .returned (.bool false)/\∃ c,w'=w.alloc (.cells c 159)):=Hq fun w=>by
 have:=CW.Zis v w
 rw [h] at this
 exact this
theorem nh2 (v:Int) (h:(CW.opn v == 2)=false):Hid (∀ w,Calls Try.prog 86 #[.int .i64 v] w fun e w'=>e = .returned (.bool false)/\∃ c,w'=w.alloc (.cells c 159)):=Hq fun w=>by
 have:=CW.Zrh v w
 rw [h] at this
 exact this
section
variable (b o n len cap:Nat) (op a op2 a2 op3 a3 long:Int) (x y r:BitVec 64) (w:World)
theorem Xct (hbw:b<w.heap.size) (q1:(n:Int)<(len:Int)) (ql:(len:Int)<=4096) (c0:w.cell? ⟨b,o+n*2,none⟩=some (.int .i64 op)) (c1:w.cell? ⟨b,o+n*2+1,none⟩=some (.int .i64 a)) (h:op≠3) :
 Calls Try.prog 67 #[.slice (some ⟨b,o,none⟩) len cap,.int .i64 n,.int .i64 long] w (Zo w none):=by
 have z0:(op != 3)=true:=by simpa using h
 clear h
 go_enter Try.func67,Try.ntmps67
 go_wp2
 ((refine bodyPost_ret (v := .tuple #[.agg #[.int .i64 0,.slice none 0 0,.int .i64 0],.bool false]) ?_ rfl ⟨?_,0,0,none,0,0,rfl⟩);(focus (rw [results_cell_tmp rfl];go_simp));(repeat (first|exact Zc _ _|exact Ga _ _ _|refine Za ?_ (Ga _ _ _)|refine Zh ?_ _|refine Zd ?_|(refine Ze ?_ (by simp;omega))|(refine Ze ?_ (by simp)))))
theorem Xcs (hbw:b<w.heap.size) (q1:(n:Int)<(len:Int)) (ql:(len:Int)<=4096) (c0:w.cell? ⟨b,o+n*2,none⟩=some (.int .i64 3)) (c1:w.cell? ⟨b,o+n*2+1,none⟩=some (.int .i64 a)) (h:long<2) :
 Calls Try.prog 67 #[.slice (some ⟨b,o,none⟩) len cap,.int .i64 n,.int .i64 long] w (Zo w none):=by
 go_enter Try.func67,Try.ntmps67
 go_wp2
 ((refine bodyPost_ret (v := .tuple #[.agg #[.int .i64 0,.slice none 0 0,.int .i64 0],.bool false]) ?_ rfl ⟨?_,0,0,none,0,0,rfl⟩);(focus (rw [results_cell_tmp rfl];go_simp));(repeat (first|exact Zc _ _|exact Ga _ _ _|refine Za ?_ (Ga _ _ _)|refine Zh ?_ _|refine Zd ?_|(refine Ze ?_ (by simp;omega))|(refine Ze ?_ (by simp)))))
theorem Xay (hbw:b<w.heap.size) (q1:(n:Int)<(len:Int)) (ql:(len:Int)<=4096) (c0:w.cell? ⟨b,o+n*2,none⟩=some (.int .i64 3)) (c1:w.cell? ⟨b,o+n*2+1,none⟩=some (.int .i64 0)) (q2:(n:Int)+1<(len:Int)) (d0:w.cell? ⟨b,o+(n+1)*2,none⟩=some (.int .i64 15)) (d1:w.cell? ⟨b,o+(n+1)*2+1,none⟩=some (.int .i64 a2)) (h2:2<=long)  :
 Calls Try.prog 67 #[.slice (some ⟨b,o,none⟩) len cap,.int .i64 n,.int .i64 long] w (Zo w (some ⟨2,[(14,a2)],4⟩)):=by
 go_enter Try.func67,Try.ntmps67
 go_wp2_with (first
  | (refine wpList_buildSliceTo rfl 50 49 1 _ rfl _ rfl (some 51) rfl Try.underlying50 #[.int .i64 14,.int .i64 a2] (by kernel_rfl) ?_))
 refine bodyPost_ret (v := .tuple #[.agg #[.int .i64 2,.slice (some ⟨w.heap.size+1+1+1,0,none⟩) 1 1,.int .i64 4],.bool true]) ?_ rfl ⟨?_,some ⟨w.heap.size+1+1+1,0,none⟩,1,rfl,(fun h=>by cases h),?_⟩
 · rw [results_cell_tmp rfl]
   go_simp
 · (repeat (first|exact Zc _ _|exact Ga _ _ _|refine Za ?_ (Ga _ _ _)|refine Zh ?_ _|refine Zd ?_|(refine Ze ?_ (by simp;omega))|(refine Ze ?_ (by simp))))
 · refine Zdu (x:=(14,a2)) ?_ rfl rfl
   simp
theorem Xax (hbw:b<w.heap.size) (q1:(n:Int)<(len:Int)) (ql:(len:Int)<=4096) (c0:w.cell? ⟨b,o+n*2,none⟩=some (.int .i64 3)) (c1:w.cell? ⟨b,o+n*2+1,none⟩=some (.int .i64 a)) (q2:(n:Int)+1<(len:Int)) (d0:w.cell? ⟨b,o+(n+1)*2,none⟩=some (.int .i64 16)) (d1:w.cell? ⟨b,o+(n+1)*2+1,none⟩=some (.int .i64 a2)) (h2:2<=long) (h:a≠0) :
 Calls Try.prog 67 #[.slice (some ⟨b,o,none⟩) len cap,.int .i64 n,.int .i64 long] w (Zo w (some ⟨2,[(14,a2)],4⟩)):=by
 have z0:(a == 0)=false:=by simpa using h
 clear h
 go_enter Try.func67,Try.ntmps67
 go_wp2_with (first
  | (refine wpList_buildSliceTo rfl 50 49 1 _ rfl _ rfl (some 51) rfl Try.underlying50 #[.int .i64 14,.int .i64 a2] (by kernel_rfl) ?_))
 refine bodyPost_ret (v := .tuple #[.agg #[.int .i64 2,.slice (some ⟨w.heap.size+1+1+1,0,none⟩) 1 1,.int .i64 4],.bool true]) ?_ rfl ⟨?_,some ⟨w.heap.size+1+1+1,0,none⟩,1,rfl,(fun h=>by cases h),?_⟩
 · rw [results_cell_tmp rfl]
   go_simp
 · (repeat (first|exact Zc _ _|exact Ga _ _ _|refine Za ?_ (Ga _ _ _)|refine Zh ?_ _|refine Zd ?_|(refine Ze ?_ (by simp;omega))|(refine Ze ?_ (by simp))))
 · refine Zdu (x:=(14,a2)) ?_ rfl rfl
   simp
theorem Xaw (hbw:b<w.heap.size) (q1:(n:Int)<(len:Int)) (ql:(len:Int)<=4096) (c0:w.cell? ⟨b,o+n*2,none⟩=some (.int .i64 3)) (c1:w.cell? ⟨b,o+n*2+1,none⟩=some (.int .i64 a)) (q2:(n:Int)+1<(len:Int)) (d0:w.cell? ⟨b,o+(n+1)*2,none⟩=some (.int .i64 15)) (d1:w.cell? ⟨b,o+(n+1)*2+1,none⟩=some (.int .i64 a2)) (h2:2<=long) (h:a≠0) :
 Calls Try.prog 67 #[.slice (some ⟨b,o,none⟩) len cap,.int .i64 n,.int .i64 long] w (Zo w (some ⟨2,[],4⟩)):=by
 have z0:(a == 0)=false:=by simpa using h
 clear h
 go_enter Try.func67,Try.ntmps67
 go_wp2
 refine bodyPost_ret (v := .tuple #[.agg #[.int .i64 2,.slice none 0 0,.int .i64 4],.bool true]) ?_ rfl ⟨?_,none,0,rfl,fun _=>rfl,fun h=>absurd h (by decide)⟩
 · rw [results_cell_tmp rfl]
   go_simp
 · (repeat (first|exact Zc _ _|exact Ga _ _ _|refine Za ?_ (Ga _ _ _)|refine Zh ?_ _|refine Zd ?_|(refine Ze ?_ (by simp;omega))|(refine Ze ?_ (by simp))))
theorem Xav (hbw:b<w.heap.size) (q1:(n:Int)<(len:Int)) (ql:(len:Int)<=4096) (c0:w.cell? ⟨b,o+n*2,none⟩=some (.int .i64 3)) (c1:w.cell? ⟨b,o+n*2+1,none⟩=some (.int .i64 0)) (q2:(n:Int)+1<(len:Int)) (d0:w.cell? ⟨b,o+(n+1)*2,none⟩=some (.int .i64 16)) (d1:w.cell? ⟨b,o+(n+1)*2+1,none⟩=some (.int .i64 a2)) (h2:2<=long)  :
 Calls Try.prog 67 #[.slice (some ⟨b,o,none⟩) len cap,.int .i64 n,.int .i64 long] w (Zo w (some ⟨2,[],4⟩)):=by
 go_enter Try.func67,Try.ntmps67
 go_wp2
 refine bodyPost_ret (v := .tuple #[.agg #[.int .i64 2,.slice none 0 0,.int .i64 4],.bool true]) ?_ rfl ⟨?_,none,0,rfl,fun _=>rfl,fun h=>absurd h (by decide)⟩
 · rw [results_cell_tmp rfl]
   go_simp
 · (repeat (first|exact Zc _ _|exact Ga _ _ _|refine Za ?_ (Ga _ _ _)|refine Zh ?_ _|refine Zd ?_|(refine Ze ?_ (by simp;omega))|(refine Ze ?_ (by simp))))
end
end Go.Proofs.Ythlkflagancdfaa.OT
