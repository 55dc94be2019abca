/-
  Part of a proof: contracts of functions and lemmas, each stated by its own theorem. Conditions: as each theorem states.
-/
import Derived.Test.YthlkflagancdfaaMK02
import Derived.Test.YthlkflagancdfaaMK03
import Derived.Test.YthlkflagancdfaaMK04
import Derived.Test.YthlkflagancdfaaMK05
import Derived.Test.YthlkflagancdfaaMK06
import Derived.Test.YthlkflagancdfaaMK07
set_option linter.unusedSimpArgs false
set_option linter.unusedVariables false
set_option maxRecDepth 100000
set_option maxHeartbeats 16000000
namespace Go.Proofs.Ythlkflagancdfaa.OT
open Go.RowKit Go.Great
open Go.Proofs.Ythlkflagancdfaa.CK
section
variable (b o n len cap:Nat) (op a op2 a2 op3 a3 long:Int) (x y r:BitVec 64) (w:World)
theorem Yzp (hbw:b<w.heap.size) (q1:(n:Int)<(len:Int)) (ql:(len:Int)<=4096) (c0:w.cell? ⟨b,o+n*2,none⟩=some (.int .i64 3)) (c1:w.cell? ⟨b,o+n*2+1,none⟩=some (.int .i64 a)) (q2:(n:Int)+1<(len:Int)) (d0:w.cell? ⟨b,o+(n+1)*2,none⟩=some (.int .i64 3)) (d1:w.cell? ⟨b,o+(n+1)*2+1,none⟩=some (.int .i64 a2)) (h2:2<=long) (hl:long<3) :
 Calls Try.prog 67 #[.slice (some ⟨b,o,none⟩) len cap,.int .i64 n,.int .i64 long] w (Zm w none):=by
 obtain ⟨⟨sb0,sb1,sb2,sb3,sb4,sb5⟩,⟨sc01,sc02,sc03,sc04,sc05⟩,⟨sc12,sc13,sc14,sc15⟩,⟨sc23,sc24,sc25⟩,sc34,sc35⟩:=Xu hbw
 have H1:=nh1 3 (by decide)
 go_enter Try.func67,Try.ntmps67
 go_wp2_with (first
  | (go_at_call 83;refine (H1.out _).mono ?_;rintro e w' ⟨rfl,cw1,rfl⟩))
 all_goals ((refine bodyPost_ret (v := .tuple #[.agg #[.int .i64 0,.slice none 0 0,.int .i64 0],.bool false]) ?_ rfl ⟨?_,0,0,none,0,0,rfl⟩);(focus (rw [results_cell_tmp rfl];go_simp));(repeat (first|exact Zc _ _|exact Ga _ _ _|refine Za ?_ (Ga _ _ _)|refine Zf ?_ _|refine Ze ?_|(refine Zd ?_ (by simp;omega))|(refine Zd ?_ (by simp)))))
theorem Yzo (hbw:b<w.heap.size) (q1:(n:Int)<(len:Int)) (ql:(len:Int)<=4096) (c0:w.cell? ⟨b,o+n*2,none⟩=some (.int .i64 3)) (c1:w.cell? ⟨b,o+n*2+1,none⟩=some (.int .i64 a)) (q2:(n:Int)+1<(len:Int)) (d0:w.cell? ⟨b,o+(n+1)*2,none⟩=some (.int .i64 3)) (d1:w.cell? ⟨b,o+(n+1)*2+1,none⟩=some (.int .i64 a2)) (h2:2<=long) (q3:(n:Int)+2<(len:Int)) (e0:w.cell? ⟨b,o+(n+2)*2,none⟩=some (.int .i64 op3)) (e1:w.cell? ⟨b,o+(n+2)*2+1,none⟩=some (.int .i64 a3)) (h3:3<=long) (hn2:CW.opn op3≠2) :
 Calls Try.prog 67 #[.slice (some ⟨b,o,none⟩) len cap,.int .i64 n,.int .i64 long] w (Zm w none):=by
 obtain ⟨⟨sb0,sb1,sb2,sb3,sb4,sb5⟩,⟨sc01,sc02,sc03,sc04,sc05⟩,⟨sc12,sc13,sc14,sc15⟩,⟨sc23,sc24,sc25⟩,sc34,sc35⟩:=Xu hbw
 have H1:=nh1 3 (by decide)
 have H2:=nh2 op3 (by simpa using hn2)
 clear hn2
 go_enter Try.func67,Try.ntmps67
 go_wp2_with (first
  | (go_at_call 83;refine (H1.out _).mono ?_;rintro e w' ⟨rfl,cw1,rfl⟩)
  | (go_at_call 86;refine (H2.out _).mono ?_;rintro e w' ⟨rfl,cw2,rfl⟩))
 all_goals ((refine bodyPost_ret (v := .tuple #[.agg #[.int .i64 0,.slice none 0 0,.int .i64 0],.bool false]) ?_ rfl ⟨?_,0,0,none,0,0,rfl⟩);(focus (rw [results_cell_tmp rfl];go_simp));(repeat (first|exact Zc _ _|exact Ga _ _ _|refine Za ?_ (Ga _ _ _)|refine Zf ?_ _|refine Ze ?_|(refine Zd ?_ (by simp;omega))|(refine Zd ?_ (by simp)))))
theorem Yzn (hbw:b<w.heap.size) (q1:(n:Int)<(len:Int)) (ql:(len:Int)<=4096) (c0:w.cell? ⟨b,o+n*2,none⟩=some (.int .i64 3)) (c1:w.cell? ⟨b,o+n*2+1,none⟩=some (.int .i64 a)) (q2:(n:Int)+1<(len:Int)) (d0:w.cell? ⟨b,o+(n+1)*2,none⟩=some (.int .i64 31)) (d1:w.cell? ⟨b,o+(n+1)*2+1,none⟩=some (.int .i64 a2)) (h2:2<=long) (h:a≠0) :
 Calls Try.prog 67 #[.slice (some ⟨b,o,none⟩) len cap,.int .i64 n,.int .i64 long] w (Zm w none):=by
 obtain ⟨⟨sb0,sb1,sb2,sb3,sb4,sb5⟩,⟨sc01,sc02,sc03,sc04,sc05⟩,⟨sc12,sc13,sc14,sc15⟩,⟨sc23,sc24,sc25⟩,sc34,sc35⟩:=Xu hbw
 have H1:=nh1 31 (by decide)
 have z0:(a == 0)=false:=by simpa using h
 clear h
 go_enter Try.func67,Try.ntmps67
 go_wp2_with (first
  | (go_at_call 83;refine (H1.out _).mono ?_;rintro e w' ⟨rfl,cw1,rfl⟩))
 all_goals ((refine bodyPost_ret (v := .tuple #[.agg #[.int .i64 0,.slice none 0 0,.int .i64 0],.bool false]) ?_ rfl ⟨?_,0,0,none,0,0,rfl⟩);(focus (rw [results_cell_tmp rfl];go_simp));(repeat (first|exact Zc _ _|exact Ga _ _ _|refine Za ?_ (Ga _ _ _)|refine Zf ?_ _|refine Ze ?_|(refine Zd ?_ (by simp;omega))|(refine Zd ?_ (by simp)))))
theorem Yzm (hbw:b<w.heap.size) (q1:(n:Int)<(len:Int)) (ql:(len:Int)<=4096) (c0:w.cell? ⟨b,o+n*2,none⟩=some (.int .i64 3)) (c1:w.cell? ⟨b,o+n*2+1,none⟩=some (.int .i64 0)) (q2:(n:Int)+1<(len:Int)) (d0:w.cell? ⟨b,o+(n+1)*2,none⟩=some (.int .i64 31)) (d1:w.cell? ⟨b,o+(n+1)*2+1,none⟩=some (.int .i64 a2)) (h2:2<=long) (hl:long<3) :
 Calls Try.prog 67 #[.slice (some ⟨b,o,none⟩) len cap,.int .i64 n,.int .i64 long] w (Zm w none):=by
 obtain ⟨⟨sb0,sb1,sb2,sb3,sb4,sb5⟩,⟨sc01,sc02,sc03,sc04,sc05⟩,⟨sc12,sc13,sc14,sc15⟩,⟨sc23,sc24,sc25⟩,sc34,sc35⟩:=Xu hbw
 have H1:=nh1 31 (by decide)
 go_enter Try.func67,Try.ntmps67
 go_wp2_with (first
  | (go_at_call 83;refine (H1.out _).mono ?_;rintro e w' ⟨rfl,cw1,rfl⟩))
 all_goals ((refine bodyPost_ret (v := .tuple #[.agg #[.int .i64 0,.slice none 0 0,.int .i64 0],.bool false]) ?_ rfl ⟨?_,0,0,none,0,0,rfl⟩);(focus (rw [results_cell_tmp rfl];go_simp));(repeat (first|exact Zc _ _|exact Ga _ _ _|refine Za ?_ (Ga _ _ _)|refine Zf ?_ _|refine Ze ?_|(refine Zd ?_ (by simp;omega))|(refine Zd ?_ (by simp)))))
theorem Yzl (hbw:b<w.heap.size) (q1:(n:Int)<(len:Int)) (ql:(len:Int)<=4096) (c0:w.cell? ⟨b,o+n*2,none⟩=some (.int .i64 3)) (c1:w.cell? ⟨b,o+n*2+1,none⟩=some (.int .i64 0)) (q2:(n:Int)+1<(len:Int)) (d0:w.cell? ⟨b,o+(n+1)*2,none⟩=some (.int .i64 31)) (d1:w.cell? ⟨b,o+(n+1)*2+1,none⟩=some (.int .i64 a2)) (h2:2<=long) (q3:(n:Int)+2<(len:Int)) (e0:w.cell? ⟨b,o+(n+2)*2,none⟩=some (.int .i64 op3)) (e1:w.cell? ⟨b,o+(n+2)*2+1,none⟩=some (.int .i64 a3)) (h3:3<=long) (hj:jmp op3=false) :
 Calls Try.prog 67 #[.slice (some ⟨b,o,none⟩) len cap,.int .i64 n,.int .i64 long] w (Zm w none):=by
 obtain ⟨⟨sb0,sb1,sb2,sb3,sb4,sb5⟩,⟨sc01,sc02,sc03,sc04,sc05⟩,⟨sc12,sc13,sc14,sc15⟩,⟨sc23,sc24,sc25⟩,sc34,sc35⟩:=Xu hbw
 have H1:=nh1 31 (by decide)
 have HJ:Hid (∀ w,Calls Try.prog 52 #[.int .i64 op3] w fun e w'=>e = .returned (.bool false)/\w=w'):=(Hq fun w=>by have:=Yu op3 w;rw [hj] at this;exact this)
 clear hj
 go_enter Try.func67,Try.ntmps67
 go_wp2_with (first
  | (go_at_call 83;refine (H1.out _).mono ?_;rintro e w' ⟨rfl,cw1,rfl⟩)
  | (go_at_call 52;refine (HJ.out _).mono ?_;rintro e w' ⟨rfl,rfl⟩))
 all_goals ((refine bodyPost_ret (v := .tuple #[.agg #[.int .i64 0,.slice none 0 0,.int .i64 0],.bool false]) ?_ rfl ⟨?_,0,0,none,0,0,rfl⟩);(focus (rw [results_cell_tmp rfl];go_simp));(repeat (first|exact Zc _ _|exact Ga _ _ _|refine Za ?_ (Ga _ _ _)|refine Zf ?_ _|refine Ze ?_|(refine Zd ?_ (by simp;omega))|(refine Zd ?_ (by simp)))))
theorem Yzk (hbw:b<w.heap.size) (q1:(n:Int)<(len:Int)) (ql:(len:Int)<=4096) (c0:w.cell? ⟨b,o+n*2,none⟩=some (.int .i64 3)) (c1:w.cell? ⟨b,o+n*2+1,none⟩=some (.int .i64 0)) (q2:(n:Int)+1<(len:Int)) (d0:w.cell? ⟨b,o+(n+1)*2,none⟩=some (.int .i64 31)) (d1:w.cell? ⟨b,o+(n+1)*2+1,none⟩=some (.int .i64 a2)) (h2:2<=long) (q3:(n:Int)+2<(len:Int)) (e0:w.cell? ⟨b,o+(n+2)*2,none⟩=some (.int .i64 14)) (e1:w.cell? ⟨b,o+(n+2)*2+1,none⟩=some (.int .i64 a3)) (h3:3<=long)  :
 Calls Try.prog 67 #[.slice (some ⟨b,o,none⟩) len cap,.int .i64 n,.int .i64 long] w (Zm w none):=by
 obtain ⟨⟨sb0,sb1,sb2,sb3,sb4,sb5⟩,⟨sc01,sc02,sc03,sc04,sc05⟩,⟨sc12,sc13,sc14,sc15⟩,⟨sc23,sc24,sc25⟩,sc34,sc35⟩:=Xu hbw
 have H1:=nh1 31 (by decide)
 have HJ:Hid (∀ w,Calls Try.prog 52 #[.int .i64 14] w fun e w'=>e = .returned (.bool true)/\w=w'):=(Hq fun w=>Yu 14 w)
 go_enter Try.func67,Try.ntmps67
 go_wp2_with (first
  | (go_at_call 83;refine (H1.out _).mono ?_;rintro e w' ⟨rfl,cw1,rfl⟩)
  | (go_at_call 52;refine (HJ.out _).mono ?_;rintro e w' ⟨rfl,rfl⟩))
 all_goals ((refine bodyPost_ret (v := .tuple #[.agg #[.int .i64 0,.slice none 0 0,.int .i64 0],.bool false]) ?_ rfl ⟨?_,0,0,none,0,0,rfl⟩);(focus (rw [results_cell_tmp rfl];go_simp));(repeat (first|exact Zc _ _|exact Ga _ _ _|refine Za ?_ (Ga _ _ _)|refine Zf ?_ _|refine Ze ?_|(refine Zd ?_ (by simp;omega))|(refine Zd ?_ (by simp)))))
end
section
variable (b o n len cap:Nat) (op a op2 a2 op3 a3 long:Int) (x y r:BitVec 64) (w:World)
theorem Yzj (hbw:b<w.heap.size) (q1:(n:Int)<(len:Int)) (ql:(len:Int)<=4096) (c0:w.cell? ⟨b,o+n*2,none⟩=some (.int .i64 3)) (c1:w.cell? ⟨b,o+n*2+1,none⟩=some (.int .i64 a)) (q2:(n:Int)+1<(len:Int)) (d0:w.cell? ⟨b,o+(n+1)*2,none⟩=some (.int .i64 op2)) (d1:w.cell? ⟨b,o+(n+1)*2+1,none⟩=some (.int .i64 a2)) (h2:2<=long) (hn1:CW.opn op2≠1) (hz:∀ k∈[(15:Int),16,3,31,20,21,22,23,26,27,28,29,30],op2≠k) :
 Calls Try.prog 67 #[.slice (some ⟨b,o,none⟩) len cap,.int .i64 n,.int .i64 long] w (Zm w none):=by
 obtain ⟨⟨sb0,sb1,sb2,sb3,sb4,sb5⟩,⟨sc01,sc02,sc03,sc04,sc05⟩,⟨sc12,sc13,sc14,sc15⟩,⟨sc23,sc24,sc25⟩,sc34,sc35⟩:=Xu hbw
 have H1:=nh1 op2 (by simpa using hn1)
 have z15:(op2 == 15)=false:=by have:=hz 15 (by decide);simpa using this
 have z16:(op2 == 16)=false:=by have:=hz 16 (by decide);simpa using this
 have z3:(op2 == 3)=false:=by have:=hz 3 (by decide);simpa using this
 have z31:(op2 == 31)=false:=by have:=hz 31 (by decide);simpa using this
 have z20:(op2 == 20)=false:=by have:=hz 20 (by decide);simpa using this
 have z21:(op2 == 21)=false:=by have:=hz 21 (by decide);simpa using this
 have z22:(op2 == 22)=false:=by have:=hz 22 (by decide);simpa using this
 have z23:(op2 == 23)=false:=by have:=hz 23 (by decide);simpa using this
 have z26:(op2 == 26)=false:=by have:=hz 26 (by decide);simpa using this
 have z27:(op2 == 27)=false:=by have:=hz 27 (by decide);simpa using this
 have z28:(op2 == 28)=false:=by have:=hz 28 (by decide);simpa using this
 have z29:(op2 == 29)=false:=by have:=hz 29 (by decide);simpa using this
 have z30:(op2 == 30)=false:=by have:=hz 30 (by decide);simpa using this
 clear hn1 hz
 go_enter Try.func67,Try.ntmps67
 go_wp2_with (first
  | (go_at_call 83;refine (H1.out _).mono ?_;rintro e w' ⟨rfl,cw1,rfl⟩))
 all_goals ((refine bodyPost_ret (v := .tuple #[.agg #[.int .i64 0,.slice none 0 0,.int .i64 0],.bool false]) ?_ rfl ⟨?_,0,0,none,0,0,rfl⟩);(focus (rw [results_cell_tmp rfl];go_simp));(repeat (first|exact Zc _ _|exact Ga _ _ _|refine Za ?_ (Ga _ _ _)|refine Zf ?_ _|refine Ze ?_|(refine Zd ?_ (by simp;omega))|(refine Zd ?_ (by simp)))))
end
def InR (a:Int):Prop := -9223372036854775808<=a/\a<=9223372036854775807
theorem Zqd {a:Int} (h:InR a):(wd a).toInt=a:=by
 unfold wd
 obtain ⟨h1,h2⟩:=h
 rw [BitVec.toInt_ofInt]
 exact Int.bmod_eq_of_le (by omega) (by omega)
def Jl (c:List Ins):Prop:=∀ x∈c,InR x.2
theorem Zsp {c:List Ins} (h:Jl c) {n:Nat} (hn:n<c.length):InR (Zn c n).2:=by
 unfold Zn
 rw [List.getD_eq_getElem?_getD,List.getElem?_eq_getElem hn]
 exact h _ (List.getElem_mem hn)
theorem Yhm (c:List Ins) (p:Option Addr) (cap B n lg:Nat) (w:World) (hB:B<=w.heap.size) (hC:Xz w B p c) (hn:n<c.length) (hl:c.length<=4096) (hR:Jl c) (hg:lg<=3) (hlong:n+lg<=c.length) :
 Calls Try.prog 67 #[.slice p c.length cap,.int .i64 n,.int .i64 lg] w (Zm w (Zau c n lg)):=by
 unfold Zau
 simp only []
 obtain ⟨b,o,rfl,hb,c0,c1⟩:=Jw hC hn
 have hbw:b<w.heap.size:=by omega
 have q1:(n:Int)<(c.length:Int):=by omega
 have ql:(c.length:Int)<=4096:=by omega
 have r1:=Zsp hR hn
 by_cases h3n:(Zn c n).1≠3
 · have h3:=h3n
   rw [if_pos (Or.inl h3)]
   exact Xgg b o n c.length cap _ _ lg w hbw q1 ql c0 c1 h3
 have h3:(Zn c n).1=3:=Classical.not_not.1 h3n
 clear h3n
 rw [h3] at c0
 by_cases h2:lg<2
 · rw [if_pos (Or.inr h2)]
   exact Xgf b o n c.length cap _ lg w hbw q1 ql c0 c1 (by omega)
 rw [if_neg (by rintro (h|h);exact h h3;exact h2 h)]
 have q2:(n:Int)+1<(c.length:Int):=by omega
 have hl2:(2:Int)<=(lg:Int):=by omega
 obtain ⟨b',o',e2,-,d0,d1⟩:=Jw hC (n:=n+1) (by omega)
 injection e2 with e2;injection e2 with e2 e3 _;subst e2;subst e3
 have r2:=Zsp hR (n:=n+1) (by omega)
 have hz:3<=lg->w.cell? ⟨b,o+(n+2)*2,none⟩=some (.int .i64 (Zn c (n+2)).1)/\w.cell? ⟨b,o+(n+2)*2+1,none⟩=some (.int .i64 (Zn c (n+2)).2):=fun h=>by
  obtain ⟨b',o',e2,-,e0,e1⟩:=Jw hC (n:=n+2) (by omega)
  injection e2 with e2;injection e2 with e2 e3 _;subst e2;subst e3
  exact ⟨e0,e1⟩
 generalize (Zn c n).2=a at *
 generalize (Zn c (n+1)).1=op2 at *
 generalize (Zn c (n+1)).2=a2 at *
 generalize (Zn c (n+2)).1=op3 at *
 generalize (Zn c (n+2)).2=a3 at *
 have q3:3<=lg->(n:Int)+2<(c.length:Int):=fun h=>by omega
 have hl3:3<=lg->(3:Int)<=(lg:Int):=fun h=>by omega
 by_cases hj:op2=15\/op2=16
 · rw [if_pos hj]
   by_cases ha:a=0
   · subst ha
     rcases hj with rfl|rfl
     · rw [if_pos (by decide)]
       exact Xei b o n c.length cap _ lg w hbw q1 ql c0 c1 q2 d0 d1 hl2
     · rw [if_neg (by decide)]
       exact Xef b o n c.length cap _ lg w hbw q1 ql c0 c1 q2 d0 d1 hl2
   · rcases hj with rfl|rfl
     · rw [if_neg (by simp [ha])]
       exact Xeg b o n c.length cap _ _ lg w hbw q1 ql c0 c1 q2 d0 d1 hl2 ha
     · rw [if_pos (by simp [ha])]
       exact Xeh b o n c.length cap _ _ lg w hbw q1 ql c0 c1 q2 d0 d1 hl2 ha
 rw [if_neg hj]
 have h15:op2≠15:=fun e=>hj (Or.inl e)
 have h16:op2≠16:=fun e=>hj (Or.inr e)
 clear hj
 by_cases h1:CW.opn op2=1
 · rw [if_pos h1]
   have c1':w.cell? ⟨b,o+n*2+1,none⟩=some (.int .i64 (wd a).toInt):=by rw [Zqd r1];exact c1
   by_cases ht:(CW.Ycq op2 (wd a)).2=0
   · rw [if_pos ht]
     exact Xge b o n c.length cap op2 a2 lg (wd a) (CW.Ycq op2 (wd a)).1 w hbw q1 ql c0 c1' q2 d0 d1 hl2 h15 h16 h1 (by rw [<- ht])
   · rw [if_neg ht]
     exact Xgd b o n c.length cap op2 a2 lg (wd a) w hbw q1 ql c0 c1' q2 d0 d1 hl2 h15 h16 h1 ht
 rw [if_neg h1]
 by_cases h7:op2=3/\3<=lg/\CW.opn op3=2
 · rw [if_pos h7]
   obtain ⟨rfl,h3l,ho⟩:=h7
   have c1':w.cell? ⟨b,o+n*2+1,none⟩=some (.int .i64 (wd a).toInt):=by rw [Zqd r1];exact c1
   have d1':w.cell? ⟨b,o+(n+1)*2+1,none⟩=some (.int .i64 (wd a2).toInt):=by rw [Zqd r2];exact d1
   by_cases ht:(CW.two op3 (wd a) (wd a2)).2=0
   · rw [if_pos ht]
     exact Xgc b o n c.length cap op3 a3 lg (wd a) (wd a2) (CW.two op3 (wd a) (wd a2)).1 w hbw q1 ql c0 c1' q2 d0 d1' hl2 (q3 h3l) (hz h3l).1 (hz h3l).2 (hl3 h3l) ho (by rw [<- ht])
   · rw [if_neg ht]
     exact Xgb b o n c.length cap op3 a3 lg (wd a) (wd a2) w hbw q1 ql c0 c1' q2 d0 d1' hl2 (q3 h3l) (hz h3l).1 (hz h3l).2 (hl3 h3l) ho ht
 rw [if_neg h7]
 by_cases h9:a=0/\op2=31/\3<=lg/\(op3=15\/op3=16)
 · rw [if_pos h9]
   obtain ⟨rfl,rfl,h3l,ho⟩:=h9
   rcases ho with rfl|rfl
   · rw [if_neg (by decide)]
     exact Xea b o n c.length cap a2 a3 lg w hbw q1 ql c0 c1 q2 d0 d1 hl2 (q3 h3l) (hz h3l).1 (hz h3l).2 (hl3 h3l)
   · rw [if_pos rfl]
     exact Xdz b o n c.length cap a2 a3 lg w hbw q1 ql c0 c1 q2 d0 d1 hl2 (q3 h3l) (hz h3l).1 (hz h3l).2 (hl3 h3l)
 rw [if_neg h9]
 by_cases h10:op2=20\/op2=21\/op2=26\/op2=27\/op2=28\/op2=29\/op2=30
 · by_cases ha:a=0
   · rw [if_pos ⟨ha,h10⟩]
     subst ha
     rcases h10 with rfl|rfl|rfl|rfl|rfl|rfl|rfl
     · exact Yoh b o n c.length cap _ lg w hbw q1 ql c0 c1 q2 d0 d1 hl2
     · exact Yog b o n c.length cap _ lg w hbw q1 ql c0 c1 q2 d0 d1 hl2
     · exact Yod b o n c.length cap _ lg w hbw q1 ql c0 c1 q2 d0 d1 hl2
     · exact Yoc b o n c.length cap _ lg w hbw q1 ql c0 c1 q2 d0 d1 hl2
     · exact Yob b o n c.length cap _ lg w hbw q1 ql c0 c1 q2 d0 d1 hl2
     · exact Yoa b o n c.length cap _ lg w hbw q1 ql c0 c1 q2 d0 d1 hl2
     · exact Ynz b o n c.length cap _ lg w hbw q1 ql c0 c1 q2 d0 d1 hl2
   · rw [if_neg (fun h=>ha h.1),if_neg (by omega)]
     rcases h10 with rfl|rfl|rfl|rfl|rfl|rfl|rfl
     · exact Yhi b o n c.length cap _ _ lg w hbw q1 ql c0 c1 q2 d0 d1 hl2 ha
     · exact Yhh b o n c.length cap _ _ lg w hbw q1 ql c0 c1 q2 d0 d1 hl2 ha
     · exact Yhe b o n c.length cap _ _ lg w hbw q1 ql c0 c1 q2 d0 d1 hl2 ha
     · exact Yhd b o n c.length cap _ _ lg w hbw q1 ql c0 c1 q2 d0 d1 hl2 ha
     · exact Yhc b o n c.length cap _ _ lg w hbw q1 ql c0 c1 q2 d0 d1 hl2 ha
     · exact Yhb b o n c.length cap _ _ lg w hbw q1 ql c0 c1 q2 d0 d1 hl2 ha
     · exact Yha b o n c.length cap _ _ lg w hbw q1 ql c0 c1 q2 d0 d1 hl2 ha
 rw [if_neg (fun h=>h10 h.2)]
 by_cases h22:op2=22\/op2=23
 · by_cases ha:a=1
   · rw [if_pos ⟨ha,h22⟩]
     subst ha
     rcases h22 with rfl|rfl
     · exact Yof b o n c.length cap _ lg w hbw q1 ql c0 c1 q2 d0 d1 hl2
     · exact Yoe b o n c.length cap _ lg w hbw q1 ql c0 c1 q2 d0 d1 hl2
   · rw [if_neg (fun h=>ha h.1)]
     rcases h22 with rfl|rfl
     · exact Yhg b o n c.length cap _ _ lg w hbw q1 ql c0 c1 q2 d0 d1 hl2 ha
     · exact Yhf b o n c.length cap _ _ lg w hbw q1 ql c0 c1 q2 d0 d1 hl2 ha
 rw [if_neg (fun h=>h22 h.2)]
 by_cases h3':op2=3
 · subst h3'
   by_cases h3l:3<=lg
   · exact Yzo b o n c.length cap _ _ _ _ lg w hbw q1 ql c0 c1 q2 d0 d1 hl2 (q3 h3l) (hz h3l).1 (hz h3l).2 (hl3 h3l) (fun e=>h7 ⟨rfl,h3l,e⟩)
   · exact Yzp b o n c.length cap _ _ lg w hbw q1 ql c0 c1 q2 d0 d1 hl2 (by omega)
 by_cases h31:op2=31
 · subst h31
   by_cases ha:a=0
   · subst ha
     by_cases h3l:3<=lg
     · by_cases h14:op3=14
       · subst h14
         exact Yzk b o n c.length cap _ _ lg w hbw q1 ql c0 c1 q2 d0 d1 hl2 (q3 h3l) (hz h3l).1 (hz h3l).2 (hl3 h3l)
       · refine Yzl b o n c.length cap _ _ _ lg w hbw q1 ql c0 c1 q2 d0 d1 hl2 (q3 h3l) (hz h3l).1 (hz h3l).2 (hl3 h3l) ?_
         have n15:op3≠15:=fun e=>h9 ⟨rfl,rfl,h3l,Or.inl e⟩
         have n16:op3≠16:=fun e=>h9 ⟨rfl,rfl,h3l,Or.inr e⟩
         simp [jmp,h14,n15,n16]
     · exact Yzm b o n c.length cap _ lg w hbw q1 ql c0 c1 q2 d0 d1 hl2 (by omega)
   · exact Yzn b o n c.length cap _ _ lg w hbw q1 ql c0 c1 q2 d0 d1 hl2 ha
 refine Yzj b o n c.length cap _ _ _ lg w hbw q1 ql c0 c1 q2 d0 d1 hl2 h1 ?_
 intro k hk e
 subst e
 simp only [List.mem_cons,List.not_mem_nil,or_false] at hk
 omega
section
variable (b o n len cap:Nat) (op a op2 a2 op3 a3 long:Int) (x y r:BitVec 64) (w:World)
theorem Xfy (hbw:b<w.heap.size) (q1:(n:Int)<(len:Int)) (ql:(len:Int)<=4096) (c0:w.cell? ⟨b,o+n*2,none⟩=some (.int .i64 op)) (c1:w.cell? ⟨b,o+n*2+1,none⟩=some (.int .i64 a)) (hl:long<2) :
 Calls Try.prog 68 #[.slice (some ⟨b,o,none⟩) len cap,.int .i64 n,.int .i64 long] w (Zm w none):=by
 go_enter Try.func68,Try.ntmps68
 go_wp2
 ((refine bodyPost_ret (v := .tuple #[.agg #[.int .i64 0,.slice none 0 0,.int .i64 0],.bool false]) ?_ rfl ⟨?_,0,0,none,0,0,rfl⟩);(focus (rw [results_cell_tmp rfl];go_simp));(repeat (first|exact Zc _ _|exact Ga _ _ _|refine Za ?_ (Ga _ _ _)|refine Zf ?_ _|refine Ze ?_|(refine Zd ?_ (by simp;omega))|(refine Zd ?_ (by simp)))))
theorem Xdp (hbw:b<w.heap.size) (q1:(n:Int)<(len:Int)) (ql:(len:Int)<=4096) (c0:w.cell? ⟨b,o+n*2,none⟩=some (.int .i64 3)) (c1:w.cell? ⟨b,o+n*2+1,none⟩=some (.int .i64 a)) (q2:(n:Int)+1<(len:Int)) (d0:w.cell? ⟨b,o+(n+1)*2,none⟩=some (.int .i64 4)) (d1:w.cell? ⟨b,o+(n+1)*2+1,none⟩=some (.int .i64 a2)) (h2:2<=long)  :
 Calls Try.prog 68 #[.slice (some ⟨b,o,none⟩) len cap,.int .i64 n,.int .i64 long] w (Zm w (some ⟨2,[],5⟩)):=by
 obtain ⟨⟨sb0,sb1,sb2,sb3,sb4,sb5⟩,⟨sc01,sc02,sc03,sc04,sc05⟩,⟨sc12,sc13,sc14,sc15⟩,⟨sc23,sc24,sc25⟩,sc34,sc35⟩:=Xu hbw
 go_enter Try.func68,Try.ntmps68
 go_wp2
 go_region
 all_goals go_wp2
 all_goals go_region
 all_goals go_wp2
 all_goals
  refine bodyPost_ret (v := .tuple #[.agg #[.int .i64 2,.slice none 0 0,.int .i64 5],.bool true]) ?_ rfl ⟨?_,none,0,rfl,fun _=>rfl,fun h=>absurd h (by decide)⟩
  · rw [results_cell_tmp rfl]
    go_simp
  · (repeat (first|exact Zc _ _|exact Ga _ _ _|refine Za ?_ (Ga _ _ _)|refine Zf ?_ _|refine Ze ?_|(refine Zd ?_ (by simp;omega))|(refine Zd ?_ (by simp))))
theorem Xdr (hbw:b<w.heap.size) (q1:(n:Int)<(len:Int)) (ql:(len:Int)<=4096) (c0:w.cell? ⟨b,o+n*2,none⟩=some (.int .i64 3)) (c1:w.cell? ⟨b,o+n*2+1,none⟩=some (.int .i64 a)) (q2:(n:Int)+1<(len:Int)) (d0:w.cell? ⟨b,o+(n+1)*2,none⟩=some (.int .i64 op2)) (d1:w.cell? ⟨b,o+(n+1)*2+1,none⟩=some (.int .i64 a2)) (h2:2<=long) (h:op2≠4) :
 Calls Try.prog 68 #[.slice (some ⟨b,o,none⟩) len cap,.int .i64 n,.int .i64 long] w (Zm w none):=by
 obtain ⟨⟨sb0,sb1,sb2,sb3,sb4,sb5⟩,⟨sc01,sc02,sc03,sc04,sc05⟩,⟨sc12,sc13,sc14,sc15⟩,⟨sc23,sc24,sc25⟩,sc34,sc35⟩:=Xu hbw
 have z4:(op2 == 4)=false:=by simpa using h
 clear h
 go_enter Try.func68,Try.ntmps68
 go_wp2
 go_region
 all_goals go_wp2
 all_goals go_region
 all_goals go_wp2
 all_goals
  refine bodyPost_ret (v := .tuple #[.agg #[.int .i64 2,.slice none 0 0,.int .i64 5],.bool false]) ?_ rfl ⟨?_,_,_,_,_,_,rfl⟩
  · rw [results_cell_tmp rfl]
    go_simp
  · (repeat (first|exact Zc _ _|exact Ga _ _ _|refine Za ?_ (Ga _ _ _)|refine Zf ?_ _|refine Ze ?_|(refine Zd ?_ (by simp;omega))|(refine Zd ?_ (by simp))))
theorem Yyw (hbw:b<w.heap.size) (q1:(n:Int)<(len:Int)) (ql:(len:Int)<=4096) (c0:w.cell? ⟨b,o+n*2,none⟩=some (.int .i64 13)) (c1:w.cell? ⟨b,o+n*2+1,none⟩=some (.int .i64 a)) (q2:(n:Int)+1<(len:Int)) (d0:w.cell? ⟨b,o+(n+1)*2,none⟩=some (.int .i64 4)) (d1:w.cell? ⟨b,o+(n+1)*2+1,none⟩=some (.int .i64 a2)) (h2:2<=long)  :
 Calls Try.prog 68 #[.slice (some ⟨b,o,none⟩) len cap,.int .i64 n,.int .i64 long] w (Zm w (some ⟨2,[],5⟩)):=by
 obtain ⟨⟨sb0,sb1,sb2,sb3,sb4,sb5⟩,⟨sc01,sc02,sc03,sc04,sc05⟩,⟨sc12,sc13,sc14,sc15⟩,⟨sc23,sc24,sc25⟩,sc34,sc35⟩:=Xu hbw
 go_enter Try.func68,Try.ntmps68
 go_wp2
 go_region
 all_goals go_wp2
 all_goals go_region
 all_goals go_wp2
 all_goals
  refine bodyPost_ret (v := .tuple #[.agg #[.int .i64 2,.slice none 0 0,.int .i64 5],.bool true]) ?_ rfl ⟨?_,none,0,rfl,fun _=>rfl,fun h=>absurd h (by decide)⟩
  · rw [results_cell_tmp rfl]
    go_simp
  · (repeat (first|exact Zc _ _|exact Ga _ _ _|refine Za ?_ (Ga _ _ _)|refine Zf ?_ _|refine Ze ?_|(refine Zd ?_ (by simp;omega))|(refine Zd ?_ (by simp))))
theorem Yyz (hbw:b<w.heap.size) (q1:(n:Int)<(len:Int)) (ql:(len:Int)<=4096) (c0:w.cell? ⟨b,o+n*2,none⟩=some (.int .i64 13)) (c1:w.cell? ⟨b,o+n*2+1,none⟩=some (.int .i64 a)) (q2:(n:Int)+1<(len:Int)) (d0:w.cell? ⟨b,o+(n+1)*2,none⟩=some (.int .i64 op2)) (d1:w.cell? ⟨b,o+(n+1)*2+1,none⟩=some (.int .i64 a2)) (h2:2<=long) (h:op2≠4) :
 Calls Try.prog 68 #[.slice (some ⟨b,o,none⟩) len cap,.int .i64 n,.int .i64 long] w (Zm w none):=by
 obtain ⟨⟨sb0,sb1,sb2,sb3,sb4,sb5⟩,⟨sc01,sc02,sc03,sc04,sc05⟩,⟨sc12,sc13,sc14,sc15⟩,⟨sc23,sc24,sc25⟩,sc34,sc35⟩:=Xu hbw
 have z4:(op2 == 4)=false:=by simpa using h
 clear h
 go_enter Try.func68,Try.ntmps68
 go_wp2
 go_region
 all_goals go_wp2
 all_goals go_region
 all_goals go_wp2
 all_goals
  refine bodyPost_ret (v := .tuple #[.agg #[.int .i64 2,.slice none 0 0,.int .i64 5],.bool false]) ?_ rfl ⟨?_,_,_,_,_,_,rfl⟩
  · rw [results_cell_tmp rfl]
    go_simp
  · (repeat (first|exact Zc _ _|exact Ga _ _ _|refine Za ?_ (Ga _ _ _)|refine Zf ?_ _|refine Ze ?_|(refine Zd ?_ (by simp;omega))|(refine Zd ?_ (by simp))))
end
end Go.Proofs.Ythlkflagancdfaa.OT
