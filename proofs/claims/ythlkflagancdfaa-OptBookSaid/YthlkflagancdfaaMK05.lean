/-
  Part of a proof: contracts of functions and lemmas, each stated by its own theorem. Conditions: as each theorem states.
-/
import Derived.Test.YthlkflagancdfaaMK02
set_option linter.unusedSimpArgs false
set_option linter.unusedVariables false
set_option maxRecDepth 100000
set_option maxHeartbeats 16000000
namespace Go.Proofs.Ythlkflagancdfaa.OT
open Go.RowKit Go.Great
open Go.Proofs.Ythlkflagancdfaa.CK
section
variable (b o n len cap:Nat) (op a op2 a2 op3 a3 long:Int) (x y r:BitVec 64) (w:World)
theorem Xeb (aa:Int) (bb:Int) (vv:Int) (tt:Int) (hbw:b<w.heap.size) (q1:(n:Int)<(len:Int)) (ql:(len:Int)<=4096) (c0:w.cell? ⟨b,o+n*2,none⟩=some (.int .i64 3)) (c1:w.cell? ⟨b,o+n*2+1,none⟩=some (.int .i64 aa)) (q2:(n:Int)+1<(len:Int)) (d0:w.cell? ⟨b,o+(n+1)*2,none⟩=some (.int .i64 3)) (d1:w.cell? ⟨b,o+(n+1)*2+1,none⟩=some (.int .i64 bb)) (h2:2<=long) (q3:(n:Int)+2<(len:Int)) (e0:w.cell? ⟨b,o+(n+2)*2,none⟩=some (.int .i64 op3)) (e1:w.cell? ⟨b,o+(n+2)*2+1,none⟩=some (.int .i64 a3)) (h3:3<=long) (sb0:b<w.heap.size) (sb1:b<w.heap.size+1) (sb2:b<w.heap.size+1+1) (sb3:b<w.heap.size+1+1+1) (sb4:b<w.heap.size+1+1+1+1) (sb5:b<w.heap.size+1+1+1+1+1) (sc01:w.heap.size<w.heap.size+1) (sc02:w.heap.size<w.heap.size+1+1) (sc03:w.heap.size<w.heap.size+1+1+1) (sc04:w.heap.size<w.heap.size+1+1+1+1) (sc05:w.heap.size<w.heap.size+1+1+1+1+1) (sc12:w.heap.size+1<w.heap.size+1+1) (sc13:w.heap.size+1<w.heap.size+1+1+1) (sc14:w.heap.size+1<w.heap.size+1+1+1+1) (sc15:w.heap.size+1<w.heap.size+1+1+1+1+1) (sc23:w.heap.size+1+1<w.heap.size+1+1+1) (sc24:w.heap.size+1+1<w.heap.size+1+1+1+1) (sc25:w.heap.size+1+1<w.heap.size+1+1+1+1+1) (sc34:w.heap.size+1+1+1<w.heap.size+1+1+1+1) (sc35:w.heap.size+1+1+1<w.heap.size+1+1+1+1+1) (H1:Hid (∀ w,Calls Try.prog 83 #[.int .i64 3] w fun e w'=>e = .returned (.bool false)/\∃ c,w'=w.alloc (.cells c 159))) (H2:Hid (∀ w,Calls Try.prog 86 #[.int .i64 op3] w fun e w'=>e = .returned (.bool true)/\∃ c,w'=w.alloc (.cells c 159))) (HT:Hid (∀ w,Calls Try.prog 87 #[.int .i64 op3,.int .i64 aa,.int .i64 bb] w fun e w'=>e = .returned (.tuple #[.int .i64 vv,.int .i64 tt])/\∃ n,w'=w.drewN n)) (hw1:IntKind.i64.wrap ((n:Int)+1)=(n:Int)+1) (hw2:IntKind.i64.wrap ((n:Int)+2)=(n:Int)+2) (zt:(tt == 0)=false) :
 Calls Try.prog 67 #[.slice (some ⟨b,o,none⟩) len cap,.int .i64 n,.int .i64 long] w (Zm w none):=by
 go_enter Try.func67,Try.ntmps67
 go_wp2_with (first
  | (go_at_call 83;refine (H1.out _).mono ?_;rintro e w' ⟨rfl,cw1,rfl⟩)
  | (go_at_call 86;refine (H2.out _).mono ?_;rintro e w' ⟨rfl,cw2,rfl⟩))
 go_quiet ((go_at_call 87;exact Calls.quiet_of (HT.out _)))
 go_wp2_with (first
  | (go_at_call 85;refine (Zdf _ _).mono ?_;rintro e w' ⟨rfl,rfl⟩))
 ((refine bodyPost_ret (v := .tuple #[.agg #[.int .i64 0,.slice none 0 0,.int .i64 0],.bool false]) ?_ rfl ⟨?_,0,0,none,0,0,rfl⟩);(focus (rw [results_cell_tmp rfl];go_simp));(repeat (first|exact Zc _ _|exact Ga _ _ _|refine Za ?_ (Ga _ _ _)|refine Zf ?_ _|refine Ze ?_|(refine Zd ?_ (by simp;omega))|(refine Zd ?_ (by simp)))))
theorem Xgb (hbw:b<w.heap.size) (q1:(n:Int)<(len:Int)) (ql:(len:Int)<=4096) (c0:w.cell? ⟨b,o+n*2,none⟩=some (.int .i64 3)) (c1:w.cell? ⟨b,o+n*2+1,none⟩=some (.int .i64 x.toInt)) (q2:(n:Int)+1<(len:Int)) (d0:w.cell? ⟨b,o+(n+1)*2,none⟩=some (.int .i64 3)) (d1:w.cell? ⟨b,o+(n+1)*2+1,none⟩=some (.int .i64 y.toInt)) (h2:2<=long) (q3:(n:Int)+2<(len:Int)) (e0:w.cell? ⟨b,o+(n+2)*2,none⟩=some (.int .i64 op3)) (e1:w.cell? ⟨b,o+(n+2)*2+1,none⟩=some (.int .i64 a3)) (h3:3<=long) (h1:CW.opn op3=2) (hr:(CW.two op3 x y).2≠0) :
 Calls Try.prog 67 #[.slice (some ⟨b,o,none⟩) len cap,.int .i64 n,.int .i64 long] w (Zm w none):=Xeb (b:=b) (o:=o) (n:=n) (len:=len) (cap:=cap) (long:=long) (w:=w) (aa:=x.toInt) (bb:=y.toInt) (vv:=(CW.two op3 x y).1.toInt) (tt:=(CW.two op3 x y).2) (hbw:=hbw) (q1:=q1) (ql:=ql) (c0:=c0) (c1:=c1) (q2:=q2) (d0:=d0) (d1:=d1) (h2:=h2) (q3:=q3) (e0:=e0) (e1:=e1) (h3:=h3) (sb0:=(by omega)) (sb1:=(by omega)) (sb2:=(by omega)) (sb3:=(by omega)) (sb4:=(by omega)) (sb5:=(by omega)) (sc01:=(by omega)) (sc02:=(by omega)) (sc03:=(by omega)) (sc04:=(by omega)) (sc05:=(by omega)) (sc12:=(by omega)) (sc13:=(by omega)) (sc14:=(by omega)) (sc15:=(by omega)) (sc23:=(by omega)) (sc24:=(by omega)) (sc25:=(by omega)) (sc34:=(by omega)) (sc35:=(by omega)) (H1:=((Hq fun w=>by have:=CW.Zjd 3 w;rw [show (CW.opn 3 == 1)=false by decide] at this;exact this))) (H2:=((Hq fun w=>by have:=CW.Zsf op3 w;rw [h1] at this;exact this))) (HT:=((Hq fun w=>CW.Zqg op3 x y w))) (hw1:=(IntWalk.i64_in _ (by omega))) (hw2:=(IntWalk.i64_in _ (by omega))) (zt:=(by simpa using hr))
end
end Go.Proofs.Ythlkflagancdfaa.OT
