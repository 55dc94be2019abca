/-
  Part of a proof: contracts of functions and lemmas, each stated by its own theorem. Conditions: as each theorem states.
-/
import Derived.Test.YthlkflagancdfaaMK02
set_option linter.unusedSimpArgs false
set_option linter.unusedVariables false
set_option maxRecDepth 100000
set_option maxHeartbeats 16000000
namespace Go.Proofs.Ythlkflagancdfaa.OT
open Go.RowKit Go.Great
open Go.Proofs.Ythlkflagancdfaa.CK
section
variable (b o n len cap:Nat) (op a op2 a2 op3 a3 long:Int) (x y r:BitVec 64) (w:World)
theorem Yko {w:World} {B:Nat} {p:Option Addr} {c:List Ins} (h:Xz w B p c):Xz w.drew B p c:=h
theorem Xdw (hbw:b<w.heap.size) (q1:(n:Int)<(len:Int)) (ql:(len:Int)<=4096) (c0:w.cell? ⟨b,o+n*2,none⟩=some (.int .i64 5)) (c1:w.cell? ⟨b,o+n*2+1,none⟩=some (.int .i64 0)) (q2:(n:Int)+1<(len:Int)) (d0:w.cell? ⟨b,o+(n+1)*2,none⟩=some (.int .i64 6)) (d1:w.cell? ⟨b,o+(n+1)*2+1,none⟩=some (.int .i64 a2)) (h2:2<=long)  :
 Calls Try.prog 68 #[.slice (some ⟨b,o,none⟩) len cap,.int .i64 n,.int .i64 long] w (Zm w (some ⟨2,[(5,0)],5⟩)):=by
 obtain ⟨⟨sb0,sb1,sb2,sb3,sb4,sb5⟩,⟨sc01,sc02,sc03,sc04,sc05⟩,⟨sc12,sc13,sc14,sc15⟩,⟨sc23,sc24,sc25⟩,sc34,sc35⟩:=Xu hbw
 go_enter Try.func68,Try.ntmps68
 go_wp2
 go_region
 all_goals go_wp2_with (refine wpList_buildSliceTo rfl 50 49 1 _ rfl _ rfl (some 57) rfl Try.underlying50 #[.int .i64 5,.int .i64 0] (by kernel_rfl) ?_)
 all_goals
  refine bodyPost_ret (v := .tuple #[.agg #[.int .i64 2,.slice (some ⟨w.heap.size+1+1+1+1,0,none⟩) 1 1,.int .i64 5],.bool true]) ?_ rfl ⟨?_,some ⟨w.heap.size+1+1+1+1,0,none⟩,1,rfl,(fun h=>by cases h),?_⟩
  · rw [results_cell_tmp rfl]
    go_simp
  · (repeat (first|exact Zc _ _|exact Ga _ _ _|refine Za ?_ (Ga _ _ _)|refine Zf ?_ _|refine Ze ?_|(refine Zd ?_ (by simp;omega))|(refine Zd ?_ (by simp))))
  · refine Yko (Zdu (x:=(5,0)) ?_ rfl rfl)
    simp
theorem Xdv (hbw:b<w.heap.size) (q1:(n:Int)<(len:Int)) (ql:(len:Int)<=4096) (c0:w.cell? ⟨b,o+n*2,none⟩=some (.int .i64 5)) (c1:w.cell? ⟨b,o+n*2+1,none⟩=some (.int .i64 a)) (q2:(n:Int)+1<(len:Int)) (d0:w.cell? ⟨b,o+(n+1)*2,none⟩=some (.int .i64 4)) (d1:w.cell? ⟨b,o+(n+1)*2+1,none⟩=some (.int .i64 a2)) (h2:2<=long)  :
 Calls Try.prog 68 #[.slice (some ⟨b,o,none⟩) len cap,.int .i64 n,.int .i64 long] w (Zm w (some ⟨2,[],5⟩)):=by
 obtain ⟨⟨sb0,sb1,sb2,sb3,sb4,sb5⟩,⟨sc01,sc02,sc03,sc04,sc05⟩,⟨sc12,sc13,sc14,sc15⟩,⟨sc23,sc24,sc25⟩,sc34,sc35⟩:=Xu hbw
 go_enter Try.func68,Try.ntmps68
 go_wp2
 go_region
 all_goals go_wp2
 all_goals go_region
 all_goals go_wp2
 all_goals
  refine bodyPost_ret (v := .tuple #[.agg #[.int .i64 2,.slice none 0 0,.int .i64 5],.bool true]) ?_ rfl ⟨?_,none,0,rfl,fun _=>rfl,fun h=>absurd h (by decide)⟩
  · rw [results_cell_tmp rfl]
    go_simp
  · (repeat (first|exact Zc _ _|exact Ga _ _ _|refine Za ?_ (Ga _ _ _)|refine Zf ?_ _|refine Ze ?_|(refine Zd ?_ (by simp;omega))|(refine Zd ?_ (by simp))))
theorem Xdx (hbw:b<w.heap.size) (q1:(n:Int)<(len:Int)) (ql:(len:Int)<=4096) (c0:w.cell? ⟨b,o+n*2,none⟩=some (.int .i64 5)) (c1:w.cell? ⟨b,o+n*2+1,none⟩=some (.int .i64 0)) (q2:(n:Int)+1<(len:Int)) (d0:w.cell? ⟨b,o+(n+1)*2,none⟩=some (.int .i64 op2)) (d1:w.cell? ⟨b,o+(n+1)*2+1,none⟩=some (.int .i64 a2)) (h2:2<=long) (h:op2≠4) (h6:op2≠6) :
 Calls Try.prog 68 #[.slice (some ⟨b,o,none⟩) len cap,.int .i64 n,.int .i64 long] w (Zm w none):=by
 obtain ⟨⟨sb0,sb1,sb2,sb3,sb4,sb5⟩,⟨sc01,sc02,sc03,sc04,sc05⟩,⟨sc12,sc13,sc14,sc15⟩,⟨sc23,sc24,sc25⟩,sc34,sc35⟩:=Xu hbw
 have z4:(op2 == 4)=false:=by simpa using h
 have z6:(op2 == 6)=false:=by simpa using h6
 clear h h6
 go_enter Try.func68,Try.ntmps68
 go_wp2
 go_region
 all_goals go_wp2
 all_goals go_region
 all_goals go_wp2
 all_goals
  refine bodyPost_ret (v := .tuple #[.agg #[.int .i64 2,.slice none 0 0,.int .i64 5],.bool false]) ?_ rfl ⟨?_,_,_,_,_,_,rfl⟩
  · rw [results_cell_tmp rfl]
    go_simp
  · (repeat (first|exact Zc _ _|exact Ga _ _ _|refine Za ?_ (Ga _ _ _)|refine Zf ?_ _|refine Ze ?_|(refine Zd ?_ (by simp;omega))|(refine Zd ?_ (by simp))))
theorem Xdy (hbw:b<w.heap.size) (q1:(n:Int)<(len:Int)) (ql:(len:Int)<=4096) (c0:w.cell? ⟨b,o+n*2,none⟩=some (.int .i64 5)) (c1:w.cell? ⟨b,o+n*2+1,none⟩=some (.int .i64 a)) (q2:(n:Int)+1<(len:Int)) (d0:w.cell? ⟨b,o+(n+1)*2,none⟩=some (.int .i64 op2)) (d1:w.cell? ⟨b,o+(n+1)*2+1,none⟩=some (.int .i64 a2)) (h2:2<=long) (h:op2≠4) (h0:a≠0) :
 Calls Try.prog 68 #[.slice (some ⟨b,o,none⟩) len cap,.int .i64 n,.int .i64 long] w (Zm w none):=by
 obtain ⟨⟨sb0,sb1,sb2,sb3,sb4,sb5⟩,⟨sc01,sc02,sc03,sc04,sc05⟩,⟨sc12,sc13,sc14,sc15⟩,⟨sc23,sc24,sc25⟩,sc34,sc35⟩:=Xu hbw
 have z4:(op2 == 4)=false:=by simpa using h
 have z0:(a == 0)=false:=by simpa using h0
 clear h h0
 go_enter Try.func68,Try.ntmps68
 go_wp2
 go_region
 all_goals go_wp2
 all_goals go_region
 all_goals go_wp2
 all_goals
  refine bodyPost_ret (v := .tuple #[.agg #[.int .i64 2,.slice none 0 0,.int .i64 5],.bool false]) ?_ rfl ⟨?_,_,_,_,_,_,rfl⟩
  · rw [results_cell_tmp rfl]
    go_simp
  · (repeat (first|exact Zc _ _|exact Ga _ _ _|refine Za ?_ (Ga _ _ _)|refine Zf ?_ _|refine Ze ?_|(refine Zd ?_ (by simp;omega))|(refine Zd ?_ (by simp))))
end
end Go.Proofs.Ythlkflagancdfaa.OT
