/-
  Part of a proof: contracts of functions and lemmas, each stated by its own theorem. Conditions: as each theorem states.
-/
import Derived.Test.YthlkflagancdfaaMK02
set_option linter.unusedSimpArgs false
set_option linter.unusedVariables false
set_option maxRecDepth 100000
set_option maxHeartbeats 16000000
namespace Go.Proofs.Ythlkflagancdfaa.OT
open Go.RowKit Go.Great
open Go.Proofs.Ythlkflagancdfaa.CK
section
variable (b o n len cap:Nat) (op a op2 a2 op3 a3 long:Int) (x y r:BitVec 64) (w:World)
theorem Ynz (hbw:b<w.heap.size) (q1:(n:Int)<(len:Int)) (ql:(len:Int)<=4096) (c0:w.cell? ⟨b,o+n*2,none⟩=some (.int .i64 3)) (c1:w.cell? ⟨b,o+n*2+1,none⟩=some (.int .i64 0)) (q2:(n:Int)+1<(len:Int)) (d0:w.cell? ⟨b,o+(n+1)*2,none⟩=some (.int .i64 30)) (d1:w.cell? ⟨b,o+(n+1)*2+1,none⟩=some (.int .i64 a2)) (h2:2<=long)  :
 Calls Try.prog 67 #[.slice (some ⟨b,o,none⟩) len cap,.int .i64 n,.int .i64 long] w (Zm w (some ⟨2,[],4⟩)):=by
 obtain ⟨⟨sb0,sb1,sb2,sb3,sb4,sb5⟩,⟨sc01,sc02,sc03,sc04,sc05⟩,⟨sc12,sc13,sc14,sc15⟩,⟨sc23,sc24,sc25⟩,sc34,sc35⟩:=Xu hbw
 have H1:=nh1 30 (by decide)
 go_enter Try.func67,Try.ntmps67
 go_wp2_with (go_at_call 83;refine (H1.out _).mono ?_;rintro e w' ⟨rfl,cw1,rfl⟩)
 all_goals go_region
 all_goals go_wp2
 all_goals
  refine bodyPost_ret (v := .tuple #[.agg #[.int .i64 2,.slice none 0 0,.int .i64 4],.bool true]) ?_ rfl ⟨?_,none,0,rfl,fun _=>rfl,fun h=>absurd h (by decide)⟩
  · rw [results_cell_tmp rfl]
    go_simp
  · (repeat (first|exact Zc _ _|exact Ga _ _ _|refine Za ?_ (Ga _ _ _)|refine Zf ?_ _|refine Ze ?_|(refine Zd ?_ (by simp;omega))|(refine Zd ?_ (by simp))))
theorem Yha (hbw:b<w.heap.size) (q1:(n:Int)<(len:Int)) (ql:(len:Int)<=4096) (c0:w.cell? ⟨b,o+n*2,none⟩=some (.int .i64 3)) (c1:w.cell? ⟨b,o+n*2+1,none⟩=some (.int .i64 a)) (q2:(n:Int)+1<(len:Int)) (d0:w.cell? ⟨b,o+(n+1)*2,none⟩=some (.int .i64 30)) (d1:w.cell? ⟨b,o+(n+1)*2+1,none⟩=some (.int .i64 a2)) (h2:2<=long) (h:a≠0) :
 Calls Try.prog 67 #[.slice (some ⟨b,o,none⟩) len cap,.int .i64 n,.int .i64 long] w (Zm w none):=by
 obtain ⟨⟨sb0,sb1,sb2,sb3,sb4,sb5⟩,⟨sc01,sc02,sc03,sc04,sc05⟩,⟨sc12,sc13,sc14,sc15⟩,⟨sc23,sc24,sc25⟩,sc34,sc35⟩:=Xu hbw
 have H1:=nh1 30 (by decide)
 have z0:(a == 0)=false:=by simpa using h
 clear h
 go_enter Try.func67,Try.ntmps67
 go_wp2_with (go_at_call 83;refine (H1.out _).mono ?_;rintro e w' ⟨rfl,cw1,rfl⟩)
 all_goals go_region
 all_goals go_wp2
 all_goals
  refine bodyPost_ret (v := .tuple #[.agg #[.int .i64 2,.slice none 0 0,.int .i64 4],.bool false]) ?_ rfl ⟨?_,_,_,_,_,_,rfl⟩
  · rw [results_cell_tmp rfl]
    go_simp
  · (repeat (first|exact Zc _ _|exact Ga _ _ _|refine Za ?_ (Ga _ _ _)|refine Zf ?_ _|refine Ze ?_|(refine Zd ?_ (by simp;omega))|(refine Zd ?_ (by simp))))
theorem Yof (hbw:b<w.heap.size) (q1:(n:Int)<(len:Int)) (ql:(len:Int)<=4096) (c0:w.cell? ⟨b,o+n*2,none⟩=some (.int .i64 3)) (c1:w.cell? ⟨b,o+n*2+1,none⟩=some (.int .i64 1)) (q2:(n:Int)+1<(len:Int)) (d0:w.cell? ⟨b,o+(n+1)*2,none⟩=some (.int .i64 22)) (d1:w.cell? ⟨b,o+(n+1)*2+1,none⟩=some (.int .i64 a2)) (h2:2<=long)  :
 Calls Try.prog 67 #[.slice (some ⟨b,o,none⟩) len cap,.int .i64 n,.int .i64 long] w (Zm w (some ⟨2,[],4⟩)):=by
 obtain ⟨⟨sb0,sb1,sb2,sb3,sb4,sb5⟩,⟨sc01,sc02,sc03,sc04,sc05⟩,⟨sc12,sc13,sc14,sc15⟩,⟨sc23,sc24,sc25⟩,sc34,sc35⟩:=Xu hbw
 have H1:=nh1 22 (by decide)
 go_enter Try.func67,Try.ntmps67
 go_wp2_with (go_at_call 83;refine (H1.out _).mono ?_;rintro e w' ⟨rfl,cw1,rfl⟩)
 all_goals go_region
 all_goals go_wp2
 all_goals
  refine bodyPost_ret (v := .tuple #[.agg #[.int .i64 2,.slice none 0 0,.int .i64 4],.bool true]) ?_ rfl ⟨?_,none,0,rfl,fun _=>rfl,fun h=>absurd h (by decide)⟩
  · rw [results_cell_tmp rfl]
    go_simp
  · (repeat (first|exact Zc _ _|exact Ga _ _ _|refine Za ?_ (Ga _ _ _)|refine Zf ?_ _|refine Ze ?_|(refine Zd ?_ (by simp;omega))|(refine Zd ?_ (by simp))))
theorem Yhg (hbw:b<w.heap.size) (q1:(n:Int)<(len:Int)) (ql:(len:Int)<=4096) (c0:w.cell? ⟨b,o+n*2,none⟩=some (.int .i64 3)) (c1:w.cell? ⟨b,o+n*2+1,none⟩=some (.int .i64 a)) (q2:(n:Int)+1<(len:Int)) (d0:w.cell? ⟨b,o+(n+1)*2,none⟩=some (.int .i64 22)) (d1:w.cell? ⟨b,o+(n+1)*2+1,none⟩=some (.int .i64 a2)) (h2:2<=long) (h:a≠1) :
 Calls Try.prog 67 #[.slice (some ⟨b,o,none⟩) len cap,.int .i64 n,.int .i64 long] w (Zm w none):=by
 obtain ⟨⟨sb0,sb1,sb2,sb3,sb4,sb5⟩,⟨sc01,sc02,sc03,sc04,sc05⟩,⟨sc12,sc13,sc14,sc15⟩,⟨sc23,sc24,sc25⟩,sc34,sc35⟩:=Xu hbw
 have H1:=nh1 22 (by decide)
 have z0:(a == 1)=false:=by simpa using h
 clear h
 go_enter Try.func67,Try.ntmps67
 go_wp2_with (go_at_call 83;refine (H1.out _).mono ?_;rintro e w' ⟨rfl,cw1,rfl⟩)
 all_goals go_region
 all_goals go_wp2
 all_goals
  refine bodyPost_ret (v := .tuple #[.agg #[.int .i64 2,.slice none 0 0,.int .i64 4],.bool false]) ?_ rfl ⟨?_,_,_,_,_,_,rfl⟩
  · rw [results_cell_tmp rfl]
    go_simp
  · (repeat (first|exact Zc _ _|exact Ga _ _ _|refine Za ?_ (Ga _ _ _)|refine Zf ?_ _|refine Ze ?_|(refine Zd ?_ (by simp;omega))|(refine Zd ?_ (by simp))))
theorem Yoe (hbw:b<w.heap.size) (q1:(n:Int)<(len:Int)) (ql:(len:Int)<=4096) (c0:w.cell? ⟨b,o+n*2,none⟩=some (.int .i64 3)) (c1:w.cell? ⟨b,o+n*2+1,none⟩=some (.int .i64 1)) (q2:(n:Int)+1<(len:Int)) (d0:w.cell? ⟨b,o+(n+1)*2,none⟩=some (.int .i64 23)) (d1:w.cell? ⟨b,o+(n+1)*2+1,none⟩=some (.int .i64 a2)) (h2:2<=long)  :
 Calls Try.prog 67 #[.slice (some ⟨b,o,none⟩) len cap,.int .i64 n,.int .i64 long] w (Zm w (some ⟨2,[],4⟩)):=by
 obtain ⟨⟨sb0,sb1,sb2,sb3,sb4,sb5⟩,⟨sc01,sc02,sc03,sc04,sc05⟩,⟨sc12,sc13,sc14,sc15⟩,⟨sc23,sc24,sc25⟩,sc34,sc35⟩:=Xu hbw
 have H1:=nh1 23 (by decide)
 go_enter Try.func67,Try.ntmps67
 go_wp2_with (go_at_call 83;refine (H1.out _).mono ?_;rintro e w' ⟨rfl,cw1,rfl⟩)
 all_goals go_region
 all_goals go_wp2
 all_goals
  refine bodyPost_ret (v := .tuple #[.agg #[.int .i64 2,.slice none 0 0,.int .i64 4],.bool true]) ?_ rfl ⟨?_,none,0,rfl,fun _=>rfl,fun h=>absurd h (by decide)⟩
  · rw [results_cell_tmp rfl]
    go_simp
  · (repeat (first|exact Zc _ _|exact Ga _ _ _|refine Za ?_ (Ga _ _ _)|refine Zf ?_ _|refine Ze ?_|(refine Zd ?_ (by simp;omega))|(refine Zd ?_ (by simp))))
theorem Yhf (hbw:b<w.heap.size) (q1:(n:Int)<(len:Int)) (ql:(len:Int)<=4096) (c0:w.cell? ⟨b,o+n*2,none⟩=some (.int .i64 3)) (c1:w.cell? ⟨b,o+n*2+1,none⟩=some (.int .i64 a)) (q2:(n:Int)+1<(len:Int)) (d0:w.cell? ⟨b,o+(n+1)*2,none⟩=some (.int .i64 23)) (d1:w.cell? ⟨b,o+(n+1)*2+1,none⟩=some (.int .i64 a2)) (h2:2<=long) (h:a≠1) :
 Calls Try.prog 67 #[.slice (some ⟨b,o,none⟩) len cap,.int .i64 n,.int .i64 long] w (Zm w none):=by
 obtain ⟨⟨sb0,sb1,sb2,sb3,sb4,sb5⟩,⟨sc01,sc02,sc03,sc04,sc05⟩,⟨sc12,sc13,sc14,sc15⟩,⟨sc23,sc24,sc25⟩,sc34,sc35⟩:=Xu hbw
 have H1:=nh1 23 (by decide)
 have z0:(a == 1)=false:=by simpa using h
 clear h
 go_enter Try.func67,Try.ntmps67
 go_wp2_with (go_at_call 83;refine (H1.out _).mono ?_;rintro e w' ⟨rfl,cw1,rfl⟩)
 all_goals go_region
 all_goals go_wp2
 all_goals
  refine bodyPost_ret (v := .tuple #[.agg #[.int .i64 2,.slice none 0 0,.int .i64 4],.bool false]) ?_ rfl ⟨?_,_,_,_,_,_,rfl⟩
  · rw [results_cell_tmp rfl]
    go_simp
  · (repeat (first|exact Zc _ _|exact Ga _ _ _|refine Za ?_ (Ga _ _ _)|refine Zf ?_ _|refine Ze ?_|(refine Zd ?_ (by simp;omega))|(refine Zd ?_ (by simp))))
end
end Go.Proofs.Ythlkflagancdfaa.OT
