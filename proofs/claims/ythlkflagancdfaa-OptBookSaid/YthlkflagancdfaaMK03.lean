/-
  Part of a proof: contracts of functions and lemmas, each stated by its own theorem. Conditions: as each theorem states.
-/
import Derived.Test.YthlkflagancdfaaMK02
set_option linter.unusedSimpArgs false
set_option linter.unusedVariables false
set_option maxRecDepth 100000
set_option maxHeartbeats 16000000
namespace Go.Proofs.Ythlkflagancdfaa.OT
open Go.RowKit Go.Great
open Go.Proofs.Ythlkflagancdfaa.CK
section
variable (b o n len cap:Nat) (op a op2 a2 op3 a3 long:Int) (x y r:BitVec 64) (w:World)
theorem Xgg (hbw:b<w.heap.size) (q1:(n:Int)<(len:Int)) (ql:(len:Int)<=4096) (c0:w.cell? ⟨b,o+n*2,none⟩=some (.int .i64 op)) (c1:w.cell? ⟨b,o+n*2+1,none⟩=some (.int .i64 a)) (h:op≠3) :
 Calls Try.prog 67 #[.slice (some ⟨b,o,none⟩) len cap,.int .i64 n,.int .i64 long] w (Zm w none):=by
 have z0:(op != 3)=true:=by simpa using h
 clear h
 go_enter Try.func67,Try.ntmps67
 go_wp2
 ((refine bodyPost_ret (v := .tuple #[.agg #[.int .i64 0,.slice none 0 0,.int .i64 0],.bool false]) ?_ rfl ⟨?_,0,0,none,0,0,rfl⟩);(focus (rw [results_cell_tmp rfl];go_simp));(repeat (first|exact Zc _ _|exact Ga _ _ _|refine Za ?_ (Ga _ _ _)|refine Zf ?_ _|refine Ze ?_|(refine Zd ?_ (by simp;omega))|(refine Zd ?_ (by simp)))))
theorem Xgf (hbw:b<w.heap.size) (q1:(n:Int)<(len:Int)) (ql:(len:Int)<=4096) (c0:w.cell? ⟨b,o+n*2,none⟩=some (.int .i64 3)) (c1:w.cell? ⟨b,o+n*2+1,none⟩=some (.int .i64 a)) (h:long<2) :
 Calls Try.prog 67 #[.slice (some ⟨b,o,none⟩) len cap,.int .i64 n,.int .i64 long] w (Zm w none):=by
 go_enter Try.func67,Try.ntmps67
 go_wp2
 ((refine bodyPost_ret (v := .tuple #[.agg #[.int .i64 0,.slice none 0 0,.int .i64 0],.bool false]) ?_ rfl ⟨?_,0,0,none,0,0,rfl⟩);(focus (rw [results_cell_tmp rfl];go_simp));(repeat (first|exact Zc _ _|exact Ga _ _ _|refine Za ?_ (Ga _ _ _)|refine Zf ?_ _|refine Ze ?_|(refine Zd ?_ (by simp;omega))|(refine Zd ?_ (by simp)))))
theorem Xei (hbw:b<w.heap.size) (q1:(n:Int)<(len:Int)) (ql:(len:Int)<=4096) (c0:w.cell? ⟨b,o+n*2,none⟩=some (.int .i64 3)) (c1:w.cell? ⟨b,o+n*2+1,none⟩=some (.int .i64 0)) (q2:(n:Int)+1<(len:Int)) (d0:w.cell? ⟨b,o+(n+1)*2,none⟩=some (.int .i64 15)) (d1:w.cell? ⟨b,o+(n+1)*2+1,none⟩=some (.int .i64 a2)) (h2:2<=long)  :
 Calls Try.prog 67 #[.slice (some ⟨b,o,none⟩) len cap,.int .i64 n,.int .i64 long] w (Zm w (some ⟨2,[(14,a2)],4⟩)):=by
 go_enter Try.func67,Try.ntmps67
 go_wp2_with (first
  | (refine wpList_buildSliceTo rfl 50 49 1 _ rfl _ rfl (some 51) rfl Try.underlying50 #[.int .i64 14,.int .i64 a2] (by kernel_rfl) ?_))
 refine bodyPost_ret (v := .tuple #[.agg #[.int .i64 2,.slice (some ⟨w.heap.size+1+1+1,0,none⟩) 1 1,.int .i64 4],.bool true]) ?_ rfl ⟨?_,some ⟨w.heap.size+1+1+1,0,none⟩,1,rfl,(fun h=>by cases h),?_⟩
 · rw [results_cell_tmp rfl]
   go_simp
 · (repeat (first|exact Zc _ _|exact Ga _ _ _|refine Za ?_ (Ga _ _ _)|refine Zf ?_ _|refine Ze ?_|(refine Zd ?_ (by simp;omega))|(refine Zd ?_ (by simp))))
 · refine Zdu (x:=(14,a2)) ?_ rfl rfl
   simp
theorem Xeh (hbw:b<w.heap.size) (q1:(n:Int)<(len:Int)) (ql:(len:Int)<=4096) (c0:w.cell? ⟨b,o+n*2,none⟩=some (.int .i64 3)) (c1:w.cell? ⟨b,o+n*2+1,none⟩=some (.int .i64 a)) (q2:(n:Int)+1<(len:Int)) (d0:w.cell? ⟨b,o+(n+1)*2,none⟩=some (.int .i64 16)) (d1:w.cell? ⟨b,o+(n+1)*2+1,none⟩=some (.int .i64 a2)) (h2:2<=long) (h:a≠0) :
 Calls Try.prog 67 #[.slice (some ⟨b,o,none⟩) len cap,.int .i64 n,.int .i64 long] w (Zm w (some ⟨2,[(14,a2)],4⟩)):=by
 have z0:(a == 0)=false:=by simpa using h
 clear h
 go_enter Try.func67,Try.ntmps67
 go_wp2_with (first
  | (refine wpList_buildSliceTo rfl 50 49 1 _ rfl _ rfl (some 51) rfl Try.underlying50 #[.int .i64 14,.int .i64 a2] (by kernel_rfl) ?_))
 refine bodyPost_ret (v := .tuple #[.agg #[.int .i64 2,.slice (some ⟨w.heap.size+1+1+1,0,none⟩) 1 1,.int .i64 4],.bool true]) ?_ rfl ⟨?_,some ⟨w.heap.size+1+1+1,0,none⟩,1,rfl,(fun h=>by cases h),?_⟩
 · rw [results_cell_tmp rfl]
   go_simp
 · (repeat (first|exact Zc _ _|exact Ga _ _ _|refine Za ?_ (Ga _ _ _)|refine Zf ?_ _|refine Ze ?_|(refine Zd ?_ (by simp;omega))|(refine Zd ?_ (by simp))))
 · refine Zdu (x:=(14,a2)) ?_ rfl rfl
   simp
theorem Xeg (hbw:b<w.heap.size) (q1:(n:Int)<(len:Int)) (ql:(len:Int)<=4096) (c0:w.cell? ⟨b,o+n*2,none⟩=some (.int .i64 3)) (c1:w.cell? ⟨b,o+n*2+1,none⟩=some (.int .i64 a)) (q2:(n:Int)+1<(len:Int)) (d0:w.cell? ⟨b,o+(n+1)*2,none⟩=some (.int .i64 15)) (d1:w.cell? ⟨b,o+(n+1)*2+1,none⟩=some (.int .i64 a2)) (h2:2<=long) (h:a≠0) :
 Calls Try.prog 67 #[.slice (some ⟨b,o,none⟩) len cap,.int .i64 n,.int .i64 long] w (Zm w (some ⟨2,[],4⟩)):=by
 have z0:(a == 0)=false:=by simpa using h
 clear h
 go_enter Try.func67,Try.ntmps67
 go_wp2
 refine bodyPost_ret (v := .tuple #[.agg #[.int .i64 2,.slice none 0 0,.int .i64 4],.bool true]) ?_ rfl ⟨?_,none,0,rfl,fun _=>rfl,fun h=>absurd h (by decide)⟩
 · rw [results_cell_tmp rfl]
   go_simp
 · (repeat (first|exact Zc _ _|exact Ga _ _ _|refine Za ?_ (Ga _ _ _)|refine Zf ?_ _|refine Ze ?_|(refine Zd ?_ (by simp;omega))|(refine Zd ?_ (by simp))))
theorem Xef (hbw:b<w.heap.size) (q1:(n:Int)<(len:Int)) (ql:(len:Int)<=4096) (c0:w.cell? ⟨b,o+n*2,none⟩=some (.int .i64 3)) (c1:w.cell? ⟨b,o+n*2+1,none⟩=some (.int .i64 0)) (q2:(n:Int)+1<(len:Int)) (d0:w.cell? ⟨b,o+(n+1)*2,none⟩=some (.int .i64 16)) (d1:w.cell? ⟨b,o+(n+1)*2+1,none⟩=some (.int .i64 a2)) (h2:2<=long)  :
 Calls Try.prog 67 #[.slice (some ⟨b,o,none⟩) len cap,.int .i64 n,.int .i64 long] w (Zm w (some ⟨2,[],4⟩)):=by
 go_enter Try.func67,Try.ntmps67
 go_wp2
 refine bodyPost_ret (v := .tuple #[.agg #[.int .i64 2,.slice none 0 0,.int .i64 4],.bool true]) ?_ rfl ⟨?_,none,0,rfl,fun _=>rfl,fun h=>absurd h (by decide)⟩
 · rw [results_cell_tmp rfl]
   go_simp
 · (repeat (first|exact Zc _ _|exact Ga _ _ _|refine Za ?_ (Ga _ _ _)|refine Zf ?_ _|refine Ze ?_|(refine Zd ?_ (by simp;omega))|(refine Zd ?_ (by simp))))
end
section
variable (b o n len cap:Nat) (op a op2 a2 op3 a3 long:Int) (x y r:BitVec 64) (w:World)
theorem Xee (aa:Int) (vv:Int) (hbw:b<w.heap.size) (q1:(n:Int)<(len:Int)) (ql:(len:Int)<=4096) (c0:w.cell? ⟨b,o+n*2,none⟩=some (.int .i64 3)) (c1:w.cell? ⟨b,o+n*2+1,none⟩=some (.int .i64 aa)) (q2:(n:Int)+1<(len:Int)) (d0:w.cell? ⟨b,o+(n+1)*2,none⟩=some (.int .i64 op2)) (d1:w.cell? ⟨b,o+(n+1)*2+1,none⟩=some (.int .i64 a2)) (h2:2<=long) (sb0:b<w.heap.size) (sb1:b<w.heap.size+1) (sb2:b<w.heap.size+1+1) (sb3:b<w.heap.size+1+1+1) (sb4:b<w.heap.size+1+1+1+1) (sb5:b<w.heap.size+1+1+1+1+1) (sc01:w.heap.size<w.heap.size+1) (sc02:w.heap.size<w.heap.size+1+1) (sc03:w.heap.size<w.heap.size+1+1+1) (sc04:w.heap.size<w.heap.size+1+1+1+1) (sc05:w.heap.size<w.heap.size+1+1+1+1+1) (sc12:w.heap.size+1<w.heap.size+1+1) (sc13:w.heap.size+1<w.heap.size+1+1+1) (sc14:w.heap.size+1<w.heap.size+1+1+1+1) (sc15:w.heap.size+1<w.heap.size+1+1+1+1+1) (sc23:w.heap.size+1+1<w.heap.size+1+1+1) (sc24:w.heap.size+1+1<w.heap.size+1+1+1+1) (sc25:w.heap.size+1+1<w.heap.size+1+1+1+1+1) (sc34:w.heap.size+1+1+1<w.heap.size+1+1+1+1) (sc35:w.heap.size+1+1+1<w.heap.size+1+1+1+1+1) (z15:(op2 == 15)=false) (z16:(op2 == 16)=false) (H1:Hid (∀ w,Calls Try.prog 83 #[.int .i64 op2] w fun e w'=>e = .returned (.bool true)/\∃ c,w'=w.alloc (.cells c 159))) (HO:Hid (∀ w,Calls Try.prog 84 #[.int .i64 op2,.int .i64 aa] w fun e w'=>e = .returned (.tuple #[.int .i64 vv,.int .i64 0])/\∃ n,w'=w.drewN n)) :
 Calls Try.prog 67 #[.slice (some ⟨b,o,none⟩) len cap,.int .i64 n,.int .i64 long] w (Zm w (some ⟨2,[(3,vv)],4⟩)):=by
 go_enter Try.func67,Try.ntmps67
 go_wp2_with (first
  | (go_at_call 83;refine (H1.out _).mono ?_;rintro e w' ⟨rfl,cw1,rfl⟩)
  | (go_at_call 84;refine (HO.out _).mono ?_;rintro e w' ⟨rfl,nq,rfl⟩)
  | (go_at_call 85;refine (Zdf _ _).mono ?_;rintro e w' ⟨rfl,rfl⟩))
 refine bodyPost_ret (v := .tuple #[.agg #[.int .i64 2,.slice (some ⟨w.heap.size+1+1+1+1,0,none⟩) 1 1,.int .i64 4],.bool true]) ?_ rfl ⟨?_,some ⟨w.heap.size+1+1+1+1,0,none⟩,1,rfl,(fun h=>by cases h),?_⟩
 · rw [results_cell_tmp rfl]
   go_simp
 · (repeat (first|exact Zc _ _|exact Ga _ _ _|refine Za ?_ (Ga _ _ _)|refine Zf ?_ _|refine Ze ?_|(refine Zd ?_ (by simp;omega))|(refine Zd ?_ (by simp))))
 · refine Zdu (x:=(3,vv)) ?_ rfl rfl
   simp
theorem Xge (hbw:b<w.heap.size) (q1:(n:Int)<(len:Int)) (ql:(len:Int)<=4096) (c0:w.cell? ⟨b,o+n*2,none⟩=some (.int .i64 3)) (c1:w.cell? ⟨b,o+n*2+1,none⟩=some (.int .i64 x.toInt)) (q2:(n:Int)+1<(len:Int)) (d0:w.cell? ⟨b,o+(n+1)*2,none⟩=some (.int .i64 op2)) (d1:w.cell? ⟨b,o+(n+1)*2+1,none⟩=some (.int .i64 a2)) (h2:2<=long) (h15:op2≠15) (h16:op2≠16) (h1:CW.opn op2=1) (hr:CW.Ycq op2 x=(r,0)) :
 Calls Try.prog 67 #[.slice (some ⟨b,o,none⟩) len cap,.int .i64 n,.int .i64 long] w (Zm w (some ⟨2,[(3,r.toInt)],4⟩)):=Xee (b:=b) (o:=o) (n:=n) (len:=len) (cap:=cap) (long:=long) (w:=w) (aa:=x.toInt) (vv:=r.toInt) (hbw:=hbw) (q1:=q1) (ql:=ql) (c0:=c0) (c1:=c1) (q2:=q2) (d0:=d0) (d1:=d1) (h2:=h2) (sb0:=(by omega)) (sb1:=(by omega)) (sb2:=(by omega)) (sb3:=(by omega)) (sb4:=(by omega)) (sb5:=(by omega)) (sc01:=(by omega)) (sc02:=(by omega)) (sc03:=(by omega)) (sc04:=(by omega)) (sc05:=(by omega)) (sc12:=(by omega)) (sc13:=(by omega)) (sc14:=(by omega)) (sc15:=(by omega)) (sc23:=(by omega)) (sc24:=(by omega)) (sc25:=(by omega)) (sc34:=(by omega)) (sc35:=(by omega)) (z15:=(by simpa using h15)) (z16:=(by simpa using h16)) (H1:=((Hq fun w=>by have:=CW.Zjd op2 w;rw [h1] at this;exact this))) (HO:=((Hq fun w=>by have:=CW.Zrj op2 x w;rw [hr] at this;exact this)))
theorem Xed (aa:Int) (vv:Int) (tt:Int) (hbw:b<w.heap.size) (q1:(n:Int)<(len:Int)) (ql:(len:Int)<=4096) (c0:w.cell? ⟨b,o+n*2,none⟩=some (.int .i64 3)) (c1:w.cell? ⟨b,o+n*2+1,none⟩=some (.int .i64 aa)) (q2:(n:Int)+1<(len:Int)) (d0:w.cell? ⟨b,o+(n+1)*2,none⟩=some (.int .i64 op2)) (d1:w.cell? ⟨b,o+(n+1)*2+1,none⟩=some (.int .i64 a2)) (h2:2<=long) (sb0:b<w.heap.size) (sb1:b<w.heap.size+1) (sb2:b<w.heap.size+1+1) (sb3:b<w.heap.size+1+1+1) (sb4:b<w.heap.size+1+1+1+1) (sb5:b<w.heap.size+1+1+1+1+1) (sc01:w.heap.size<w.heap.size+1) (sc02:w.heap.size<w.heap.size+1+1) (sc03:w.heap.size<w.heap.size+1+1+1) (sc04:w.heap.size<w.heap.size+1+1+1+1) (sc05:w.heap.size<w.heap.size+1+1+1+1+1) (sc12:w.heap.size+1<w.heap.size+1+1) (sc13:w.heap.size+1<w.heap.size+1+1+1) (sc14:w.heap.size+1<w.heap.size+1+1+1+1) (sc15:w.heap.size+1<w.heap.size+1+1+1+1+1) (sc23:w.heap.size+1+1<w.heap.size+1+1+1) (sc24:w.heap.size+1+1<w.heap.size+1+1+1+1) (sc25:w.heap.size+1+1<w.heap.size+1+1+1+1+1) (sc34:w.heap.size+1+1+1<w.heap.size+1+1+1+1) (sc35:w.heap.size+1+1+1<w.heap.size+1+1+1+1+1) (z15:(op2 == 15)=false) (z16:(op2 == 16)=false) (H1:Hid (∀ w,Calls Try.prog 83 #[.int .i64 op2] w fun e w'=>e = .returned (.bool true)/\∃ c,w'=w.alloc (.cells c 159))) (HO:Hid (∀ w,Calls Try.prog 84 #[.int .i64 op2,.int .i64 aa] w fun e w'=>e = .returned (.tuple #[.int .i64 vv,.int .i64 tt])/\∃ n,w'=w.drewN n)) (zt:(tt == 0)=false) :
 Calls Try.prog 67 #[.slice (some ⟨b,o,none⟩) len cap,.int .i64 n,.int .i64 long] w (Zm w none):=by
 go_enter Try.func67,Try.ntmps67
 go_wp2_with (first
  | (go_at_call 83;refine (H1.out _).mono ?_;rintro e w' ⟨rfl,cw1,rfl⟩)
  | (go_at_call 84;refine (HO.out _).mono ?_;rintro e w' ⟨rfl,nq,rfl⟩)
  | (go_at_call 85;refine (Zdf _ _).mono ?_;rintro e w' ⟨rfl,rfl⟩))
 ((refine bodyPost_ret (v := .tuple #[.agg #[.int .i64 0,.slice none 0 0,.int .i64 0],.bool false]) ?_ rfl ⟨?_,0,0,none,0,0,rfl⟩);(focus (rw [results_cell_tmp rfl];go_simp));(repeat (first|exact Zc _ _|exact Ga _ _ _|refine Za ?_ (Ga _ _ _)|refine Zf ?_ _|refine Ze ?_|(refine Zd ?_ (by simp;omega))|(refine Zd ?_ (by simp)))))
theorem Xgd (hbw:b<w.heap.size) (q1:(n:Int)<(len:Int)) (ql:(len:Int)<=4096) (c0:w.cell? ⟨b,o+n*2,none⟩=some (.int .i64 3)) (c1:w.cell? ⟨b,o+n*2+1,none⟩=some (.int .i64 x.toInt)) (q2:(n:Int)+1<(len:Int)) (d0:w.cell? ⟨b,o+(n+1)*2,none⟩=some (.int .i64 op2)) (d1:w.cell? ⟨b,o+(n+1)*2+1,none⟩=some (.int .i64 a2)) (h2:2<=long) (h15:op2≠15) (h16:op2≠16) (h1:CW.opn op2=1) (hr:(CW.Ycq op2 x).2≠0) :
 Calls Try.prog 67 #[.slice (some ⟨b,o,none⟩) len cap,.int .i64 n,.int .i64 long] w (Zm w none):=Xed (b:=b) (o:=o) (n:=n) (len:=len) (cap:=cap) (long:=long) (w:=w) (aa:=x.toInt) (vv:=(CW.Ycq op2 x).1.toInt) (tt:=(CW.Ycq op2 x).2) (hbw:=hbw) (q1:=q1) (ql:=ql) (c0:=c0) (c1:=c1) (q2:=q2) (d0:=d0) (d1:=d1) (h2:=h2) (sb0:=(by omega)) (sb1:=(by omega)) (sb2:=(by omega)) (sb3:=(by omega)) (sb4:=(by omega)) (sb5:=(by omega)) (sc01:=(by omega)) (sc02:=(by omega)) (sc03:=(by omega)) (sc04:=(by omega)) (sc05:=(by omega)) (sc12:=(by omega)) (sc13:=(by omega)) (sc14:=(by omega)) (sc15:=(by omega)) (sc23:=(by omega)) (sc24:=(by omega)) (sc25:=(by omega)) (sc34:=(by omega)) (sc35:=(by omega)) (z15:=(by simpa using h15)) (z16:=(by simpa using h16)) (H1:=((Hq fun w=>by have:=CW.Zjd op2 w;rw [h1] at this;exact this))) (HO:=((Hq fun w=>CW.Zrj op2 x w))) (zt:=(by simpa using hr))
end
end Go.Proofs.Ythlkflagancdfaa.OT
