import Derived.Test.YtecaolkbllbokaaMT31
import Derived.Test.YtecaolkbllbokaaMT37
import Derived.Deep.LoopGhost
import Derived.Deep.Cut
set_option linter.unusedSimpArgs false
set_option linter.unusedVariables false
set_option maxRecDepth 100000
set_option maxHeartbeats 16000000
namespace Go.Proofs.Ytecaolkbllbokaa.CK
open Go.RowKit Go.Great
theorem Yhb (mem : Int) (vd : Value) (fs : List FnP) (pF : Option Addr) (cF B f : Nat) (fn : FnP) (gh : Nat) (h : List Int) (w : World) (hvd : ∃ p n c, vd = .slice p n c) (hB : B <= w.heap.size) (hF : Zam w B pF fs) (hf : fs[f]? = some fn) (hok : Zvy fs)
 (hh : ∀ i : Nat, i < fn.2.2.2.length -> w.cell? ⟨gh, i, none⟩ = some (.int .i64 (h.getD i 0))) (h0 : 0 <= h.getD 0 0) :
 Calls Try.prog 39 #[.agg #[.int .i64 mem, vd, .slice pF fs.length cF], .int .i64 f, .slice (some ⟨gh, 0, none⟩) fn.2.2.2.length fn.2.2.2.length] w (Xd w fn.2.2.2 h) := by
 obtain ⟨pd, nd, cd, rfl⟩ := hvd
 have hmem := List.mem_of_getElem? hf
 have hf1 := (List.getElem?_eq_some_iff.1 hf).1
 have hnf := hok.nf
 obtain ⟨hlen1, hlen2⟩ := hok.len fn hmem
 obtain ⟨ar, lo, r, c⟩ := fn
 simp only [] at hlen1 hlen2 hh
 obtain ⟨ii, ii0, ii1, ii2, ii3⟩ := info_parts Zaz
 obtain ⟨bi, bi0, bi1, bi2, bi3⟩ := info_parts Zvu
 have hk1 : ii.bytes * c.length <= 281474976710656 := by rw [ii3]; omega
 have hk2 : bi.bytes * c.length <= 281474976710656 := by rw [bi3]; omega
 have hk3 : c.length <= maxLen := by unfold maxLen; omega
 have c0 := hh 0 (by omega)
 have s0 := World.block_lt_of_cell? _ _ c0
 go_enter Try.func39, Try.ntmps39
 go_wp2
 rename_i K hK
 have T3 := Zce w (.cells #[.int .i64 mem, .slice pd nd cd, .slice pF fs.length cF] 32) (.cells #[.int .i64 f] 3) (.cells #[.slice (some ⟨gh, 0, none⟩) c.length c.length] 47)
 have g3 := Zcf w (.cells #[.int .i64 mem, .slice pd nd cd, .slice pF fs.length cF] 32) (.cells #[.int .i64 f] 3) (.cells #[.slice (some ⟨gh, 0, none⟩) c.length c.length] 47)
 have z3 : (((w.alloc (.cells #[.int .i64 mem, .slice pd nd cd, .slice pF fs.length cF] 32)).alloc (.cells #[.int .i64 f] 3)).alloc (.cells #[.slice (some ⟨gh, 0, none⟩) c.length c.length] 47)).heap.size = w.heap.size + 3 := by simp
 generalize ((w.alloc (.cells #[.int .i64 mem, .slice pd nd cd, .slice pF fs.length cF] 32)).alloc (.cells #[.int .i64 f] 3)).alloc (.cells #[.slice (some ⟨gh, 0, none⟩) c.length c.length] 47) = W at *
 obtain ⟨t1, t2, t3⟩ := T3
 have k3 : W.cell? ⟨w.heap.size + 1 + 1, 0, none⟩ = some (.slice (some ⟨gh, 0, none⟩) c.length c.length) := Cq _ _ 0 _ _ _ t3
 generalize hnh : w.heap.size + 1 + 1 = nh at *
 have hz : gh < W.heap.size := by omega
 have hnh2 : nh < W.heap.size := by omega
 clear c0 s0
 refine Zck (n := 10) (J := fun a0 l a1 w1 => ∃ blk, RJ a0 211 10 lm (lmv gh c.length blk) l a1 /\ LMB gh c.length W.drew blk l w1) (by kernel_rfl) rfl (Zen (by kernel_rfl)) (fun l a1 w1 h => by obtain ⟨_, _, h⟩ := h; exact h.sz) ⟨fun _ => 0, Zax rfl, Ymd _⟩ ?step ?fin
 case step =>
  intro l a1 w' i hJJ hi hin
  obtain ⟨blk, hJ, hW⟩ := hJJ
  have hun : l.getD i false = false := getD_both (mem_ready.1 hi).1
  have gW : W.grownBy w' none := Za (Zf (Ze W none)) hW.g
  have e5 : a1.tmps.getD 5 undef = .pointer (some ⟨nh, 0, none⟩) := hJ.un 5 (fun i hi _ => Yyi 5 (by decide) i hi)
  have h0 := gW.cell k3 (by simp)
  have hmk := run_make_row' (P := Try.prog) 47 3 (.int .i64 0) 8 Zcd Zaz rfl .i64 .i64 c.length (by omega) (by omega)
  rcases Yyh i hin with rfl | rfl | rfl | rfl | rfl | rfl | rfl | rfl | rfl | rfl
  · exact Zj (Zq (WS := fun l w => LMB gh c.length W.drew blk l w) hJ rfl (by rfl) rfl (by decide) (by decide) (Zrv _ (by decide)) (w' := w') (by simp [execOp, resolve, invoke, builtin, Act.eval, e5, h0, go_sem, lmv]) (Zlw hW (by decide) (by decide) (by decide) (by decide))) (fun a9 w9 h9 => ⟨blk, h9⟩)
  · have e27 : a1.tmps.getD 27 undef = .slice (some ⟨gh, 0, none⟩) c.length c.length := (hJ.sl 0 (by decide) (Zb hi 0 (by kernel_rfl)) (by decide))
    exact Zj (Zq (WS := fun l w => LMB gh c.length W.drew blk l w) hJ rfl (by rfl) rfl (by decide) (by decide) (Zrv _ (by decide)) (w' := w') (by simp [execOp, resolve, invoke, builtin, Act.eval, e27, go_sem, lmv]) (Zlw hW (by decide) (by decide) (by decide) (by decide))) (fun a9 w9 h9 => ⟨blk, h9⟩)
  · have e28 : a1.tmps.getD 28 undef = .int .i64 c.length := (hJ.sl 1 (by decide) (Zb hi 1 (by kernel_rfl)) (by decide))
    exact Zj (Zq (WS := fun l w => LMB gh c.length W.drew (Yei blk 2 w'.heap.size) l w) (Zfy hJ (Zrs hun)) rfl (by rfl) rfl (by decide) (by decide) (Zrv _ (by decide)) (w' := w'.alloc (.cells (madeCells #[.int .i64 0] c.length) 3)) (by simp [execOp, Act.eval, e28, hmk, go_sem, lmv, Zdk]) (Zru hW (by decide) (by decide) hun (by decide) (by decide) rfl)) (fun a9 w9 h9 => ⟨_, h9⟩)
  · exact Zj (Zq (WS := fun l w => LMB gh c.length W.drew blk l w) hJ rfl (by rfl) rfl (by decide) (by decide) (Zrv _ (by decide)) (w' := w') (by simp [execOp, resolve, invoke, builtin, Act.eval, e5, h0, go_sem, lmv]) (Zlw hW (by decide) (by decide) (by decide) (by decide))) (fun a9 w9 h9 => ⟨blk, h9⟩)
  · have e27 : a1.tmps.getD 30 undef = .slice (some ⟨gh, 0, none⟩) c.length c.length := (hJ.sl 3 (by decide) (Zb hi 3 (by kernel_rfl)) (by decide))
    exact Zj (Zq (WS := fun l w => LMB gh c.length W.drew blk l w) hJ rfl (by rfl) rfl (by decide) (by decide) (Zrv _ (by decide)) (w' := w') (by simp [execOp, resolve, invoke, builtin, Act.eval, e27, go_sem, lmv]) (Zlw hW (by decide) (by decide) (by decide) (by decide))) (fun a9 w9 h9 => ⟨blk, h9⟩)
  · have e28 : a1.tmps.getD 31 undef = .int .i64 c.length := (hJ.sl 4 (by decide) (Zb hi 4 (by kernel_rfl)) (by decide))
    exact Zj (Zq (WS := fun l w => LMB gh c.length W.drew (Yei blk 5 w'.heap.size) l w) (Zfy hJ (Zrs hun)) rfl (by rfl) rfl (by decide) (by decide) (Zrv _ (by decide)) (w' := w'.alloc (.cells (madeCells #[.int .i64 0] c.length) 3)) (by simp [execOp, Act.eval, e28, hmk, go_sem, lmv, Zdk]) (Zru hW (by decide) (by decide) hun (by decide) (by decide) rfl)) (fun a9 w9 h9 => ⟨_, h9⟩)
  · exact Zj (Zq (WS := fun l w => LMB gh c.length W.drew (Yei blk 6 w'.heap.size) l w) (Zfy hJ (Zrs hun)) rfl (by rfl) rfl (by decide) (by decide) (Zrv _ (by decide)) (w' := w'.alloc (.cells #[.slice none 0 0] 47)) (by simp [execOp, Act.eval, go_sem, lmv, Zdk]) (Zru hW (by decide) (by decide) hun (by decide) (by decide) (Xbk hW hun))) (fun a9 w9 h9 => ⟨_, h9⟩)
  · exact Zj (Zq (WS := fun l w => LMB gh c.length W.drew (Yei blk 7 w'.heap.size) l w) (Zfy hJ (Zrs hun)) rfl (by rfl) rfl (by decide) (by decide) (Zrv _ (by decide)) (w' := w'.alloc (.cells #[.slice none 0 0] 47)) (by simp [execOp, Act.eval, go_sem, lmv, Zdk]) (Zru hW (by decide) (by decide) hun (by decide) (by decide) (Xbj hW hun))) (fun a9 w9 h9 => ⟨_, h9⟩)
  · have e8 : a1.tmps.getD 8 undef = .pointer (some ⟨blk 6, 0, none⟩) := (hJ.sl 6 (by decide) (Zb hi 6 (by kernel_rfl)) (by decide))
    have e29 : a1.tmps.getD 29 undef = .slice (some ⟨blk 2, 0, none⟩) c.length c.length := (hJ.sl 2 (by decide) (Zb hi 2 (by kernel_rfl)) (by decide))
    have hl2 : l.getD 2 false = true := Zb hi 2 (by kernel_rfl)
    have hl6 : l.getD 6 false = true := Zb hi 6 (by kernel_rfl)
    obtain ⟨v, hv⟩ := Yal c.length blk l
    have hb := (hW.b 6 (by decide) hl6).2
    rw [hv] at hb
    have k0 := Cq _ _ 0 _ _ _ hb
    have z0 := frozen_of_row _ _ 0 _ _ hb
    refine Zcn rfl rfl rfl (w' := w'.setCell ⟨blk 6, 0, none⟩ (.slice (some ⟨blk 2, 0, none⟩) c.length c.length)) (by simp [execOp, Act.eval, e8, e29, k0, z0, go_sem]) ?_
    exact ⟨blk, Zin hJ (by decide) (by decide), Ytm hW hl2 hl6⟩
  · have e9 : a1.tmps.getD 9 undef = .pointer (some ⟨blk 7, 0, none⟩) := (hJ.sl 7 (by decide) (Zb hi 7 (by kernel_rfl)) (by decide))
    have e32 : a1.tmps.getD 32 undef = .slice (some ⟨blk 5, 0, none⟩) c.length c.length := (hJ.sl 5 (by decide) (Zb hi 5 (by kernel_rfl)) (by decide))
    have hl2 : l.getD 5 false = true := Zb hi 5 (by kernel_rfl)
    have hl6 : l.getD 7 false = true := Zb hi 7 (by kernel_rfl)
    obtain ⟨v, hv⟩ := Yak c.length blk l
    have hb := (hW.b 7 (by decide) hl6).2
    rw [hv] at hb
    have k0 := Cq _ _ 0 _ _ _ hb
    have z0 := frozen_of_row _ _ 0 _ _ hb
    refine Zcn rfl rfl rfl (w' := w'.setCell ⟨blk 7, 0, none⟩ (.slice (some ⟨blk 5, 0, none⟩) c.length c.length)) (by simp [execOp, Act.eval, e9, e32, k0, z0, go_sem]) ?_
    exact ⟨blk, Zin hJ (by decide) (by decide), Ytl hW hl2 hl6⟩
 intro l a1 w2 hJJ hl
 obtain ⟨blk, hJ, hW⟩ := hJJ
 have hput := Zei hJ rfl hl (fun i j h1 h2 h3 => Zrv j h2 i h1 h3)
 subst hput
 have M2 := Hq (Ytn hW hl hk3)
 clear hJ hW hl
 refine hK _ _ ?_
 simp only [Ja, lm, lmv, Act.put, List.setIfInBounds_toArray, List.set_cons_zero, List.set_cons_succ]
 clear hK K
 generalize blk 2 = gn at *
 generalize blk 5 = gb at *
 generalize blk 6 = bn at *
 generalize blk 7 = bb at *
 have hE3 : w.heap.size <= w2.heap.size := by have := M2.out.g.size; have e : W.drew.heap.size = W.heap.size := rfl; omega
 have k2 := (Za (Zf (Ze W none)) M2.out.g).cell k3 (by simp)
 have s2 := World.block_lt_of_cell? _ _ k2
 have T1 := Hq t1
 have T2 := Hq t2
 have T3 := Hq t3
 have Z3 := Hq z3
 have GW := Hq (Za (Zf (Ze W none)) M2.out.g)
 have HH := Hq hh
 have S3 := Hq g3
 have hd0 : decide (h.getD 0 0 < 0) = false := decide_eq_false (by omega)
 have q0 : (0 : Int) < (c.length : Int) := by omega
 clear t1 t2 t3 z3 k3 hnh2 g3 hz
 go_upto_region 8 with (first
  | (refine wpList_make_full _ rfl _ _ 55 rfl w.heap.size 4 bi (.bool false) 1 Zsp bi0 bi1 bi2 .i64 .i64 _ _ c.length rfl rfl rfl rfl hk2 hk3 hE3 ?_; intro w3 hr3 hg3; have R3 := Hq hr3; have G3 := Hq hg3; have k3 := hg3.cell k2 (by simp); have s3 := World.block_lt_of_cell? _ _ k3; have hs3 : w2.heap.size < w3.heap.size := (hr3.lt _ rfl).2; have hE4 : w.heap.size <= (w3.alloc (.cells #[.slice (some ⟨w2.heap.size, 0, none⟩) c.length c.length] 55)).heap.size := (by simp; omega); clear hr3 hg3)
  | (refine wpList_make_full _ rfl _ _ 55 rfl w.heap.size 4 bi (.bool false) 1 Zsp bi0 bi1 bi2 .i64 .i64 _ _ c.length rfl rfl rfl rfl hk2 hk3 hE4 ?_; intro w4 hr4 hg4; rw [World.size_alloc] at hr4; have R4 := Hq hr4; have G4 := Hq hg4; have k4 := (Za (Ga w3 _ none) hg4).cell k3 (by simp); have s4 := World.block_lt_of_cell? _ _ k4; have hs4 : w3.heap.size + 1 < w4.heap.size := (hr4.lt _ rfl).2; have LP0 := Hq (Ymn S3.out Z3.out T1.out T2.out (by rw [hnh]; exact T3.out) M2.out G3.out hg4 hs3 hs4 R3.out hr4); clear hr4 hg4))
 rename_i K hK
 clear k2 s2 k3 s3 k4 s4 R3 R4 G3 G4 M2 GW S3 T1 T2 T3 Z3 hk1 hk2 hk3 hE3 hE4
 have hwe : ((w4.alloc (.cells #[.slice none 0 0] 47)).alloc (.cells #[.slice none 0 0] 137)).alloc (.cells #[.int .i64 0] 3) = we0 w4 := rfl
 rw [hwe]
 clear hwe
 generalize we0 w4 = wE at *
 have hA : ∃ A : LA, A = la0 w.heap.size gn gb bn bb w2.heap.size w3.heap.size w4.heap.size /\ A.p = w.heap.size /\ A.f = w.heap.size + 1 /\ A.h = nh /\ A.n = bn /\ A.b = bb /\ A.o = w3.heap.size /\ A.r = w4.heap.size /\ A.w = w4.heap.size + 1 /\ A.m = w4.heap.size + 1 + 1 /\ A.gn = gn /\ A.gb = gb /\ A.go = w2.heap.size /\ A.gi = w3.heap.size + 1 := ⟨_, rfl, rfl, rfl, hnh, rfl, rfl, rfl, rfl, rfl, rfl, rfl, rfl, rfl, rfl⟩
 obtain ⟨A, hA, a1, a2, a3, a4, a5, a6, a7, a8, a9, a10, a11, a12, a13⟩ := hA
 rw [<- hA] at LP0
 rw [<- a9, <- a8, <- a7, <- a13, <- a6, <- a2, <- a1, <- a3, <- a4, <- a5]
 have k5 : wE.cell? ⟨A.h, 0, none⟩ = some (.slice (some ⟨gh, 0, none⟩) c.length c.length) := Zn LP0.out.bh
 have c5 := LP0.out.gr.cell (HH.out 0 (by omega)) (by simp)
 obtain ⟨z0, z0e⟩ : ∃ z, z = h.getD 0 0 := ⟨_, rfl⟩
 rw [<- z0e] at c5 hd0
 clear z0e
 have EN : Calls Try.prog 60 #[.int .i64 0, .pointer (some ⟨A.m, 0, none⟩), .pointer (some ⟨A.n, 0, none⟩), .pointer (some ⟨A.b, 0, none⟩), .pointer (some ⟨A.o, 0, none⟩), .pointer (some ⟨A.r, 0, none⟩), .pointer (some ⟨A.w, 0, none⟩)] wE _ := Zvf w wE wE.heap.size A _ _ _ _ 0 LP0.out (by simp only []; omega) (by simp [ls0]) (by simp [ls0]) (by simp [ls0])
 have EN2 := Hq EN
 clear a1 a2 a3 a4 a5 a6 a7 a8 a9 a10 a11 a12 a13 hA EN
 generalize wE.heap.size = R at *
 go_wp2_with (go_at_call 60; refine EN2.out.mono ?_; rintro e w5 ⟨⟨v5, rfl⟩, vr5, vw5, H5, O5⟩)
 have LR : LpR w R A ⟨mem, .slice pd nd cd, .slice pF fs.length cF, f, .slice (some ⟨gh, 0, none⟩) c.length c.length, c.length⟩ c h (Jq c.length (nxL c h) (ts0 c.length)) w5 :=
  ⟨_, _, _, rfl, (Yfj hlen1).1, (Yfj (next := nxL c h) hlen1).2, H5⟩
 have LR2 := Hq LR
 clear LR H5 O5 EN2 LP0 k5 c5 hd0 hh
 have EE : Ykd w B fs pF f ar lo r c gh h := ⟨hB, hF, hf, hnf, hlen1, hlen2, HH.out⟩
 rename_i K hK
 refine Ytj K EE ⟨rfl, rfl, rfl, rfl, rfl, rfl, rfl, rfl, rfl, rfl, rfl⟩ LR2.out ?_
 intro a1 wo s vr vw ha hI hS hW
 refine hK a1 wo ?_
 rw [Yqk ha]
 generalize (fun i => a1.tmps.getD i undef) = t
 have HW := Hq hW
 have HI := Hq hI
 have HS := Hq hS
 have kw := Zn hW.bw
 clear hW hI hS hK K LR2 ha a1 EE
 unfold lpF
 generalize t 0 = u, t 1 = u, t 2 = u, t 3 = u, t 4 = u, t 5 = u, t 6 = u, t 16 = u, t 17 = u, t 18 = u, t 19 = u, t 20 = u, t 21 = u, t 22 = u, t 23 = u, t 24 = u, t 25 = u, t 26 = u, t 27 = u, t 28 = u, t 29 = u, t 30 = u, t 31 = u, t 32 = u, t 33 = u, t 34 = u, t 35 = u, t 36 = u, t 37 = u, t 38 = u, t 39 = u, t 40 = u, t 41 = u, t 42 = u, t 43 = u, t 44 = u, t 45 = u, t 46 = u, t 47 = u, t 48 = u, t 49 = u, t 50 = u, t 51 = u, t 52 = u, t 53 = u, t 54 = u, t 55 = u, t 56 = u, t 57 = u, t 58 = u, t 59 = u, t 60 = u, t 61 = u, t 62 = u, t 63 = u, t 64 = u, t 65 = u, t 66 = u, t 67 = u, t 68 = u, t 69 = u, t 70 = u, t 71 = u, t 72 = u, t 73 = u, t 74 = u, t 75 = u, t 76 = u, t 77 = u, t 78 = u, t 79 = u, t 80 = u, t 81 = u, t 82 = u, t 83 = u, t 84 = u, t 85 = u, t 86 = u, t 87 = u, t 88 = u, t 89 = u, t 90 = u, t 91 = u, t 92 = u, t 93 = u, t 94 = u, t 95 = u, t 96 = u, t 97 = u, t 98 = u, t 99 = u, t 100 = u, t 101 = u, t 102 = u, t 103 = u, t 104 = u, t 105 = u, t 106 = u, t 107 = u, t 108 = u, t 109 = u, t 110 = u, t 111 = u, t 112 = u, t 113 = u, t 114 = u, t 115 = u, t 116 = u, t 117 = u, t 118 = u, t 119 = u, t 120 = u, t 121 = u, t 122 = u, t 123 = u, t 124 = u, t 125 = u, t 126 = u, t 127 = u, t 128 = u, t 129 = u, t 130 = u, t 131 = u, t 132 = u, t 133 = u, t 134 = u, t 135 = u, t 136 = u, t 137 = u, t 138 = u, t 139 = u, t 140 = u, t 141 = u, t 142 = u, t 143 = u, t 144 = u, t 145 = u, t 146 = u, t 147 = u, t 148 = u, t 149 = u, t 150 = u, t 151 = u, t 152 = u, t 153 = u, t 154 = u, t 155 = u, t 156 = u, t 157 = u, t 158 = u, t 159 = u, t 160 = u, t 161 = u, t 162 = u, t 163 = u, t 164 = u, t 165 = u, t 166 = u, t 167 = u, t 168 = u, t 169 = u, t 170 = u, t 171 = u, t 172 = u, t 173 = u, t 174 = u, t 175 = u, t 176 = u, t 177 = u, t 178 = u, t 179 = u, t 180 = u, t 181 = u, t 182 = u, t 183 = u, t 184 = u, t 185 = u, t 186 = u, t 187 = u, t 188 = u, t 189 = u, t 190 = u, t 191 = u, t 192 = u, t 193 = u, t 194 = u, t 195 = u, t 196 = u, t 197 = u, t 198 = u, t 199 = u, t 200 = u, t 201 = u, t 202 = u, t 203 = u, t 204 = u, t 205 = u, t 206 = u, t 207 = u, t 208 = u, t 209 = u, t 210 = u
 clear t
 go_wp2
 go_loopw [23, 199] (fun v i wr => ∃ k : Nat, i = .int .i64 k /\ k <= c.length /\ wr.ownsRow wo.heap.size 3 1 v ((List.range k).filter fun x => s.inn.getD x false).length (Zfc ((List.range k).filter fun x => s.inn.getD x false)) /\ wo.grownBy wr none) (fun _ i _ => c.length - (intOf i).toNat)
 case atStart => exact ⟨0, rfl, Nat.zero_le _, World.ownsRow_nil _ _ _ _, Ze _ _⟩
 case round =>
  obtain ⟨k, rfl, hk, hown, hg⟩ := hrel
  obtain ⟨pv, cv, hv⟩ := Zm hown
  subst hv
  have OV := Hq hown
  have GV := Hq hg
  by_cases hlt : (k : Int) < (c.length : Int)
  · have ci := (Yms HW.out k (by simp only []; omega)).1
    have ci2 := hg.cell ci (by simp)
    have hml := List.length_filter_le (fun x => s.inn.getD x false) (List.range k)
    rw [List.length_range] at hml
    have FR := Hq (Zve (fun x => s.inn.getD x false) k)
    clear hown hg ci kw
    have ts : (Xo s).inn = s.inn := rfl
    rw [ts] at ci2
    clear ts
    cases hb : s.inn.getD k false with
    | false =>
      rw [hb] at ci2
      have FR2 := FR.out
      rw [hb, if_neg (by decide)] at FR2
      have HQ := Hq FR2
      clear FR FR2 hb
      generalize (List.range k).filter (fun x => s.inn.getD x false) = M at *
      go_wp2
      refine ⟨⟨k + 1, by go_num, by omega, ?_, GV.out⟩, by simp [intOf]; omega⟩
      rw [HQ.out]
      exact OV.out
    | true =>
      rw [hb] at ci2
      have FR2 := FR.out
      rw [hb, if_pos rfl] at FR2
      have HQ := Hq FR2
      clear FR FR2 hb
      generalize (List.range k).filter (fun x => s.inn.getD x false) = M at *
      have hc3 : M.length + 1 <= maxLen := by unfold maxLen; omega
      have hc4 : (M.length + 1) * 8 <= 140737488355328 := by omega
      have hE : wo.heap.size <= (wr.alloc (.cells #[.int .i64 k] 3)).heap.size := by have := GV.out.size; simp; omega
      go_wp2_with (at_builtin; refine wpList_append_own_at _ rfl _ _ 47 rfl wo.heap.size 3 ii (.int .i64 0) 1 8 Zcd ii0 ii1 ii2 ii3 rfl (by decide) (.slice pv M.length cv) _ _ rfl (OV.out.alloc _) ⟨wr.heap.size, 0, none⟩ 1 1 [.int .i64 k] rfl rfl (Zao wr _ _) (Zae _ _) hc3 hc4 hE ?_; intro v3 w6 hown3 hgr3 hnil3 hat3; obtain ⟨p3, k3, hv3⟩ := Zm hown3; subst hv3; have OW3 := Hq hown3; have GR3 := Hq hgr3; clear hown3 hgr3 hnil3 hat3)
      refine ⟨⟨k + 1, by go_num, by omega, ?_, Zbb (Za GV.out (Ga _ _ none)) GR3.out fun q hq => (OV.out.lt q hq).1⟩, by simp [intOf]; omega⟩
      rw [HQ.out, List.length_append, Zip]
      exact OW3.out
  · have hkn : k = c.length := by omega
    subst hkn
    clear hown hg kw
    have gF := Za HW.out.gr GV.out
    have hz := HW.out.gr.size
    generalize hM : (List.range c.length).filter (fun x => s.inn.getD x false) = M at *
    have HM := Hq hM
    have GF := Hq gF
    clear hM gF
    go_wp2
    go_ret
    exact ⟨_, M, rfl, GF.out, Yr OV.out hz, fun e => Xan (by omega) HI.out HS.out (Zyc (by rw [HM.out]; exact e))⟩
end Go.Proofs.Ytecaolkbllbokaa.CK
