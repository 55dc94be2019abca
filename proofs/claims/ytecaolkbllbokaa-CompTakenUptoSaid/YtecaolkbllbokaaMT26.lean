import Derived.Test.YtecaolkbllbokaaMT25
import Derived.Test.YtecaolkbllbokaaMT24
set_option linter.unusedSimpArgs false
set_option linter.unusedVariables false
set_option maxRecDepth 100000
set_option maxHeartbeats 16000000
namespace Go.Proofs.Ytecaolkbllbokaa.CK
open Go.RowKit Go.Great
def nxE (hv : Int) (len : Nat) (op a pl : Int) : List Int := if hv < 0 then [] else Zlj len op a pl
theorem Yst (mem : Int) (vd : Value) (fs : List FnP) (pF : Option Addr) (cF B f at_ : Nat) (fn : FnP) (op a hv : Int) (w : World) (ph bp bf bh gh nh ch : Nat) (hvd : ∃ p n c, vd = .slice p n c) (hB : B <= w.heap.size) (hF : Zam w B pF fs) (hS : Zon fs f at_ fn op a)
 (p0 : Yeo w bp mem vd (.slice pF fs.length cF)) (f0 : Bx w bf 3 (.int .i64 f)) (h0 : Bx w bh 47 (.slice (some ⟨gh, ph, none⟩) nh ch)) (hn : at_ < nh) (hc : w.cell? ⟨gh, ph + at_, none⟩ = some (.int .i64 hv)) :
 Calls Try.prog 58 #[.int .i64 at_, .pointer (some ⟨bh, 0, none⟩), .pointer (some ⟨bp, 0, none⟩), .pointer (some ⟨bf, 0, none⟩)] w (Zfw w (nxE hv fn.2.2.2.length op a at_)) := by
 have NX := Hq (Yaa mem vd fs pF cF B f at_ fn op a w hvd hB hF hS)
 obtain ⟨pd, nd, cd, rfl⟩ := hvd
 have x0 := Cq _ _ 0 _ _ _ p0
 have x1 := Cq _ _ 1 _ _ _ p0
 have x2 := Cq _ _ 2 _ _ _ p0
 have y0 := Zn f0
 have z0 := Zn h0
 have s1 := World.block_lt_of_cell? _ _ hc
 have s2 := (Gs p0)
 have s3 := (Gs f0)
 have s4 := (Gs h0)
 have q1 : (at_ : Int) < (nh : Int) := by omega
 unfold nxE
 clear hS hF p0 f0 h0
 generalize Zlj fn.2.2.2.length op a at_ = L at *
 by_cases hv0 : hv < 0
 · rw [if_pos hv0]
   go_enter Try.func58, Try.ntmps58
   go_wp2
   go_ret
   exact ⟨_, rfl, Ze _ _, World.ownsRow_nil _ _ _ _⟩
 · rw [if_neg hv0]
   go_enter Try.func58, Try.ntmps58
   go_wp2_with (go_at_call 59; refine NX.out.mono ?_; rintro e w3 ⟨v, rfl, hg, ho⟩)
   go_ret
   exact ⟨_, rfl, hg, ho⟩
theorem Yrr (w : World) (b o : Nat) (u0 x y : Value) (t : TypeId) : ∀ j u, [x, y][j]? = some u -> ((w.setCell ⟨b, o, none⟩ u0).alloc (.cells #[x, y] t)).cell? ((⟨w.heap.size, 0, none⟩ : Addr).add j) = some u := by
 have h := Zjy (w.setCell ⟨b, o, none⟩ u0) x y t
 rw [World.size_setCell] at h
 exact h
section
variable {P : Program} {w : World}
theorem Zjw {ops : Array Oper} {rest : List Oper} {o : Oper} {a : Act} {Q : Exit -> Act -> World -> Prop} (hgd : o.guard = none) (s x : Operand) (t : TypeId)
 (ho : o.op = .call { callee := .builtin .append, args := #[s, x], argTypes := #[t, t] })
 (base : Nat) (e : TypeId) (i : TypeInfo) (z : Value) (size bytes : Nat) (ht : P.underlying t = some (.slice e)) (hi : P.info? e = some i) (hz : i.zero = some z)
 (hsize : i.size = size) (hby : i.bytes = bytes) (hzs : z.cells.size = size) (hsz : 0 < size)
 (v : Value) (n : Nat) (xs : List Value) (hs : a.eval s = v) (hown : w.ownsRow base e size v n xs)
 (ad : Addr) (m c : Nat) (news : List Value) (hx : a.eval x = .slice (some ad) m c) (hl : news.length = m * size) (hnews : ∀ j u, news[j]? = some u -> w.cell? (ad.add j) = some u) (h1 : ∀ u ∈ news, u.oneCell' = true)
 (h63 : n + m <= maxLen) (hbytes : (n + m) * bytes <= 140737488355328) (hbase : base <= w.heap.size)
 (h : ∀ v' w', w'.ownsRow base e size v' (n + m) (xs ++ news) -> w.grownBy w' v.ownBlock -> (∀ g, v.ownBlock = some g -> ∀ j u, j < n * size -> w.cell? ⟨g, j, none⟩ = some u -> w'.cell? ⟨g, j, none⟩ = some u) -> wpList P ops Q rest (a.put o.dst v') w') :
 wpList P ops Q (o :: rest) a w := by
 refine wpList_plain hgd fun K hK => ?_
 obtain ⟨v', w', hr, h2, h3, h4, h5⟩ := run_append_own_at (P := P) w base t o.type e i z size bytes ht hi hz hsize hby hzs hsz v n xs hown ad m c news hl hnews h1 h63 hbytes hbase
 unfold Oper.wp execOp
 simp only [ho, resolve, invoke, builtin, Sem.run_bind, Sem.run_pure, Result.andThen_ok, List.map_toArray, List.map_cons, List.map_nil, hs, hx, hr]
 refine hK _ _ (h v' w' h2 h3 ?_)
 intro g hg j u hj hc
 rcases hown.2 with ⟨e1, _⟩ | ⟨g', cap', cur, hv, _⟩
 · rw [e1] at hg; cases hg
 · subst hv
   have e2 : g' = g := by simpa [Value.ownBlock] using hg
   subst e2
   rcases Yea (P := P) ht hi hz hsize hby hown hl hnews h1 h63 hbytes hr with h6 | h6
   · obtain ⟨k, hk⟩ : ∃ k, n + m = k + 1 := ⟨n + m - 1, by
      have : 0 < n := by rcases Nat.eq_zero_or_pos n with e | e
                         · subst e; omega
                         · exact e
      omega⟩
     rw [hk] at h2
     obtain ⟨g2, c2, e3⟩ := Yk h2
     subst e3
     have e4 : g2 = g' := by simpa [Value.ownBlock] using h6
     subst e4
     have hl2 := hown.1
     have hjn : j < n * size := hj
     have hle : n * size <= (k + 1) * size := Nat.mul_le_mul_right _ (by omega)
     rw [h2.cellAt j (by omega), List.getElem?_append_left (by omega), <- hown.cellAt j hj]
     exact hc
   · exact h6.cell hc (by simp)
end
def Ybb (s : LS) (m : Nat) : LS := { s with num := s.num.set m (s.met + 1), back := s.back.set m (s.met + 1), on := s.on.set m true, row := s.row ++ [m], way := s.way ++ [((m : Int), 0)], met := s.met + 1 }
def Zii (w w' : World) (vw : Value) (n : Nat) : Prop := ∀ g, vw.ownBlock = some g -> ∀ j u, j < n * 2 -> w.cell? ⟨g, j, none⟩ = some u -> w'.cell? ⟨g, j, none⟩ = some u
theorem Zxa (w : World) (vw : Value) (n : Nat) : Zii w w vw n := fun _ _ _ _ _ h => h
theorem Zdf {w w1 : World} {vw : Value} {n b o : Nat} {v : Value} (h : Zii w w1 vw n) (hb : ∀ g, vw.ownBlock = some g -> g ≠ b) : Zii w (w1.setCell ⟨b, o, none⟩ v) vw n := fun g hg j u hj hc =>
 (Zd w1 b o v).cell (h g hg j u hj hc) (by intro e; injection e with e; exact hb g hg e)
theorem Zkw {w w1 w2 : World} {vw : Value} {n : Nat} (h : Zii w w1 vw n) (g : w1.grownBy w2 none) : Zii w w2 vw n := fun k hk j u hj hc => g.cell (h k hk j u hj hc) (by simp)
theorem Yck {w w1 w2 : World} {vw : Value} {n : Nat} {r : Option Nat} (h : Zii w w1 vw n) (g : w1.grownBy w2 r) (hr : ∀ k, vw.ownBlock = some k -> r ≠ some k) : Zii w w2 vw n := fun k hk j u hj hc => g.cell (h k hk j u hj hc) (fun e => hr k hk e.symm)
theorem Ycl {w w1 w2 : World} {vw : Value} {n : Nat} (h : Zii w w1 vw n) (g : ∀ k, vw.ownBlock = some k -> ∀ j u, j < n * 2 -> w1.cell? ⟨k, j, none⟩ = some u -> w2.cell? ⟨k, j, none⟩ = some u) : Zii w w2 vw n := fun k hk j u hj hc => g k hk j u hj (h k hk j u hj hc)
theorem Zpo {w0 w : World} {R : Nat} {A : LA} {C : LC} {vr vw : Value} {s : LS} (H : LpW w0 R A C vr vw s w) {b : Nat} (hb : b ∈ A.all) : ∀ g, vw.ownBlock = some g -> g ≠ b := fun g hg e => by
 have h1 := Yn H hg
 have h2 := H.hi b hb
 omega
theorem Ysh {w0 w w5 : World} {R : Nat} {A : LA} {C : LC} {vr vw : Value} {s : LS} {o : Obj} (H : LpW w0 R A C vr vw s w) (hg : (w.alloc o).grownBy w5 vr.ownBlock) : Bx w5 A.r 47 vr /\ Bx w5 A.w 137 vw := by
 have g1 := Za (Ga w o vr.ownBlock) hg
 refine ⟨Zc H.br g1 ?_, Zc H.bw g1 ?_⟩
 · intro e; have h1 := Jf H e; have h2 := H.hi A.r (by simp [LA.all]); omega
 · intro e; have h1 := Jf H e; have h2 := H.hi A.w (by simp [LA.all]); omega
theorem Yrn {w0 w w5 : World} {R : Nat} {A : LA} {C : LC} {vr vw : Value} {s : LS} {o : Obj} (H : LpW w0 R A C vr vw s w) (hg : (w.alloc o).grownBy w5 vw.ownBlock) : Bx w5 A.w 137 vw := by
 have g1 := Za (Ga w o vw.ownBlock) hg
 refine Zc H.bw g1 ?_
 intro e; have h1 := Yn H e; have h2 := H.hi A.w (by simp [LA.all]); omega
theorem Ywt {w0 w : World} {R : Nat} {A : LA} {C : LC} {vr vw : Value} {s : LS} (H : LpW w0 R A C vr vw s w) : ∀ k, vw.ownBlock = some k -> vr.ownBlock ≠ some k := fun k hk => Ya H.rw_ H.rr (by decide) hk
theorem Ygh : Try.prog.underlying 137 = some (.slice 139) := by kernel_rfl
theorem Ycg : (Try.prog.info? 139).map (fun i => (i.zero, i.size, i.bytes)) = some (some (.agg #[.int .i64 0, .int .i64 0]), 2, 16) := by kernel_rfl
def Zwc (w0 : World) (R : Nat) (A : LA) (C : LC) (s : LS) (m : Nat) (w : World) (vw : Value) (e : Ending) (w' : World) : Prop :=
 (∃ v, e = .returned v) /\ ∃ vr' vw', LpW w0 R A C vr' vw' (Ybb s m) w' /\ Zii w w' vw s.way.length
theorem Zvf (w0 w : World) (R : Nat) (A : LA) (C : LC) (vr vw : Value) (s : LS) (m : Nat) (H : LpW w0 R A C vr vw s w) (hm : m < C.n) (hmet : s.met <= 4096) (hr : s.row.length <= 4096) (hw : s.way.length <= 4096) :
 Calls Try.prog 60 #[.int .i64 m, .pointer (some ⟨A.m, 0, none⟩), .pointer (some ⟨A.n, 0, none⟩), .pointer (some ⟨A.b, 0, none⟩), .pointer (some ⟨A.o, 0, none⟩), .pointer (some ⟨A.r, 0, none⟩), .pointer (some ⟨A.w, 0, none⟩)] w (Zwc w0 R A C s m w vw) := by
 obtain ⟨mem, vd, vF, f, vh, n⟩ := C
 obtain ⟨num, back, on, inn, row, way, met⟩ := s
 simp only [] at hm hmet hr hw
 have H1 := Yxz H (met + 1)
 have OLD := Zdf (b := A.m) (o := 0) (v := .int .i64 ((met + 1 : Nat) : Int)) (Zxa w vw way.length) (Zpo H (by simp [LA.all]))
 have q0 := Zn H.bm
 have q0z := Zdv H.bm
 simp only [] at H1
 clear H
 have HH1 := Hq H1
 have HOLD := Hq OLD
 clear H1 OLD
 go_enter Try.func60, Try.ntmps60
 go_wp2
 rename_i K hK
 have hmi : (met : Int) + 1 = ((met + 1 : Nat) : Int) := by omega
 rw [hmi] at *
 clear q0 q0z hmi
 generalize hM : met + 1 = M at *
 generalize w.setCell ⟨A.m, 0, none⟩ (.int .i64 (M : Int)) = w1 at *
 have H := HH1.out
 have bm := Zn H.bm
 have bn := Zn H.bn
 have bb := Zn H.bb
 have bo := Zn H.bo
 obtain ⟨cn, zn⟩ := Zun H m hm
 obtain ⟨cb, zb⟩ := Zll H m hm
 obtain ⟨co, zo⟩ := Ycv H m hm
 have hmi : (m : Int) < (n : Int) := by omega
 simp only [] at bm bn bb bo
 have n1 : A.n ≠ A.gn := Zg H.nd 3 9 rfl rfl (by decide)
 have n2 : A.n ≠ A.gb := Zg H.nd 3 10 rfl rfl (by decide)
 have n3 : A.n ≠ A.go := Zg H.nd 3 11 rfl rfl (by decide)
 have n4 : A.b ≠ A.gn := Zg H.nd 4 9 rfl rfl (by decide)
 have n5 : A.b ≠ A.gb := Zg H.nd 4 10 rfl rfl (by decide)
 have n6 : A.b ≠ A.go := Zg H.nd 4 11 rfl rfl (by decide)
 have n7 : A.o ≠ A.gn := Zg H.nd 5 9 rfl rfl (by decide)
 have n8 : A.o ≠ A.gb := Zg H.nd 5 10 rfl rfl (by decide)
 have n9 : A.o ≠ A.go := Zg H.nd 5 11 rfl rfl (by decide)
 have n10 : A.m ≠ A.gn := Zg H.nd 8 9 rfl rfl (by decide)
 have n11 : A.m ≠ A.gb := Zg H.nd 8 10 rfl rfl (by decide)
 have n12 : A.m ≠ A.go := Zg H.nd 8 11 rfl rfl (by decide)
 have n13 : A.gn ≠ A.gb := Zg H.nd 9 10 rfl rfl (by decide)
 have n14 : A.gn ≠ A.go := Zg H.nd 9 11 rfl rfl (by decide)
 have n15 : A.gb ≠ A.go := Zg H.nd 10 11 rfl rfl (by decide)
 clear H
 go_region
 clear cn cb co zn zb zo bm bn bb bo
 simp only [Exit.then]
 refine hK _ _ ?_
 clear hK K
 have H2 := Xg (Yxw (Zni (Yxx HH1.out m M) m M) m true) (Zf (Ze _ none))
 have OLD2 := Zkw (Zdf (b := A.go) (o := m) (v := .bool true) (Zdf (b := A.gb) (o := m) (v := .int .i64 (M : Int)) (Zdf (b := A.gn) (o := m) (v := .int .i64 (M : Int)) HOLD.out (Zpo HH1.out (by simp [LA.all]))) (Zpo HH1.out (by simp [LA.all]))) (Zpo HH1.out (by simp [LA.all]))) (Zf (Ze _ none))
 simp only [] at H2
 have HH2 := Hq H2
 have HOLD2 := Hq OLD2
 clear H2 OLD2 HH1 HOLD n1 n2 n3 n4 n5 n6 n7 n8 n9 n10 n11 n12 n13 n14 n15
 generalize (((w1.setCell ⟨A.gn, m, none⟩ (.int .i64 (M : Int))).setCell ⟨A.gb, m, none⟩ (.int .i64 (M : Int))).setCell ⟨A.go, m, none⟩ (.bool true)).drew = w2 at *
 clear w1
 obtain ⟨ii, ii0, ii1, ii2, ii3⟩ := info_parts Zaz
 obtain ⟨ip, ip0, ip1, ip2, ip3⟩ := info_parts Ycg
 have hc3 : row.length + 1 <= maxLen := by unfold maxLen; omega
 have hc4 : (row.length + 1) * 8 <= 140737488355328 := by omega
 have hc5 : way.length + 1 <= maxLen := by unfold maxLen; omega
 have hc6 : (way.length + 1) * 16 <= 140737488355328 := by omega
 have hE2 : R <= (w2.alloc (.cells #[.int .i64 m] 3)).heap.size := by have := HH2.out.rs; simp; omega
 have br := Zn HH2.out.br
 have sr := (Gs HH2.out.br)
 have hwr : A.w ≠ A.r := Zg HH2.out.nd 7 6 rfl rfl (by decide)
 go_wp2_with (first
  | (at_builtin; refine wpList_append_own_at _ rfl _ _ 47 rfl R 3 ii (.int .i64 0) 1 8 Zcd ii0 ii1 ii2 ii3 rfl (by decide) vr _ _ rfl (HH2.out.rr.alloc _) ⟨w2.heap.size, 0, none⟩ 1 1 [.int .i64 m] rfl rfl (Zao w2 _ _) (Zae _ _) hc3 hc4 hE2 ?_; intro v3 w3 hown3 hgr3 hnil3 hat3; obtain ⟨g3, e3, hv3⟩ := Yk hown3; subst hv3; have M3 := Ysh HH2.out hgr3; have k3 := Zn M3.1; have z3 := Zdv M3.1; have k4 := Zn M3.2; have s3 := (Gs M3.1); have s4 := (Gs M3.2); have H3 := Hq (Yxv HH2.out hown3 hgr3); have O3 := Hq (Zdf (b := A.r) (o := 0) (v := .slice (some ⟨g3, 0, none⟩) (row.length + 1) e3) (Yck HOLD2.out (Za (Ga w2 _ _) hgr3) (Ywt HH2.out)) (Zpo HH2.out (by simp [LA.all]))); have hE3 : R <= ((w3.setCell ⟨A.r, 0, none⟩ (.slice (some ⟨g3, 0, none⟩) (row.length + 1) e3)).alloc (.cells #[.int .i64 m, .int .i64 0] 139)).heap.size := (by have := H3.out.rs; simp at this; simp; omega); clear hown3 hgr3 hnil3 hat3 M3)
  | (at_builtin; refine Zjw rfl _ _ 137 rfl R 139 ip (.agg #[.int .i64 0, .int .i64 0]) 2 16 Ygh ip0 ip1 ip2 ip3 rfl (by decide) vw _ _ rfl (H3.out.rw_.alloc _) ⟨w3.heap.size, 0, none⟩ 1 1 [.int .i64 m, .int .i64 0] rfl rfl (Yrr w3 A.r 0 _ _ _ _) (Zqm _ _ _) hc5 hc6 hE3 ?_; intro v5 w5 hown5 hgr5 hold5; obtain ⟨g5, e5, hv5⟩ := Yk hown5; subst hv5; have M5 := Yrn H3.out hgr5; have k5 := Zn M5; have z5 := Zdv M5; have s5 := (Gs M5); have H5 := Hq (Yxu H3.out hown5 hgr5); have O5 := Hq (Zdf (b := A.w) (o := 0) (v := .slice (some ⟨g5, 0, none⟩) (way.length + 1) e5) (Ycl (Zkw O3.out (Ga _ _ none)) hold5) (Zpo HH2.out (by simp [LA.all]))); clear hown5 hgr5 hold5 M5))
 refine bodyPost_end0 rfl rfl ?_
 have H9 := H5.out
 have O9 := O5.out
 subst hM
 exact ⟨⟨_, rfl⟩, .slice (some ⟨g3, 0, none⟩) (row.length + 1) e3, .slice (some ⟨g5, 0, none⟩) (way.length + 1) e5, H9, O9⟩
def nxL (code : List (Int × Int)) (h : List Int) (x : Nat) : List Nat := match code[x]? with | some p => (nxE (h.getD x 0) code.length p.1 p.2 x).map Int.toNat | none => []
theorem Yih (op a pl : Int) : (Ji op a pl).length <= 2 := by
 have := Zgw op a pl
 omega
theorem Zui {len : Nat} {op a pl n : Int} (h : n ∈ Zlj len op a pl) : 0 <= n /\ n < len := by
 unfold Zlj at h
 have := (List.mem_filter.1 h).2
 simp at this
 omega
theorem Ygr {hv : Int} {len : Nat} {op a pl n : Int} (h : n ∈ nxE hv len op a pl) : 0 <= n /\ n < len := by
 unfold nxE at h
 split at h
 · cases h
 · exact Zui h
theorem Ygs (hv : Int) (len : Nat) (op a pl : Int) : (nxE hv len op a pl).length <= 2 := by
 unfold nxE
 split
 · simp
 · unfold Zlj; exact Nat.le_trans (List.length_filter_le _ _) (Yih op a pl)
theorem Zkx {code : List (Int × Int)} {h : List Int} (x : Nat) : ∀ y ∈ nxL code h x, y < code.length := by
 intro y hy
 unfold nxL at hy
 split at hy
 · obtain ⟨z, hz, rfl⟩ := List.mem_map.1 hy
   have := Ygr hz
   omega
 · cases hy
theorem Ysu (code : List (Int × Int)) (h : List Int) (x : Nat) : (nxL code h x).length <= 2 := by
 unfold nxL
 split
 · rw [List.length_map]; exact Ygs _ _ _ _ _
 · simp
theorem Yxk {code : List (Int × Int)} {h : List Int} {x : Nat} {op a : Int} (hx : code[x]? = some (op, a)) : (nxL code h x).length = (nxE (h.getD x 0) code.length op a x).length /\ ∀ (j m : Nat), (nxL code h x)[j]? = some m -> (nxE (h.getD x 0) code.length op a x)[j]? = some (m : Int) := by
 unfold nxL
 rw [hx]
 refine ⟨by rw [List.length_map], fun j m hj => ?_⟩
 simp only [List.getElem?_map] at hj
 cases hz : (nxE (h.getD x 0) code.length op a x)[j]? with
 | none => rw [hz] at hj; cases hj
 | some z =>
   rw [hz] at hj
   simp at hj
   have := Ygr (List.mem_of_getElem? hz)
   congr 1
   omega
def Xo (s : TS) : LS := ⟨s.num, s.back, s.on, s.inn, Xp s.S, s.S.reverse.map fun f => ((f.at_ : Int), (f.done : Int)), s.met⟩
theorem Zzz : ∀ (n : Nat) (l : List Nat), l.Nodup -> (∀ x ∈ l, x < n) -> l.length <= n
 | 0, l, _, h => by
   cases l with
   | nil => simp
   | cons x r => exact absurd (h x (by simp)) (by omega)
 | n + 1, l, hn, h => by
   have h1 := Zzz n (l.erase n) (hn.erase n) fun x hx => by
    have h2 := hn.mem_erase_iff.1 hx
    have := h x h2.2
    omega
   rw [List.length_erase] at h1
   split at h1 <;> omega
theorem Ypz : ∀ S : List Fr, S.length <= (Xp S).length
 | [] => by simp
 | f :: r => by have := Ypz r; simp [Xp]; omega
theorem Zco {n : Nat} {next : Nat -> List Nat} {s : TS} (I : Zmi n next s) : (Xp s.S).length <= n /\ s.S.length <= n := by
 have h1 := Zzz n _ I.nd I.lt
 have := Ypz s.S
 omega
def ts0 (n : Nat) : TS := ⟨(List.replicate n 0).set 0 1, (List.replicate n 0).set 0 1, (List.replicate n false).set 0 true, List.replicate n false, [⟨0, 0, []⟩], 1, []⟩
theorem Yau {α : Type} (n i : Nat) (x d : α) (h : i < n) : (List.replicate n x).getD i d = x := by simp [List.getD_eq_getElem?_getD, h]
theorem Zez {α : Type} (n i : Nat) (x y d : α) (h : i < n) : ((List.replicate n x).set 0 y).getD i d = if i = 0 then y else x := by
 rw [Zt _ _ _ _ _ (by simp; omega)]
 by_cases e : i = 0
 · rw [if_pos e, if_pos e]
 · rw [if_neg e, if_neg e, Yau _ _ _ _ h]
theorem Yfj {n : Nat} {next : Nat -> List Nat} (h : 1 <= n) : Zmi n next (ts0 n) /\ 4 * (ts0 n).met + Zai n (ts0 n).num <= 4 * n := by
 refine ⟨⟨by simp [ts0], by simp [ts0], by simp [ts0], by simp [ts0], ?_, ?_, ?_, ?_, ?_, ?_, ?_, ?_, ?_⟩, ?_⟩
 · intro f hf; simp [ts0] at hf; subst hf; simp
 · intro x hx; simp [ts0, Xp] at hx; omega
 · simp [ts0, Xp]
 · intro x hx
   simp only [ts0, Xp]
   rw [Zez _ _ _ _ _ hx]
   by_cases e : x = 0
   · simp [e]
   · simp [e]
 · intro x hx
   simp [ts0, Xp] at hx
   subst hx
   simp only [ts0]
   rw [Zez _ _ _ _ _ (by omega)]; simp
 · intro x hx
   simp [ts0, Xp] at hx
   subst hx
   simp only [ts0]
   rw [Zez _ _ _ _ _ (by omega)]; simp
 · simp only [ts0, Zxs]
   rw [Zez _ _ _ _ _ (by omega)]; simp
 · right
   refine ⟨?_, ?_, ?_, trivial⟩
   · intro f hf; simp [ts0] at hf; subst hf; simp [ts0]
   · intro x hx hne
     simp only [ts0] at hne
     rw [Zez _ _ _ _ _ hx] at hne
     left
     simp only [ts0, Xp]
     by_cases e : x = 0
     · simp [e]
     · rw [if_neg e] at hne; exact absurd rfl hne
   · exact ⟨fun j hj => absurd hj (Nat.not_lt_zero _), trivial⟩
 · simp only [ts0]
   rw [Zez _ _ _ _ _ (by omega)]; simp
 · have h1 := Zjz (n := n) (m := 0) (v := 1) (num := List.replicate n 0) (by simp) (by omega) (Yau _ _ _ _ (by omega)) (by decide)
   have h2 : Zai n (List.replicate n 0) <= 4 * n := by
    unfold Zai
    have : ∀ l : List Nat, (l.map fun x => if (List.replicate n 0).getD x 0 = 0 then 4 else 0).sum <= 4 * l.length := by
     intro l
     induction l with
     | nil => simp
     | cons x r ih =>
       simp only [List.map_cons, List.sum_cons, List.length_cons]
       split <;> omega
    have := this (List.range n)
    rwa [List.length_range] at this
   simp only [ts0]
   omega
theorem Xs {s : TS} {f : Fr} {r : List Fr} (hS : s.S = f :: r) : (Xo s).way = (r.reverse.map fun f => ((f.at_ : Int), (f.done : Int))) ++ [((f.at_ : Int), (f.done : Int))] /\ (Xo s).way.length = r.length + 1 /\ (Xo s).way[r.length]? = some ((f.at_ : Int), (f.done : Int)) := by
 have h1 : (Xo s).way = (r.reverse.map fun f => ((f.at_ : Int), (f.done : Int))) ++ [((f.at_ : Int), (f.done : Int))] := by
  simp [Xo, hS]
 refine ⟨h1, by rw [h1]; simp, ?_⟩
 rw [h1, List.getElem?_append_right (by simp)]
 simp
section
variable {s : TS} {f : Fr} {r : List Fr}
theorem Zrq (hS : s.S = f :: r) : { Xo s with way := (Xo s).way.set r.length ((f.at_ : Int), ((f.done + 1 : Nat) : Int)) } = Xo { s with S := ⟨f.at_, f.done + 1, f.ex⟩ :: r } := by
 have h1 := (Xs hS).1
 unfold Xo at *
 simp only [hS] at *
 rw [h1, List.set_append_right _ _ (by simp)]
 simp [Xp]
theorem Yml (s : TS) (m : Nat) : Ybb (Xo s) m = Xo { s with num := s.num.set m (s.met + 1), back := s.back.set m (s.met + 1), on := s.on.set m true, S := ⟨m, 0, []⟩ :: s.S, met := s.met + 1 } := by
 unfold Ybb Xo
 simp [Xp]
theorem Yqi (hS : s.S = f :: r) : (Xo s).way.take r.length = r.reverse.map fun f => ((f.at_ : Int), (f.done : Int)) := by
 rw [(Xs hS).1, List.take_append_of_le_length (by simp), List.take_of_length_le (by simp)]
theorem Ytg {up : Fr} (hS : s.S = f :: up :: r) (back' : List Nat) : { Xo s with back := back', way := (Xo s).way.take (r.length + 1) } = Xo { s with back := back', S := ⟨up.at_, up.done, up.ex ++ f.at_ :: f.ex⟩ :: r } := by
 have h1 := Yqi hS
 simp only [List.length_cons] at h1
 rw [h1]
 unfold Xo
 simp [Xp, hS]
theorem Ygy (hS : s.S = f :: r) (back' : List Nat) (on' inn' : List Bool) (fin' : List Nat) : { Xo s with back := back', on := on', inn := inn', row := Xp r, way := (Xo s).way.take r.length } = Xo { s with back := back', on := on', inn := inn', S := r, fin := fin' } := by
 rw [Yqi hS]
 unfold Xo
 simp
theorem Zzl (hS : s.S = f :: r) : (Xo s).row = Xp r ++ f.at_ :: f.ex := by unfold Xo; simp [hS, Xp]
end
theorem Zve (q : Nat -> Bool) (k : Nat) : (List.range (k + 1)).filter q = if q k = true then (List.range k).filter q ++ [k] else (List.range k).filter q := by
 rw [List.range_succ, List.filter_append]
 by_cases h : q k = true
 · rw [if_pos h]; simp [h]
 · rw [if_neg h]; simp [h]
theorem Zyc {q : Nat -> Bool} {n : Nat} (h : (List.range n).filter q = []) : ∀ x, x < n -> q x = false := by
 intro x hx
 cases hq : q x with
 | false => rfl
 | true =>
   have : x ∈ (List.range n).filter q := List.mem_filter.2 ⟨List.mem_range.2 hx, hq⟩
   rw [h] at this; cases this
theorem Ycu {w0 wr : World} {R gw n cw : Nat} {A : LA} {C : LC} {vr : Value} {s : TS} {f : Fr} {r : List Fr} (H : LpW w0 R A C vr (.slice (some ⟨gw, 0, none⟩) n cw) (Xo s) wr) (hS : s.S = f :: r) :
 n = r.length + 1 /\ wr.cell? ⟨gw, r.length * 2, none⟩ = some (.int .i64 f.at_) /\ wr.cell? ⟨gw, r.length * 2 + 1, none⟩ = some (.int .i64 f.done) /\ (∀ j, wr.frozen? ⟨gw, j, none⟩ = false) /\ gw < wr.heap.size := by
 obtain ⟨hw1, hwl, hwk⟩ := Xs hS
 have hn := H.rw_
 rw [hwl] at hn
 obtain ⟨g, c, hv⟩ := Yk hn
 injection hv with h1 h2 h3
 injection h1 with h1
 injection h1 with h1
 subst h1 h2 h3
 have hfl := Zds _ _ _ _ hwk
 have hx0 : wr.cell? ⟨gw, r.length * 2, none⟩ = some (.int .i64 f.at_) := by rw [hn.cellAt _ (by omega)]; exact hfl.1
 refine ⟨rfl, hx0, by rw [hn.cellAt _ (by omega)]; exact hfl.2, Jk hn, World.block_lt_of_cell? _ _ hx0⟩
theorem Ziq {w0 wr : World} {R : Nat} {A : LA} {C : LC} {vr vw : Value} {s : TS} {f : Fr} {r : List Fr} (H : LpW w0 R A C vr vw (Xo s) wr) (hS : s.S = f :: r) : ∃ gw cw, vw = .slice (some ⟨gw, 0, none⟩) (r.length + 1) cw := by
 have hn := H.rw_
 rw [(Xs hS).2.1] at hn
 exact Yk hn
theorem Zoz {s : TS} {f up : Fr} {r : List Fr} (hS : s.S = f :: up :: r) : (Xo s).way[r.length]? = some ((up.at_ : Int), (up.done : Int)) /\ (Xo s).way.length = r.length + 2 := by
 have h1 : (Xo s).way = (r.reverse.map fun f => ((f.at_ : Int), (f.done : Int))) ++ [((up.at_ : Int), (up.done : Int)), ((f.at_ : Int), (f.done : Int))] := by
  simp [Xo, hS]
 refine ⟨?_, by rw [h1]; simp⟩
 rw [h1, List.getElem?_append_right (by simp)]
 simp
def Yvl (code : List (Int × Int)) (h : List Int) : Prop := ∃ (rank : Nat -> Nat) (T : Nat -> Prop), T 0 /\ ∀ x, T x -> x < code.length /\ 0 <= h.getD x 0 /\ ∀ (op a : Int), code[x]? = some (op, a) -> ∀ y ∈ Zlj code.length op a x, 0 <= y /\ T y.toNat /\ rank y.toNat < rank x
theorem Ylr {code : List (Int × Int)} {h : List Int} (hn : 1 <= code.length) (hz : h.getD 0 0 = 0) (hc : ∀ x, x < code.length -> 0 <= h.getD x 0 -> ∀ y ∈ Zgs code x, y < code.length /\ 0 <= h.getD y 0) (hA : Yvw (nxL code h)) : Yvl code h := by
 obtain ⟨rank, T, h0, hT⟩ := hA
 refine ⟨rank, fun x => T x /\ x < code.length /\ 0 <= h.getD x 0, ⟨h0, by omega, by omega⟩, fun x hx => ⟨hx.2.1, hx.2.2, fun op a hop y hy => ?_⟩⟩
 have hy1 := Zui hy
 have hm1 : y.toNat ∈ nxL code h x := by
  unfold nxL
  rw [hop]
  refine List.mem_map.2 ⟨y, ?_, rfl⟩
  unfold nxE
  rw [if_neg (by omega)]
  exact hy
 have hm2 : y.toNat ∈ Zgs code x := by
  unfold Zgs
  rw [hop]
  refine List.mem_map.2 ⟨y, ?_, rfl⟩
  unfold Zlj at hy
  exact (List.mem_filter.1 hy).1
 obtain ⟨t1, t2⟩ := hT x hx.1 _ hm1
 obtain ⟨t3, t4⟩ := hc x hx.2.1 hx.2.2 _ hm2
 exact ⟨hy1.1, ⟨t1, t3, t4⟩, t2⟩
end Go.Proofs.Ytecaolkbllbokaa.CK
