import Derived.Test.YtecaolkbllbokaaMT22
import Derived.Test.YtecaolkbllbokaaMT23
import Derived.Test.YtecaolkbllbokaaMT20
set_option linter.unusedSimpArgs false
set_option linter.unusedVariables false
set_option maxRecDepth 100000
set_option maxHeartbeats 16000000
namespace Go.Proofs.Ytecaolkbllbokaa.CK
open Go.RowKit Go.Great
def Zlj (len : Nat) (op a pl : Int) : List Int := (Ji op a pl).filter fun n => decide (0 <= n) && decide (n < len)
theorem Zyb {L : List Int} {q : Int -> Bool} {k : Nat} {n : Int} (h : L[k]? = some n) : (L.take (k + 1)).filter q = if q n = true then (L.take k).filter q ++ [n] else (L.take k).filter q := by
 obtain ⟨hk, e⟩ := List.getElem?_eq_some_iff.1 h
 rw [List.take_succ_eq_append_getElem hk, List.filter_append, e]
 by_cases hq : q n = true
 · rw [if_pos hq]; simp [hq]
 · rw [if_neg hq]; simp [hq]
theorem Yaa (mem : Int) (vd : Value) (fs : List FnP) (pF : Option Addr) (cF B f at_ : Nat) (fn : FnP) (op a : Int) (w : World) (hvd : ∃ p n c, vd = .slice p n c) (hB : B <= w.heap.size) (hF : Zam w B pF fs) (hS : Zon fs f at_ fn op a) :
 Calls Try.prog 59 #[.agg #[.int .i64 mem, vd, .slice pF fs.length cF], .agg #[.int .i64 f, .int .i64 at_]] w (Zfw w (Zlj fn.2.2.2.length op a at_)) := by
 obtain ⟨pd, nd, cd, rfl⟩ := hvd
 have g2 := Za (Ga w (.cells #[.int .i64 mem, .slice pd nd cd, .slice pF fs.length cF] 32) none) (Ga _ (.cells #[.int .i64 f, .int .i64 at_] 59) none)
 have I := Hq (Zuu mem (.slice pd nd cd) fs pF cF B f at_ fn op a _ ⟨_, _, _, rfl⟩ (Nat.le_trans hB g2.size) (Yb hF g2 (by simp)) hS)
 obtain ⟨ar, lo, r, c⟩ := fn
 have hf1 := (List.getElem?_eq_some_iff.1 hS.isf).1
 have ha1 := (List.getElem?_eq_some_iff.1 hS.ins).1
 have hnf := hS.nf
 have hnc := hS.nc
 simp only [] at ha1 hnc
 obtain ⟨b, o, rfl, hb, hc⟩ := hF (by omega)
 obtain ⟨-, -, -, pc, cc, c3, -⟩ := hc f ar lo r c hS.isf
 have hb2 : b < w.heap.size := by omega
 have q1 : (f : Int) < (fs.length : Int) := by omega
 have hci : (c.length : Int) <= 4096 := by omega
 have GO := Hq (fun (W : World) => Zsc op a at_ W (by omega) (by omega))
 obtain ⟨ii, ii0, ii1, ii2, ii3⟩ := info_parts Zaz
 have hb0 := Zct w (.cells #[.int .i64 mem, .slice pd nd cd, .slice (some ⟨b, o, none⟩) fs.length cF] 32) (.cells #[.int .i64 f, .int .i64 at_] 59)
 have hb1 := Jp w (.cells #[.int .i64 mem, .slice pd nd cd, .slice (some ⟨b, o, none⟩) fs.length cF] 32) (.cells #[.int .i64 f, .int .i64 at_] 59)
 have HB0 := Hq hb0
 have HB1 := Hq hb1
 have G2 := Hq g2
 have hLi : ((Ji op a at_).length : Int) <= 2 := by have := Zgw op a at_; omega
 simp only []
 unfold Zlj
 clear hc hS hF hb0 hb1 g2
 generalize Ji op a at_ = L at *
 go_enter Try.func59, Try.ntmps59
 go_wp2_with (first
  | (go_at_call 95; refine I.out.mono ?_; rintro e w3 ⟨rfl, hg3⟩; have k0 := Zc HB0.out hg3 (by simp); have k1 := Zc HB1.out hg3 (by simp); have K0 := Hq k0; have K1 := Hq k1; have G3 := Hq (Za G2.out hg3); have y1 := Cq _ _ 1 _ _ _ k1; have s1 := (Gs k1); clear k0 k1 hg3)
  | (go_at_call 57; refine (GO.out _).mono ?_; rintro e w4 ⟨v4, rfl, hg4, ho4⟩; obtain ⟨p4, k4, hv4⟩ := Zm ho4; subst hv4; have hgA := Za (Ga w3 (.cells #[.int .i64 op, .int .i64 a] 75) none) hg4; have HG0 := Hq (Zc K0.out hgA (by simp)); have HG1 := Hq (Zc K1.out hgA (by simp)); have G4 := Hq (Za G3.out hgA); have O4 := Hq ho4; clear y1 s1 hg4 ho4 hgA))
 replace c3 := G4.out.cell c3 (by simp)
 have hb4 : b < w4.heap.size := by have := G4.out.size; omega
 clear K0 K1 G3 G2 HB0 HB1 I GO
 go_loopw [7, 23] (fun v i wr => ∃ k : Nat, i = .int .i64 k /\ k <= L.length /\ wr.ownsRow w4.heap.size 3 1 v ((L.take k).filter fun n => decide (0 <= n) && decide (n < (c.length : Int))).length (((L.take k).filter fun n => decide (0 <= n) && decide (n < (c.length : Int))).map (Value.int .i64)) /\ w4.grownBy wr none) (fun _ i _ => L.length - (intOf i).toNat)
 case atStart => exact ⟨0, rfl, Nat.zero_le _, World.ownsRow_nil _ _ _ _, Ze _ _⟩
 case round =>
  obtain ⟨k, rfl, hk, hown, hg⟩ := hrel
  obtain ⟨pv, cv, hv⟩ := Zm hown
  subst hv
  have OV := Hq hown
  have GV := Hq hg
  by_cases hlt : (k : Int) < (L.length : Int)
  · obtain ⟨n, hn⟩ : ∃ n, L[k]? = some n := ⟨_, List.getElem?_eq_getElem (by omega)⟩
    obtain ⟨gL, kL, eL, lL, cL⟩ := Xa (O4.out.kept hg (Classical.em _)) (by omega)
    injection eL with eL1 eL2 eL3
    subst eL1
    have cn := cL k (.int .i64 n) (by rw [List.getElem?_map, hn]; rfl) (by omega)
    have k0 := Zc HG0.out hg (by simp)
    have k1 := Zc HG1.out hg (by simp)
    have x2 := Cq _ _ 2 _ _ _ k0
    have y0 := Cq _ _ 0 _ _ _ k1
    have s0 := (Gs k0)
    have s1 := (Gs k1)
    have e3 := hg.cell c3 (by simp)
    have hb5 : b < wr.heap.size := by have := hg.size; omega
    have HFT := Hq (Zyb (q := fun n => decide (0 <= n) && decide (n < (c.length : Int))) hn)
    have hml : (((L.take k).filter fun n => decide (0 <= n) && decide (n < (c.length : Int))).length : Int) <= 2 := by
     have h1 := List.length_filter_le (fun n => decide (0 <= n) && decide (n < (c.length : Int))) (L.take k)
     have h2 := List.length_take_le k L
     omega
    clear cL hown hg k0 k1 hn
    generalize (L.take k).filter (fun n => decide (0 <= n) && decide (n < (c.length : Int))) = M at *
    have hc3 : M.length + 1 <= maxLen := by unfold maxLen; omega
    have hc4 : (M.length + 1) * 8 <= 140737488355328 := by omega
    by_cases h0 : 0 <= n
    · by_cases h1 : n < (c.length : Int)
      · have hq := HFT.out
        rw [if_pos (by simp [h0, h1])] at hq
        have HQ := Hq hq
        have hE : w4.heap.size <= (wr.alloc (.cells #[.int .i64 n] 3)).heap.size := by have := GV.out.size; simp; omega
        clear hq HFT
        go_wp2_with (at_builtin; refine wpList_append_own_at _ rfl _ _ 47 rfl w4.heap.size 3 ii (.int .i64 0) 1 8 Zcd ii0 ii1 ii2 ii3 rfl (by decide) (.slice pv M.length cv) _ _ rfl (OV.out.alloc _) ⟨wr.heap.size, 0, none⟩ 1 1 [.int .i64 n] rfl rfl (Zao wr _ _) (Zae _ _) hc3 hc4 hE ?_; intro v3 w5 hown3 hgr3 hnil3 hat3; obtain ⟨p3, k3, hv3⟩ := Zm hown3; subst hv3; have OW3 := Hq hown3; have GR3 := Hq hgr3; clear hown3 hgr3 hnil3 hat3)
        refine ⟨⟨_, _, _, ⟨k + 1, rfl, by omega, ?_, Zbb (Za GV.out (Ga _ _ none)) GR3.out fun q hq => (OV.out.lt q hq).1⟩, rfl, rfl, by go_num⟩, by simp [intOf]; omega⟩
        rw [HQ.out, List.length_append, List.map_append]
        exact OW3.out
      · have hq := HFT.out
        rw [if_neg (by simp; omega)] at hq
        have HQ := Hq hq
        clear hq HFT
        go_wp2
        refine ⟨⟨k + 1, by go_num, by omega, ?_, GV.out⟩, by simp [intOf]; omega⟩
        rw [HQ.out]
        exact OV.out
    · have hq := HFT.out
      rw [if_neg (by simp; omega)] at hq
      have HQ := Hq hq
      clear hq HFT
      go_wp2
      refine ⟨⟨k + 1, by go_num, by omega, ?_, GV.out⟩, by simp [intOf]; omega⟩
      rw [HQ.out]
      exact OV.out
  · have hkn : L.take k = L := List.take_of_length_le (by omega)
    rw [hkn] at hown ⊢
    have OF := Hq hown
    clear hown hg OV hkn
    go_wp2
    go_ret
    have := GV.out.size
    have := G4.out.size
    exact ⟨_, rfl, Za G4.out GV.out, Yr (base := w4.heap.size) OF.out (by omega)⟩
theorem Zg {l : List Nat} (h : l.Nodup) (i j : Nat) {x y : Nat} (hi : l[i]? = some x) (hj : l[j]? = some y) (hij : i ≠ j) : x ≠ y := by
 obtain ⟨a1, a2⟩ := List.getElem?_eq_some_iff.1 hi
 obtain ⟨b1, b2⟩ := List.getElem?_eq_some_iff.1 hj
 have hp := List.pairwise_iff_getElem.1 h
 rcases Nat.lt_or_gt_of_ne hij with c | c
 · have := hp i j a1 b1 c; rw [a2, b2] at this; exact this
 · have := hp j i b1 a1 c; rw [a2, b2] at this; exact fun e => this e.symm
structure LA where
 p : Nat
 f : Nat
 h : Nat
 n : Nat
 b : Nat
 o : Nat
 r : Nat
 w : Nat
 m : Nat
 gn : Nat
 gb : Nat
 go : Nat
 gi : Nat
def LA.all (A : LA) : List Nat := [A.p, A.f, A.h, A.n, A.b, A.o, A.r, A.w, A.m, A.gn, A.gb, A.go, A.gi]
structure LC where
 mem : Int
 vd : Value
 vF : Value
 f : Nat
 vh : Value
 n : Nat
structure LS where
 num : List Nat
 back : List Nat
 on : List Bool
 inn : List Bool
 row : List Nat
 way : List (Int × Int)
 met : Nat
def Zfc (l : List Nat) : List Value := l.map fun (x : Nat) => Value.int .i64 (x : Int)
def Bx (w : World) (b : Nat) (t : TypeId) (v : Value) : Prop := w.heap[b]? = some (.cells #[v] t (0, 0))
theorem Zn {w : World} {b : Nat} {t : TypeId} {v : Value} (h : Bx w b t v) : w.cell? ⟨b, 0, none⟩ = some v := Cq _ _ 0 _ _ _ h
theorem Zdv {w : World} {b : Nat} {t : TypeId} {v : Value} (h : Bx w b t v) : w.frozen? ⟨b, 0, none⟩ = false := frozen_of_row _ _ 0 _ _ h
theorem Zvs {w : World} {b : Nat} {t : TypeId} {v u : Value} (h : Bx w b t v) : Bx (w.setCell ⟨b, 0, none⟩ u) b t u := by
 unfold Bx; rw [Zh h]; rfl
theorem Zov {P : Nat -> Prop} {w w' : World} {b : Nat} {t : TypeId} {v : Value} (h : Bx w b t v) (g : Sp P w w') (hp : ¬ P b) : Bx w' b t v := by
 unfold Bx; rw [g.block b (Gs h) hp]; exact h
structure LpW (w0 : World) (R : Nat) (A : LA) (C : LC) (vr vw : Value) (s : LS) (wr : World) : Prop where
 gr : w0.grownBy wr none
 nd : A.all.Nodup
 lo : ∀ a ∈ A.all, w0.heap.size <= a
 hi : ∀ a ∈ A.all, a < R
 rs : R <= wr.heap.size
 bp : Yeo wr A.p C.mem C.vd C.vF
 bf : Bx wr A.f 3 (.int .i64 C.f)
 bh : Bx wr A.h 47 C.vh
 bn : Bx wr A.n 47 (.slice (some ⟨A.gn, 0, none⟩) C.n C.n)
 bb : Bx wr A.b 47 (.slice (some ⟨A.gb, 0, none⟩) C.n C.n)
 bo : Bx wr A.o 55 (.slice (some ⟨A.go, 0, none⟩) C.n C.n)
 br : Bx wr A.r 47 vr
 bw : Bx wr A.w 137 vw
 bm : Bx wr A.m 3 (.int .i64 (s.met : Int))
 rn : wr.ownsRow w0.heap.size 3 1 (.slice (some ⟨A.gn, 0, none⟩) C.n C.n) C.n (Zfc s.num)
 rb : wr.ownsRow w0.heap.size 3 1 (.slice (some ⟨A.gb, 0, none⟩) C.n C.n) C.n (Zfc s.back)
 ro : wr.ownsRow w0.heap.size 4 1 (.slice (some ⟨A.go, 0, none⟩) C.n C.n) C.n (s.on.map Value.bool)
 ri : wr.ownsRow w0.heap.size 4 1 (.slice (some ⟨A.gi, 0, none⟩) C.n C.n) C.n (s.inn.map Value.bool)
 rr : wr.ownsRow R 3 1 vr s.row.length (Zfc s.row)
 rw_ : wr.ownsRow R 139 2 vw s.way.length (Xi s.way)
section
variable {w0 wr wr' : World} {R : Nat} {A : LA} {C : LC} {vr vw : Value} {s : LS}
structure LpF (P : Nat -> Prop) (w0 : World) (R : Nat) (A : LA) (C : LC) (vr vw : Value) (s : LS) (wr : World) : Prop where
 gr : w0.grownBy wr none
 rs : R <= wr.heap.size
 bp : ¬ P A.p -> Yeo wr A.p C.mem C.vd C.vF
 bf : ¬ P A.f -> Bx wr A.f 3 (.int .i64 C.f)
 bh : ¬ P A.h -> Bx wr A.h 47 C.vh
 bn : ¬ P A.n -> Bx wr A.n 47 (.slice (some ⟨A.gn, 0, none⟩) C.n C.n)
 bb : ¬ P A.b -> Bx wr A.b 47 (.slice (some ⟨A.gb, 0, none⟩) C.n C.n)
 bo : ¬ P A.o -> Bx wr A.o 55 (.slice (some ⟨A.go, 0, none⟩) C.n C.n)
 br : ¬ P A.r -> Bx wr A.r 47 vr
 bw : ¬ P A.w -> Bx wr A.w 137 vw
 bm : ¬ P A.m -> Bx wr A.m 3 (.int .i64 (s.met : Int))
 rn : ¬ P A.gn -> wr.ownsRow w0.heap.size 3 1 (.slice (some ⟨A.gn, 0, none⟩) C.n C.n) C.n (Zfc s.num)
 rb : ¬ P A.gb -> wr.ownsRow w0.heap.size 3 1 (.slice (some ⟨A.gb, 0, none⟩) C.n C.n) C.n (Zfc s.back)
 ro : ¬ P A.go -> wr.ownsRow w0.heap.size 4 1 (.slice (some ⟨A.go, 0, none⟩) C.n C.n) C.n (s.on.map Value.bool)
 ri : ¬ P A.gi -> wr.ownsRow w0.heap.size 4 1 (.slice (some ⟨A.gi, 0, none⟩) C.n C.n) C.n (s.inn.map Value.bool)
 rr : (∀ k, vr.ownBlock = some k -> ¬ P k) -> wr.ownsRow R 3 1 vr s.row.length (Zfc s.row)
 rw_ : (∀ k, vw.ownBlock = some k -> ¬ P k) -> wr.ownsRow R 139 2 vw s.way.length (Xi s.way)
theorem Zqy {a k : Nat} {P : Nat -> Prop} {n c : Nat} (h : ¬ P a) (e : (Value.slice (some ⟨a, 0, none⟩) n c).ownBlock = some k) : ¬ P k := by
 simp only [Value.ownBlock] at e; injection e with e; subst e; exact h
theorem Znh {P : Nat -> Prop} (H : LpW w0 R A C vr vw s wr) (g : Sp P wr wr') (hp : ∀ k, k < w0.heap.size -> ¬ P k) : LpF P w0 R A C vr vw s wr' :=
 ⟨Zdm (Zr (Zl (P := fun _ => False) H.gr (fun _ _ e => by cases e)) (Zaq g fun _ _ h => h) (fun k hk h => hp k hk h)) (fun _ _ h => h),
  Nat.le_trans H.rs g.size, fun h => by unfold Yeo; rw [g.block _ (Gs H.bp) h]; exact H.bp, Zov H.bf g, Zov H.bh g, Zov H.bn g, Zov H.bb g, Zov H.bo g, Zov H.br g, Zov H.bw g, Zov H.bm g,
  fun h => Yz H.rn g (fun _ => Zqy h), fun h => Yz H.rb g (fun _ => Zqy h), fun h => Yz H.ro g (fun _ => Zqy h), fun h => Yz H.ri g (fun _ => Zqy h), fun h => Yz H.rr g h, fun h => Yz H.rw_ g h⟩
theorem Jf (H : LpW w0 R A C vr vw s wr) {k : Nat} (h : vr.ownBlock = some k) : R <= k /\ k < wr.heap.size := H.rr.lt k h
theorem Yn (H : LpW w0 R A C vr vw s wr) {k : Nat} (h : vw.ownBlock = some k) : R <= k /\ k < wr.heap.size := H.rw_.lt k h
theorem Zfx (w : World) (b o : Nat) (v : Value) : Sp (fun k => k = b) w (w.setCell ⟨b, o, none⟩ v) := Zl (Zd w b o v) (fun k _ e => by injection e with e; exact e.symm)
theorem Yab (l : List Nat) (i v : Nat) : (Zfc l).set i (.int .i64 (v : Int)) = Zfc (l.set i v) := by unfold Zfc; rw [List.map_set]
theorem Zip (l m : List Nat) : Zfc (l ++ m) = Zfc l ++ Zfc m := by unfold Zfc; rw [List.map_append]
theorem Ygu (l : List Nat) (k : Nat) : (Zfc l).take k = Zfc (l.take k) := by unfold Zfc; rw [List.map_take]
theorem Zvd : ∀ (l : List (Int × Int)) (k : Nat) (a d0 d : Int), l[k]? = some (a, d0) -> (Xi l).set (k * 2 + 1) (.int .i64 d) = Xi (l.set k (a, d))
 | [], k, a, d0, d, h => by simp at h
 | x :: r, 0, a, d0, d, h => by simp at h; subst h; simp [Xi]
 | x :: r, k + 1, a, d0, d, h => by
   have ih := Zvd r k a d0 d (by simpa using h)
   have e : (k + 1) * 2 + 1 = (k * 2 + 1) + 1 + 1 := by omega
   rw [e]
   simp only [Xi, List.set_cons_succ]
   rw [ih]
theorem Ydj (l : List (Int × Int)) (k : Nat) : (Xi l).take (k * 2) = Xi (l.take k) := by
 induction l generalizing k with
 | nil => simp [Xi]
 | cons x r ih =>
   cases k with
   | zero => simp [Xi]
   | succ k => have e : (k + 1) * 2 = k * 2 + 1 + 1 := by omega
               rw [e]; simp [Xi, ih]
theorem Yxx (H : LpW w0 R A C vr vw s wr) (m : Nat) (v : Nat) :
 LpW w0 R A C vr vw { s with num := (s.num.set m v) } (wr.setCell ⟨A.gn, m, none⟩ (.int .i64 (v : Int))) := by
 have F := Znh H (Zfx wr A.gn m (.int .i64 (v : Int))) (fun k hk e => by have := H.lo A.gn (by simp [LA.all]); omega)
 exact ⟨F.gr, H.nd, H.lo, H.hi, F.rs, F.bp (fun e => Zg H.nd 0 9 rfl rfl (by decide) e), F.bf (fun e => Zg H.nd 1 9 rfl rfl (by decide) e), F.bh (fun e => Zg H.nd 2 9 rfl rfl (by decide) e), F.bn (fun e => Zg H.nd 3 9 rfl rfl (by decide) e), F.bb (fun e => Zg H.nd 4 9 rfl rfl (by decide) e), F.bo (fun e => Zg H.nd 5 9 rfl rfl (by decide) e), F.br (fun e => Zg H.nd 6 9 rfl rfl (by decide) e), F.bw (fun e => Zg H.nd 7 9 rfl rfl (by decide) e), F.bm (fun e => Zg H.nd 8 9 rfl rfl (by decide) e), (by rw [<- Yab]; exact (H.rn.stored m (.int .i64 (v : Int))).1), F.rb (fun e => Zg H.nd 10 9 rfl rfl (by decide) e), F.ro (fun e => Zg H.nd 11 9 rfl rfl (by decide) e), F.ri (fun e => Zg H.nd 12 9 rfl rfl (by decide) e), F.rr (fun k hk e => by have h1 := Jf H hk; have h2 := H.hi A.gn (by simp [LA.all]); omega), F.rw_ (fun k hk e => by have h1 := Yn H hk; have h2 := H.hi A.gn (by simp [LA.all]); omega)⟩
theorem Zni (H : LpW w0 R A C vr vw s wr) (m : Nat) (v : Nat) :
 LpW w0 R A C vr vw { s with back := (s.back.set m v) } (wr.setCell ⟨A.gb, m, none⟩ (.int .i64 (v : Int))) := by
 have F := Znh H (Zfx wr A.gb m (.int .i64 (v : Int))) (fun k hk e => by have := H.lo A.gb (by simp [LA.all]); omega)
 exact ⟨F.gr, H.nd, H.lo, H.hi, F.rs, F.bp (fun e => Zg H.nd 0 10 rfl rfl (by decide) e), F.bf (fun e => Zg H.nd 1 10 rfl rfl (by decide) e), F.bh (fun e => Zg H.nd 2 10 rfl rfl (by decide) e), F.bn (fun e => Zg H.nd 3 10 rfl rfl (by decide) e), F.bb (fun e => Zg H.nd 4 10 rfl rfl (by decide) e), F.bo (fun e => Zg H.nd 5 10 rfl rfl (by decide) e), F.br (fun e => Zg H.nd 6 10 rfl rfl (by decide) e), F.bw (fun e => Zg H.nd 7 10 rfl rfl (by decide) e), F.bm (fun e => Zg H.nd 8 10 rfl rfl (by decide) e), F.rn (fun e => Zg H.nd 9 10 rfl rfl (by decide) e), (by rw [<- Yab]; exact (H.rb.stored m (.int .i64 (v : Int))).1), F.ro (fun e => Zg H.nd 11 10 rfl rfl (by decide) e), F.ri (fun e => Zg H.nd 12 10 rfl rfl (by decide) e), F.rr (fun k hk e => by have h1 := Jf H hk; have h2 := H.hi A.gb (by simp [LA.all]); omega), F.rw_ (fun k hk e => by have h1 := Yn H hk; have h2 := H.hi A.gb (by simp [LA.all]); omega)⟩
theorem Yxw (H : LpW w0 R A C vr vw s wr) (m : Nat) (v : Bool) :
 LpW w0 R A C vr vw { s with on := (s.on.set m v) } (wr.setCell ⟨A.go, m, none⟩ (.bool v)) := by
 have F := Znh H (Zfx wr A.go m (.bool v)) (fun k hk e => by have := H.lo A.go (by simp [LA.all]); omega)
 exact ⟨F.gr, H.nd, H.lo, H.hi, F.rs, F.bp (fun e => Zg H.nd 0 11 rfl rfl (by decide) e), F.bf (fun e => Zg H.nd 1 11 rfl rfl (by decide) e), F.bh (fun e => Zg H.nd 2 11 rfl rfl (by decide) e), F.bn (fun e => Zg H.nd 3 11 rfl rfl (by decide) e), F.bb (fun e => Zg H.nd 4 11 rfl rfl (by decide) e), F.bo (fun e => Zg H.nd 5 11 rfl rfl (by decide) e), F.br (fun e => Zg H.nd 6 11 rfl rfl (by decide) e), F.bw (fun e => Zg H.nd 7 11 rfl rfl (by decide) e), F.bm (fun e => Zg H.nd 8 11 rfl rfl (by decide) e), F.rn (fun e => Zg H.nd 9 11 rfl rfl (by decide) e), F.rb (fun e => Zg H.nd 10 11 rfl rfl (by decide) e), (by rw [List.map_set]; exact (H.ro.stored m (.bool v)).1), F.ri (fun e => Zg H.nd 12 11 rfl rfl (by decide) e), F.rr (fun k hk e => by have h1 := Jf H hk; have h2 := H.hi A.go (by simp [LA.all]); omega), F.rw_ (fun k hk e => by have h1 := Yn H hk; have h2 := H.hi A.go (by simp [LA.all]); omega)⟩
theorem Yqj (H : LpW w0 R A C vr vw s wr) (m : Nat) (v : Bool) :
 LpW w0 R A C vr vw { s with inn := (s.inn.set m v) } (wr.setCell ⟨A.gi, m, none⟩ (.bool v)) := by
 have F := Znh H (Zfx wr A.gi m (.bool v)) (fun k hk e => by have := H.lo A.gi (by simp [LA.all]); omega)
 exact ⟨F.gr, H.nd, H.lo, H.hi, F.rs, F.bp (fun e => Zg H.nd 0 12 rfl rfl (by decide) e), F.bf (fun e => Zg H.nd 1 12 rfl rfl (by decide) e), F.bh (fun e => Zg H.nd 2 12 rfl rfl (by decide) e), F.bn (fun e => Zg H.nd 3 12 rfl rfl (by decide) e), F.bb (fun e => Zg H.nd 4 12 rfl rfl (by decide) e), F.bo (fun e => Zg H.nd 5 12 rfl rfl (by decide) e), F.br (fun e => Zg H.nd 6 12 rfl rfl (by decide) e), F.bw (fun e => Zg H.nd 7 12 rfl rfl (by decide) e), F.bm (fun e => Zg H.nd 8 12 rfl rfl (by decide) e), F.rn (fun e => Zg H.nd 9 12 rfl rfl (by decide) e), F.rb (fun e => Zg H.nd 10 12 rfl rfl (by decide) e), F.ro (fun e => Zg H.nd 11 12 rfl rfl (by decide) e), (by rw [List.map_set]; exact (H.ri.stored m (.bool v)).1), F.rr (fun k hk e => by have h1 := Jf H hk; have h2 := H.hi A.gi (by simp [LA.all]); omega), F.rw_ (fun k hk e => by have h1 := Yn H hk; have h2 := H.hi A.gi (by simp [LA.all]); omega)⟩
theorem Yxz (H : LpW w0 R A C vr vw s wr) (v : Nat) :
 LpW w0 R A C vr vw { s with met := v } (wr.setCell ⟨A.m, 0, none⟩ (.int .i64 (v : Int))) := by
 have F := Znh H (Zfx wr A.m 0 (.int .i64 (v : Int))) (fun k hk e => by have := H.lo A.m (by simp [LA.all]); omega)
 exact ⟨F.gr, H.nd, H.lo, H.hi, F.rs, F.bp (fun e => Zg H.nd 0 8 rfl rfl (by decide) e), F.bf (fun e => Zg H.nd 1 8 rfl rfl (by decide) e), F.bh (fun e => Zg H.nd 2 8 rfl rfl (by decide) e), F.bn (fun e => Zg H.nd 3 8 rfl rfl (by decide) e), F.bb (fun e => Zg H.nd 4 8 rfl rfl (by decide) e), F.bo (fun e => Zg H.nd 5 8 rfl rfl (by decide) e), F.br (fun e => Zg H.nd 6 8 rfl rfl (by decide) e), F.bw (fun e => Zg H.nd 7 8 rfl rfl (by decide) e), Zvs H.bm, F.rn (fun e => Zg H.nd 9 8 rfl rfl (by decide) e), F.rb (fun e => Zg H.nd 10 8 rfl rfl (by decide) e), F.ro (fun e => Zg H.nd 11 8 rfl rfl (by decide) e), F.ri (fun e => Zg H.nd 12 8 rfl rfl (by decide) e), F.rr (fun k hk e => by have h1 := Jf H hk; have h2 := H.hi A.m (by simp [LA.all]); omega), F.rw_ (fun k hk e => by have h1 := Yn H hk; have h2 := H.hi A.m (by simp [LA.all]); omega)⟩
theorem Yti (H : LpW w0 R A C vr vw s wr) {g c k : Nat} (hv : vr = .slice (some ⟨g, 0, none⟩) s.row.length c) (hk : k <= s.row.length) :
 LpW w0 R A C (.slice (some ⟨g, 0, none⟩) k c) vw { s with row := s.row.take k } (wr.setCell ⟨A.r, 0, none⟩ (.slice (some ⟨g, 0, none⟩) k c)) := by
 subst hv
 have F := Znh H (Zfx wr A.r 0 (.slice (some ⟨g, 0, none⟩) k c)) (fun k hk e => by have := H.lo A.r (by simp [LA.all]); omega)
 exact ⟨F.gr, H.nd, H.lo, H.hi, F.rs, F.bp (fun e => Zg H.nd 0 6 rfl rfl (by decide) e), F.bf (fun e => Zg H.nd 1 6 rfl rfl (by decide) e), F.bh (fun e => Zg H.nd 2 6 rfl rfl (by decide) e), F.bn (fun e => Zg H.nd 3 6 rfl rfl (by decide) e), F.bb (fun e => Zg H.nd 4 6 rfl rfl (by decide) e), F.bo (fun e => Zg H.nd 5 6 rfl rfl (by decide) e), Zvs H.br, F.bw (fun e => Zg H.nd 7 6 rfl rfl (by decide) e), F.bm (fun e => Zg H.nd 8 6 rfl rfl (by decide) e), F.rn (fun e => Zg H.nd 9 6 rfl rfl (by decide) e), F.rb (fun e => Zg H.nd 10 6 rfl rfl (by decide) e), F.ro (fun e => Zg H.nd 11 6 rfl rfl (by decide) e), F.ri (fun e => Zg H.nd 12 6 rfl rfl (by decide) e), (by simp only [List.length_take, Nat.min_eq_left hk]; rw [<- Ygu]; have := Zfj (F.rr (fun k hk e => by have h1 := Jf H hk; have h2 := H.hi A.r (by simp [LA.all]); omega)) hk; rwa [Nat.mul_one] at this), F.rw_ (fun k hk e => by have h1 := Yn H hk; have h2 := H.hi A.r (by simp [LA.all]); omega)⟩
theorem Zxk (H : LpW w0 R A C vr vw s wr) {g c k : Nat} (hv : vw = .slice (some ⟨g, 0, none⟩) s.way.length c) (hk : k <= s.way.length) :
 LpW w0 R A C vr (.slice (some ⟨g, 0, none⟩) k c) { s with way := s.way.take k } (wr.setCell ⟨A.w, 0, none⟩ (.slice (some ⟨g, 0, none⟩) k c)) := by
 subst hv
 have F := Znh H (Zfx wr A.w 0 (.slice (some ⟨g, 0, none⟩) k c)) (fun k hk e => by have := H.lo A.w (by simp [LA.all]); omega)
 exact ⟨F.gr, H.nd, H.lo, H.hi, F.rs, F.bp (fun e => Zg H.nd 0 7 rfl rfl (by decide) e), F.bf (fun e => Zg H.nd 1 7 rfl rfl (by decide) e), F.bh (fun e => Zg H.nd 2 7 rfl rfl (by decide) e), F.bn (fun e => Zg H.nd 3 7 rfl rfl (by decide) e), F.bb (fun e => Zg H.nd 4 7 rfl rfl (by decide) e), F.bo (fun e => Zg H.nd 5 7 rfl rfl (by decide) e), F.br (fun e => Zg H.nd 6 7 rfl rfl (by decide) e), Zvs H.bw, F.bm (fun e => Zg H.nd 8 7 rfl rfl (by decide) e), F.rn (fun e => Zg H.nd 9 7 rfl rfl (by decide) e), F.rb (fun e => Zg H.nd 10 7 rfl rfl (by decide) e), F.ro (fun e => Zg H.nd 11 7 rfl rfl (by decide) e), F.ri (fun e => Zg H.nd 12 7 rfl rfl (by decide) e), F.rr (fun k hk e => by have h1 := Jf H hk; have h2 := H.hi A.w (by simp [LA.all]); omega), (by simp only [List.length_take, Nat.min_eq_left hk]; rw [<- Ydj]; exact Zfj (F.rw_ (fun k hk e => by have h1 := Yn H hk; have h2 := H.hi A.w (by simp [LA.all]); omega)) hk)⟩
theorem Zrr (H : LpW w0 R A C vr vw s wr) {g c k : Nat} {a d0 : Int} (d : Int) (hv : vw = .slice (some ⟨g, 0, none⟩) s.way.length c) (hk : s.way[k]? = some (a, d0)) :
 LpW w0 R A C vr vw { s with way := s.way.set k (a, d) } (wr.setCell ⟨g, k * 2 + 1, none⟩ (.int .i64 d)) := by
 subst hv
 have F := Znh H (Zfx wr g (k * 2 + 1) (.int .i64 d)) (fun k hk e => by have h1 := Yn H (k := g) rfl; have h2 := H.lo A.p (by simp [LA.all]); have h3 := H.hi A.p (by simp [LA.all]); omega)
 exact ⟨F.gr, H.nd, H.lo, H.hi, F.rs, F.bp (fun e => by have h1 := Yn H (k := g) rfl; have h2 := H.hi A.p (by simp [LA.all]); omega), F.bf (fun e => by have h1 := Yn H (k := g) rfl; have h2 := H.hi A.f (by simp [LA.all]); omega), F.bh (fun e => by have h1 := Yn H (k := g) rfl; have h2 := H.hi A.h (by simp [LA.all]); omega), F.bn (fun e => by have h1 := Yn H (k := g) rfl; have h2 := H.hi A.n (by simp [LA.all]); omega), F.bb (fun e => by have h1 := Yn H (k := g) rfl; have h2 := H.hi A.b (by simp [LA.all]); omega), F.bo (fun e => by have h1 := Yn H (k := g) rfl; have h2 := H.hi A.o (by simp [LA.all]); omega), F.br (fun e => by have h1 := Yn H (k := g) rfl; have h2 := H.hi A.r (by simp [LA.all]); omega), F.bw (fun e => by have h1 := Yn H (k := g) rfl; have h2 := H.hi A.w (by simp [LA.all]); omega), F.bm (fun e => by have h1 := Yn H (k := g) rfl; have h2 := H.hi A.m (by simp [LA.all]); omega), F.rn (fun e => by have h1 := Yn H (k := g) rfl; have h2 := H.hi A.gn (by simp [LA.all]); omega), F.rb (fun e => by have h1 := Yn H (k := g) rfl; have h2 := H.hi A.gb (by simp [LA.all]); omega), F.ro (fun e => by have h1 := Yn H (k := g) rfl; have h2 := H.hi A.go (by simp [LA.all]); omega), F.ri (fun e => by have h1 := Yn H (k := g) rfl; have h2 := H.hi A.gi (by simp [LA.all]); omega), F.rr (fun k hk e => Ya H.rw_ H.rr (by decide) (k := g) rfl (e ▸ hk)), (by simp only [List.length_set]; rw [<- Zvd _ _ _ _ _ hk]; exact (H.rw_.stored (k * 2 + 1) (.int .i64 d)).1)⟩
theorem Xg (H : LpW w0 R A C vr vw s wr) (g : wr.grownBy wr' none) :
 LpW w0 R A C vr vw s wr' := by
 have F := Znh H (Zl (P := fun _ => False) g (fun _ _ e => by cases e)) (fun _ _ e => e)
 exact ⟨F.gr, H.nd, H.lo, H.hi, F.rs, F.bp (fun e => e), F.bf (fun e => e), F.bh (fun e => e), F.bn (fun e => e), F.bb (fun e => e), F.bo (fun e => e), F.br (fun e => e), F.bw (fun e => e), F.bm (fun e => e), F.rn (fun e => e), F.rb (fun e => e), F.ro (fun e => e), F.ri (fun e => e), F.rr (fun k hk e => e), F.rw_ (fun k hk e => e)⟩
theorem Yxv (H : LpW w0 R A C vr vw s wr) {m : Nat} {w5 : World} {vr' : Value} (ho : w5.ownsRow R 3 1 vr' (s.row.length + 1) (Zfc s.row ++ [.int .i64 (m : Int)])) (hg : (wr.alloc (.cells #[.int .i64 (m : Int)] 3)).grownBy w5 vr.ownBlock) :
 LpW w0 R A C vr' vw { s with row := s.row ++ [m] } (w5.setCell ⟨A.r, 0, none⟩ vr') := by
 have hsp : Sp (fun k => k = A.r \/ vr.ownBlock = some k) wr (w5.setCell ⟨A.r, 0, none⟩ vr') := Zr (Zr (Zl (Ga wr _ none) (fun _ _ e => by cases e)) (Zl (P := fun k => k = A.r \/ vr.ownBlock = some k) hg (fun k _ e => Or.inr e)) (fun k _ h => h)) (Zfx w5 A.r 0 vr') (fun k _ h => Or.inl h)
 have hbx : Bx w5 A.r 47 vr := Zov (P := fun k => vr.ownBlock = some k) H.br (Zr (Zl (P := fun k => vr.ownBlock = some k) (Ga wr _ none) (fun _ _ e => by cases e)) (Zl (P := fun k => vr.ownBlock = some k) hg (fun k _ e => e)) (fun k _ h => h)) (fun e => by have h1 := Jf H e; have h2 := H.hi A.r (by simp [LA.all]); omega)
 have F := Znh H hsp (fun k hk e => e.elim (fun e => by have := H.lo A.r (by simp [LA.all]); omega) (fun e => by have h1 := Jf H e; have h2 := H.lo A.p (by simp [LA.all]); have h3 := H.hi A.p (by simp [LA.all]); omega))
 exact ⟨F.gr, H.nd, H.lo, H.hi, F.rs, F.bp (fun e => e.elim (Zg H.nd 0 6 rfl rfl (by decide)) (fun e => by have h1 := Jf H e; have h2 := H.hi A.p (by simp [LA.all]); omega)), F.bf (fun e => e.elim (Zg H.nd 1 6 rfl rfl (by decide)) (fun e => by have h1 := Jf H e; have h2 := H.hi A.f (by simp [LA.all]); omega)), F.bh (fun e => e.elim (Zg H.nd 2 6 rfl rfl (by decide)) (fun e => by have h1 := Jf H e; have h2 := H.hi A.h (by simp [LA.all]); omega)), F.bn (fun e => e.elim (Zg H.nd 3 6 rfl rfl (by decide)) (fun e => by have h1 := Jf H e; have h2 := H.hi A.n (by simp [LA.all]); omega)), F.bb (fun e => e.elim (Zg H.nd 4 6 rfl rfl (by decide)) (fun e => by have h1 := Jf H e; have h2 := H.hi A.b (by simp [LA.all]); omega)), F.bo (fun e => e.elim (Zg H.nd 5 6 rfl rfl (by decide)) (fun e => by have h1 := Jf H e; have h2 := H.hi A.o (by simp [LA.all]); omega)), Zvs hbx, F.bw (fun e => e.elim (Zg H.nd 7 6 rfl rfl (by decide)) (fun e => by have h1 := Jf H e; have h2 := H.hi A.w (by simp [LA.all]); omega)), F.bm (fun e => e.elim (Zg H.nd 8 6 rfl rfl (by decide)) (fun e => by have h1 := Jf H e; have h2 := H.hi A.m (by simp [LA.all]); omega)), F.rn (fun e => e.elim (Zg H.nd 9 6 rfl rfl (by decide)) (fun e => by have h1 := Jf H e; have h2 := H.hi A.gn (by simp [LA.all]); omega)), F.rb (fun e => e.elim (Zg H.nd 10 6 rfl rfl (by decide)) (fun e => by have h1 := Jf H e; have h2 := H.hi A.gb (by simp [LA.all]); omega)), F.ro (fun e => e.elim (Zg H.nd 11 6 rfl rfl (by decide)) (fun e => by have h1 := Jf H e; have h2 := H.hi A.go (by simp [LA.all]); omega)), F.ri (fun e => e.elim (Zg H.nd 12 6 rfl rfl (by decide)) (fun e => by have h1 := Jf H e; have h2 := H.hi A.gi (by simp [LA.all]); omega)), (by rw [List.length_append, Zip]; exact Jw ho (H.hi A.r (by simp [LA.all]))), F.rw_ (fun k hk e => e.elim (fun e => by have h1 := Yn H hk; have h2 := H.hi A.r (by simp [LA.all]); omega) (fun e => Ya H.rw_ H.rr (by decide) hk e))⟩
theorem Yxu (H : LpW w0 R A C vr vw s wr) {m : Nat} {w5 : World} {vw' : Value} (ho : w5.ownsRow R 139 2 vw' (s.way.length + 1) (Xi s.way ++ [.int .i64 (m : Int), .int .i64 0])) (hg : (wr.alloc (.cells #[.int .i64 (m : Int), .int .i64 0] 139)).grownBy w5 vw.ownBlock) :
 LpW w0 R A C vr vw' { s with way := s.way ++ [((m : Int), 0)] } (w5.setCell ⟨A.w, 0, none⟩ vw') := by
 have hsp : Sp (fun k => k = A.w \/ vw.ownBlock = some k) wr (w5.setCell ⟨A.w, 0, none⟩ vw') := Zr (Zr (Zl (Ga wr _ none) (fun _ _ e => by cases e)) (Zl (P := fun k => k = A.w \/ vw.ownBlock = some k) hg (fun k _ e => Or.inr e)) (fun k _ h => h)) (Zfx w5 A.w 0 vw') (fun k _ h => Or.inl h)
 have hbx : Bx w5 A.w 137 vw := Zov (P := fun k => vw.ownBlock = some k) H.bw (Zr (Zl (P := fun k => vw.ownBlock = some k) (Ga wr _ none) (fun _ _ e => by cases e)) (Zl (P := fun k => vw.ownBlock = some k) hg (fun k _ e => e)) (fun k _ h => h)) (fun e => by have h1 := Yn H e; have h2 := H.hi A.w (by simp [LA.all]); omega)
 have F := Znh H hsp (fun k hk e => e.elim (fun e => by have := H.lo A.w (by simp [LA.all]); omega) (fun e => by have h1 := Yn H e; have h2 := H.lo A.p (by simp [LA.all]); have h3 := H.hi A.p (by simp [LA.all]); omega))
 exact ⟨F.gr, H.nd, H.lo, H.hi, F.rs, F.bp (fun e => e.elim (Zg H.nd 0 7 rfl rfl (by decide)) (fun e => by have h1 := Yn H e; have h2 := H.hi A.p (by simp [LA.all]); omega)), F.bf (fun e => e.elim (Zg H.nd 1 7 rfl rfl (by decide)) (fun e => by have h1 := Yn H e; have h2 := H.hi A.f (by simp [LA.all]); omega)), F.bh (fun e => e.elim (Zg H.nd 2 7 rfl rfl (by decide)) (fun e => by have h1 := Yn H e; have h2 := H.hi A.h (by simp [LA.all]); omega)), F.bn (fun e => e.elim (Zg H.nd 3 7 rfl rfl (by decide)) (fun e => by have h1 := Yn H e; have h2 := H.hi A.n (by simp [LA.all]); omega)), F.bb (fun e => e.elim (Zg H.nd 4 7 rfl rfl (by decide)) (fun e => by have h1 := Yn H e; have h2 := H.hi A.b (by simp [LA.all]); omega)), F.bo (fun e => e.elim (Zg H.nd 5 7 rfl rfl (by decide)) (fun e => by have h1 := Yn H e; have h2 := H.hi A.o (by simp [LA.all]); omega)), F.br (fun e => e.elim (Zg H.nd 6 7 rfl rfl (by decide)) (fun e => by have h1 := Yn H e; have h2 := H.hi A.r (by simp [LA.all]); omega)), Zvs hbx, F.bm (fun e => e.elim (Zg H.nd 8 7 rfl rfl (by decide)) (fun e => by have h1 := Yn H e; have h2 := H.hi A.m (by simp [LA.all]); omega)), F.rn (fun e => e.elim (Zg H.nd 9 7 rfl rfl (by decide)) (fun e => by have h1 := Yn H e; have h2 := H.hi A.gn (by simp [LA.all]); omega)), F.rb (fun e => e.elim (Zg H.nd 10 7 rfl rfl (by decide)) (fun e => by have h1 := Yn H e; have h2 := H.hi A.gb (by simp [LA.all]); omega)), F.ro (fun e => e.elim (Zg H.nd 11 7 rfl rfl (by decide)) (fun e => by have h1 := Yn H e; have h2 := H.hi A.go (by simp [LA.all]); omega)), F.ri (fun e => e.elim (Zg H.nd 12 7 rfl rfl (by decide)) (fun e => by have h1 := Yn H e; have h2 := H.hi A.gi (by simp [LA.all]); omega)), F.rr (fun k hk e => e.elim (fun e => by have h1 := Jf H hk; have h2 := H.hi A.w (by simp [LA.all]); omega) (fun e => Ya H.rr H.rw_ (by decide) hk e)), (by rw [List.length_append, Zgz]; exact Jw ho (H.hi A.w (by simp [LA.all])))⟩
theorem Zun (H : LpW w0 R A C vr vw s wr) (k : Nat) (hk : k < C.n) : wr.cell? ⟨A.gn, k, none⟩ = some (.int .i64 (s.num.getD k 0 : Nat)) /\ wr.frozen? ⟨A.gn, k, none⟩ = false := by
 have hl : s.num.length = C.n := by have := H.rn.1; simpa [Zfc] using this
 refine ⟨?_, H.rn.frozenAt k⟩
 rw [H.rn.cellAt k (by omega), Zfc, List.getElem?_map, List.getD_eq_getElem?_getD, List.getElem?_eq_getElem (by omega : k < s.num.length)]
 rfl
theorem Zll (H : LpW w0 R A C vr vw s wr) (k : Nat) (hk : k < C.n) : wr.cell? ⟨A.gb, k, none⟩ = some (.int .i64 (s.back.getD k 0 : Nat)) /\ wr.frozen? ⟨A.gb, k, none⟩ = false := by
 have hl : s.back.length = C.n := by have := H.rb.1; simpa [Zfc] using this
 refine ⟨?_, H.rb.frozenAt k⟩
 rw [H.rb.cellAt k (by omega), Zfc, List.getElem?_map, List.getD_eq_getElem?_getD, List.getElem?_eq_getElem (by omega : k < s.back.length)]
 rfl
theorem Ycv (H : LpW w0 R A C vr vw s wr) (k : Nat) (hk : k < C.n) : wr.cell? ⟨A.go, k, none⟩ = some (.bool (s.on.getD k false)) /\ wr.frozen? ⟨A.go, k, none⟩ = false := by
 have hl : s.on.length = C.n := by have := H.ro.1; simpa using this
 refine ⟨?_, H.ro.frozenAt k⟩
 rw [H.ro.cellAt k (by omega), List.getElem?_map, List.getD_eq_getElem?_getD, List.getElem?_eq_getElem (by omega : k < s.on.length)]
 rfl
theorem Yms (H : LpW w0 R A C vr vw s wr) (k : Nat) (hk : k < C.n) : wr.cell? ⟨A.gi, k, none⟩ = some (.bool (s.inn.getD k false)) /\ wr.frozen? ⟨A.gi, k, none⟩ = false := by
 have hl : s.inn.length = C.n := by have := H.ri.1; simpa using this
 refine ⟨?_, H.ri.frozenAt k⟩
 rw [H.ri.cellAt k (by omega), List.getElem?_map, List.getD_eq_getElem?_getD, List.getElem?_eq_getElem (by omega : k < s.inn.length)]
 rfl
theorem Ytk (H : LpW w0 R A C vr vw s wr) : s.num.length = C.n /\ s.back.length = C.n /\ s.on.length = C.n /\ s.inn.length = C.n := by
 have h1 := H.rn.1
 have h2 := H.rb.1
 have h3 := H.ro.1
 have h4 := H.ri.1
 simp [Zfc] at h1 h2 h3 h4
 exact ⟨h1, h2, h3, h4⟩
end
theorem Yea {P : Program} {w : World} {base : Nat} {t ty e : TypeId} {i : TypeInfo} {z : Value} {size bytes : Nat} (ht : P.underlying t = some (.slice e)) (hi : P.info? e = some i) (hz : i.zero = some z)
 (hsize : i.size = size) (hby : i.bytes = bytes) {g n cap : Nat} {xs : List Value} (hown : w.ownsRow base e size (.slice (some ⟨g, 0, none⟩) n cap) n xs)
 {a : Addr} {m c : Nat} {news : List Value} (hl : news.length = m * size) (hnews : ∀ j u, news[j]? = some u -> w.cell? (a.add j) = some u) (h1 : ∀ u ∈ news, u.oneCell' = true)
 (h63 : n + m <= maxLen) (hbytes : (n + m) * bytes <= 140737488355328) {v' : Value} {w' : World}
 (hr : (Builtin.append_ #[t, t] ty #[.slice (some ⟨g, 0, none⟩) n cap, .slice (some a) m c]).run P w = .ok v' w') : v'.ownBlock = some g \/ w.grownBy w' none := by
 subst hsize
 subst hby
 have hsmall : n + m <= 9223372036854775807 := by simp only [maxLen] at h63; omega
 have holds := hown.cells (g := g) rfl
 have hlen := hown.1
 rcases hown.2 with ⟨h0, _⟩ | ⟨g', cap', cur, hv, _, hg, hnc, hcm, hcs, htake⟩
 · cases h0
 · injection hv with e1 e2 e3
   injection e1 with e1
   injection e1 with e1
   subst e1 e3
   by_cases hroom : n + m <= cap
   · have hfit : n * i.size + news.length <= cur.size := by rw [hl, hcs, <- Nat.add_mul]; exact Nat.mul_le_mul_right _ hroom
     rw [run_append_room (P := P) w t ty e i ht hi g n cap cur hg a m c news hl hnews h1 hroom hfit] at hr
     injection hr with hr
     left; rw [<- hr]; rfl
   · rw [run_append_grow (P := P) w t ty e i z ht hi hz ⟨g, 0, none⟩ n cap xs hlen holds a m c news hl hnews (by omega) (by omega) (growslice_fits (by omega) hbytes)] at hr
     injection hr with _ hr
     right
     rw [<- hr]
     exact ⟨rfl, rfl, rfl, by simp, fun k hk _ => heap_alloc_old w.drew _ hk⟩
end Go.Proofs.Ytecaolkbllbokaa.CK
