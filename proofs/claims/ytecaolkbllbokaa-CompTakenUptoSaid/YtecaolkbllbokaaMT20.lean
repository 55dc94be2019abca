import Derived.Test.YtecaolkbllbokaaMT19
import Derived.Test.YtecaolkbllbokaaMT17
set_option linter.unusedSimpArgs false
set_option linter.unusedVariables false
set_option maxRecDepth 100000
set_option maxHeartbeats 16000000
namespace Go.Proofs.Ytecaolkbllbokaa.CK
open Go.RowKit Go.Great
def Zwq : ByteArray := ⟨#[111, 112, 101, 110]⟩
def Yfw : ByteArray := ⟨#[114, 101, 97, 100]⟩
def Ztl : ByteArray := ⟨#[119, 114, 105, 116, 101]⟩
def Yfx : ByteArray := ⟨#[108, 105, 115, 116]⟩
def Ztm : ByteArray := ⟨#[99, 108, 111, 115, 101]⟩
def Yt : Array Value := #[.string Zwq, .int .i64 0, .int .i64 3, .int .i64 1, .string Yfw, .int .i64 0, .int .i64 3, .int .i64 1, .string Ztl, .int .i64 0, .int .i64 3, .int .i64 1,
 .string Yfx, .int .i64 0, .int .i64 4, .int .i64 1, .string Ztm, .int .i64 0, .int .i64 1, .int .i64 1]
theorem Zjq (w : World) : Calls Try.prog 142 #[] w fun e w' => e = .returned (.slice (some ⟨w.heap.size, 0, none⟩) 5 5) /\ w' = w.alloc (.cells Yt 165) := by
 go_enter Try.func142, Try.ntmps142
 go_wp2_with (refine wpList_buildSliceTo rfl 162 165 5 _ rfl w.heap.size rfl (some 6) rfl Try.underlying162 Yt (by kernel_rfl) ?_)
 go_ret
 exact ⟨rfl, rfl⟩
theorem Zbk (w : World) (g : Nat) (hg : g = w.heap.size) (i : Nat) (v : Value) (h : Yt[i]? = some v) : (w.alloc (.cells Yt 165)).cell? ⟨g, i, none⟩ = some v := by
 subst hg
 rw [World.cell?_alloc_at (hn := rfl)]
 exact h
def Zdl (n : Nat) : ByteArray := [Zwq, Yfw, Ztl, Yfx, Ztm].getD n Zwq
def Yy (n : Nat) : Int := [3, 3, 3, 4, 1].getD n 0
theorem Zqo (n : Nat) (hn : n < 5) (w : World) :
 Calls Try.prog 128 #[.int .i64 n] w fun e w' => e = .returned (.tuple #[.agg #[.string (Zdl n), .int .i64 0, .int .i64 (Yy n), .int .i64 1], .bool true]) /\ w.grownBy w' none := by
 have C := Hq Zjq
 have T0 : Yt[n * 4]? = some (.string (Zdl n)) := by rcases (by omega : n = 0 \/ n = 1 \/ n = 2 \/ n = 3 \/ n = 4) with rfl | rfl | rfl | rfl | rfl <;> rfl
 have T1 : Yt[n * 4 + 1]? = some (.int .i64 0) := by rcases (by omega : n = 0 \/ n = 1 \/ n = 2 \/ n = 3 \/ n = 4) with rfl | rfl | rfl | rfl | rfl <;> rfl
 have T2 : Yt[n * 4 + 2]? = some (.int .i64 (Yy n)) := by rcases (by omega : n = 0 \/ n = 1 \/ n = 2 \/ n = 3 \/ n = 4) with rfl | rfl | rfl | rfl | rfl <;> rfl
 have T3 : Yt[n * 4 + 3]? = some (.int .i64 1) := by rcases (by omega : n = 0 \/ n = 1 \/ n = 2 \/ n = 3 \/ n = 4) with rfl | rfl | rfl | rfl | rfl <;> rfl
 have R0 := Yqf 5 n hn (by decide) (w.alloc (.cells #[.string ⟨#[]⟩, .int .i64 0, .int .i64 0, .int .i64 0] 165)).heap.size (Zdl n) 0 (Yy n) 1 ((w.alloc (.cells #[.string ⟨#[]⟩, .int .i64 0, .int .i64 0, .int .i64 0] 165)).alloc (.cells Yt 165)) (by simp) (Zbk _ _ rfl _ _ T0) (Zbk _ _ rfl _ _ T1) (Zbk _ _ rfl _ _ T2) (Zbk _ _ rfl _ _ T3)
 rw [World.size_alloc] at R0
 have R := Hq R0
 clear R0
 clear T0 T1 T2 T3
 generalize Zdl n = nm at *
 generalize Yy n = tk at *
 go_enter Try.func128, Try.ntmps128
 go_wp2_with (first
  | (go_at_call 142; refine (C.out _).mono ?_; rintro e w1 ⟨rfl, rfl⟩)
  | (go_at_call 91; refine R.out.mono ?_; rintro e w2 ⟨rfl, hg2⟩; have hb := Zc (Zc (heap_alloc_new w (.cells #[.string ⟨#[]⟩, .int .i64 0, .int .i64 0, .int .i64 0] 165)) (Ga _ _ none) (by simp)) hg2 (by simp); have G2 := Hq hg2; have c0 := Cq w2 _ 0 _ _ _ hb; have c1 := Cq w2 _ 1 _ _ _ hb; have c2 := Cq w2 _ 2 _ _ _ hb; have c3 := Cq w2 _ 3 _ _ _ hb; have z0 := frozen_of_row w2 _ 0 _ _ hb; have z1 := frozen_of_row w2 _ 1 _ _ hb; have z2 := frozen_of_row w2 _ 2 _ _ hb; have z3 := frozen_of_row w2 _ 3 _ _ hb; have HB := Hq hb; clear hg2 hb))
 (try simp only [Exit.inBlock, Exit.then])
 have hq : ((((w2.setCell ⟨w.heap.size, 0, none⟩ (.string nm)).setCell ⟨w.heap.size, 1, none⟩ (.int .i64 0)).setCell ⟨w.heap.size, 2, none⟩ (.int .i64 tk)).setCell ⟨w.heap.size, 3, none⟩ (.int .i64 1)).heap[w.heap.size]? = some (.cells #[.string nm, .int .i64 0, .int .i64 tk, .int .i64 1] 165 (0, 0)) := by
  rw [Zh (Zh (Zh (Zh HB.out)))]; rfl
 refine bodyPost_ret (v := .tuple #[.agg #[.string nm, .int .i64 0, .int .i64 tk, .int .i64 1], .bool true]) ?_ rfl ⟨rfl, Zz (Zz (Zz (Zz (Za (Ga _ _ _) (Za (Ga _ _ _) G2.out)) (Nat.le_refl _)) (Nat.le_refl _)) (Nat.le_refl _)) (Nat.le_refl _)⟩
 clear c0 c1 c2 c3 z0 z1 z2 z3
 have d0 := Cq _ _ 0 _ _ _ hq
 have d1 := Cq _ _ 1 _ _ _ hq
 have d2 := Cq _ _ 2 _ _ _ hq
 have d3 := Cq _ _ 3 _ _ _ hq
 clear hq
 generalize (((w2.setCell ⟨w.heap.size, 0, none⟩ (.string nm)).setCell ⟨w.heap.size, 1, none⟩ (.int .i64 0)).setCell ⟨w.heap.size, 2, none⟩ (.int .i64 tk)).setCell ⟨w.heap.size, 3, none⟩ (.int .i64 1) = w9 at *
 rw [results_cell_tmp rfl]
 go_simp
structure Xcc (fs : List FnP) (op a : Int) : Prop where
 sh : ∃ s, Xe op = some s
 call : op = 17 -> 0 <= a /\ a < fs.length
 sys : op = 19 -> 0 <= a /\ a < 5
def Yq (fs : List FnP) (res op a : Int) : Int × Int :=
 if op = 17 then (match fs[a.toNat]? with | some g => (g.1, g.2.2.1) | none => (0, 0))
 else if op = 18 then (res, 0) else if op = 19 then (Yy a.toNat, 1)
 else match Xe op with | some s => (s.2.2.1, s.2.2.2) | none => (0, 0)
def Zvx (w : World) (x : Int × Int) (e : Ending) (w' : World) : Prop := e = .returned (.tuple #[.int .i64 x.1, .int .i64 x.2]) /\ w.grownBy w' none
theorem Yfg (mem : Int) (vd : Value) (fs : List FnP) (pF : Option Addr) (cF B f at_ : Nat) (fn : FnP) (op a : Int) (w : World) (hvd : ∃ p n c, vd = .slice p n c) (hB : B <= w.heap.size) (hF : Zam w B pF fs) (hS : Zon fs f at_ fn op a) (hO : Xcc fs op a) :
 Calls Try.prog 94 #[.agg #[.int .i64 mem, vd, .slice pF fs.length cF], .agg #[.int .i64 f, .int .i64 at_]] w (Zvx w (Yq fs fn.2.2.1 op a)) := by
 obtain ⟨pd, nd, cd, rfl⟩ := hvd
 have g2 := Za (Ga w (.cells #[.int .i64 mem, .slice pd nd cd, .slice pF fs.length cF] 32) none) (Ga _ (.cells #[.int .i64 f, .int .i64 at_] 59) none)
 have I := Hq (Zuu mem (.slice pd nd cd) fs pF cF B f at_ fn op a _ ⟨_, _, _, rfl⟩ (Nat.le_trans hB g2.size) (Yb hF g2 (by simp)) hS)
 obtain ⟨ar, lo, r, c⟩ := fn
 have hf1 := (List.getElem?_eq_some_iff.1 hS.isf).1
 have hnf := hS.nf
 obtain ⟨b, o, rfl, hb, hc⟩ := hF (by omega)
 have hb2 : b < w.heap.size := by omega
 have q1 : (f : Int) < (fs.length : Int) := by omega
 by_cases h17 : op = 17
 · obtain ⟨ha0, han⟩ := hO.call h17
   obtain ⟨k, rfl⟩ := Int.eq_ofNat_of_zero_le ha0
   obtain ⟨⟨ga, gl, gr, gc⟩, hg⟩ : ∃ x, fs[k]? = some x := ⟨_, List.getElem?_eq_getElem (by omega)⟩
   obtain ⟨c0, c1, c2, -⟩ := hc k ga gl gr gc hg
   have hE : Yq fs r op k = (ga, gr) := by unfold Yq; rw [if_pos h17, Int.toNat_natCast, hg]
   simp only [] at hE ⊢
   rw [hE]
   subst h17
   have e1 : decide ((k : Int) < 0) = false := decide_eq_false (by omega)
   have e2 : decide ((fs.length : Int) <= (k : Int)) = false := decide_eq_false (by omega)
   have e2' : decide (fs.length <= k) = false := decide_eq_false (by omega)
   clear hc hS hO hE hg
   go_enter Try.func94, Try.ntmps94
   go_wp2_with (go_at_call 95; (refine I.out.mono ?_; rintro e w3 ⟨rfl, hg3⟩; have hb0 := Zc (Zct w (.cells #[.int .i64 mem, .slice pd nd cd, .slice (some ⟨b, o, none⟩) fs.length cF] 32) (.cells #[.int .i64 f, .int .i64 at_] 59)) hg3 (by simp); have hb1 := Zc (Jp w (.cells #[.int .i64 mem, .slice pd nd cd, .slice (some ⟨b, o, none⟩) fs.length cF] 32) (.cells #[.int .i64 f, .int .i64 at_] 59)) hg3 (by simp); have G3 := Hq (Za (Ga w _ none) (Za (Ga _ _ none) hg3)); have x2 := Cq _ _ 2 _ _ _ hb0; have y0 := Cq _ _ 0 _ _ _ hb1; have s0 := (Gs hb0); have s1 := (Gs hb1); clear hb0 hb1 hg3); have hb3 : b < w3.heap.size := Nat.lt_of_lt_of_le hb2 G3.out.size; replace c0 := G3.out.cell c0 (by simp); replace c2 := G3.out.cell c2 (by simp))
   go_quiet (fail)
   go_wp2
   go_ret2
   exact ⟨rfl, Xj (Za G3.out (Ga _ _ none)) _⟩
 · have b17 : (op == 17) = false := beq_eq_false_iff_ne.2 h17
   by_cases h18 : op = 18
   · obtain ⟨-, -, c2, -⟩ := hc f ar lo r c hS.isf
     have hE : Yq fs r op a = (r, 0) := by unfold Yq; rw [if_neg h17, if_pos h18]
     simp only [] at hE ⊢
     rw [hE]
     subst h18
     clear hc hS hO hE b17 h17
     go_enter Try.func94, Try.ntmps94
     go_wp2_with (go_at_call 95; (refine I.out.mono ?_; rintro e w3 ⟨rfl, hg3⟩; have hb0 := Zc (Zct w (.cells #[.int .i64 mem, .slice pd nd cd, .slice (some ⟨b, o, none⟩) fs.length cF] 32) (.cells #[.int .i64 f, .int .i64 at_] 59)) hg3 (by simp); have hb1 := Zc (Jp w (.cells #[.int .i64 mem, .slice pd nd cd, .slice (some ⟨b, o, none⟩) fs.length cF] 32) (.cells #[.int .i64 f, .int .i64 at_] 59)) hg3 (by simp); have G3 := Hq (Za (Ga w _ none) (Za (Ga _ _ none) hg3)); have x2 := Cq _ _ 2 _ _ _ hb0; have y0 := Cq _ _ 0 _ _ _ hb1; have s0 := (Gs hb0); have s1 := (Gs hb1); clear hb0 hb1 hg3); have hb3 : b < w3.heap.size := Nat.lt_of_lt_of_le hb2 G3.out.size; replace c2 := G3.out.cell c2 (by simp))
     go_ret2
     exact ⟨rfl, Za G3.out (Ga _ _ none)⟩
   · have b18 : (op == 18) = false := beq_eq_false_iff_ne.2 h18
     by_cases h19 : op = 19
     · obtain ⟨ha0, ha5⟩ := hO.sys h19
       obtain ⟨k, rfl⟩ := Int.eq_ofNat_of_zero_le ha0
       have S := Hq (Zqo k (by omega))
       have hE : Yq fs r op k = (Yy k, 1) := by unfold Yq; rw [if_neg h17, if_neg h18, if_pos h19, Int.toNat_natCast]
       simp only [] at hE ⊢
       rw [hE]
       subst h19
       clear hc hS hO hE b17 h17 b18 h18
       generalize Yy k = tk at *
       generalize Zdl k = nm at *
       go_enter Try.func94, Try.ntmps94
       go_wp2_with (first
        | (go_at_call 95; (
            refine I.out.mono ?_; rintro e w3 ⟨rfl, hg3⟩
            have hb0 := Zc (Zct w (.cells #[.int .i64 mem, .slice pd nd cd, .slice (some ⟨b, o, none⟩) fs.length cF] 32) (.cells #[.int .i64 f, .int .i64 at_] 59)) hg3 (by simp)
            have hb1 := Zc (Jp w (.cells #[.int .i64 mem, .slice pd nd cd, .slice (some ⟨b, o, none⟩) fs.length cF] 32) (.cells #[.int .i64 f, .int .i64 at_] 59)) hg3 (by simp)
            have G3 := Hq (Za (Ga w _ none) (Za (Ga _ _ none) hg3))
            have x2 := Cq _ _ 2 _ _ _ hb0
            have y0 := Cq _ _ 0 _ _ _ hb1
            have s0 := (Gs hb0)
            have s1 := (Gs hb1)
            clear hb0 hb1 hg3))
        | (go_at_call 128; refine (S.out _).mono ?_; rintro e w4 ⟨rfl, hg4⟩; have G4 := Hq hg4; clear hg4))
       go_quiet (fail)
       go_wp2
       go_ret2
       first
        | exact ⟨rfl, Xj (Za G3.out (Za (Ga _ _ none) (Za G4.out (Ga _ _ none)))) _⟩
        | exact ⟨rfl, Za G3.out (Za (Ga _ _ none) (Za G4.out (Ga _ _ none)))⟩
     · have b19 : (op == 19) = false := beq_eq_false_iff_ne.2 h19
       obtain ⟨⟨nm, ok, tk, gk⟩, hs⟩ := hO.sh
       have OF := Yxj op
       rw [hs] at OF
       simp only [Zpf] at OF
       have O := Hq OF
       have hE : Yq fs r op a = (tk, gk) := by unfold Yq; rw [if_neg h17, if_neg h18, if_neg h19, hs]
       simp only [] at hE ⊢
       rw [hE]
       clear hc hS hO hE h17 h18 h19 hs OF
       go_enter Try.func94, Try.ntmps94
       go_wp2_with (first
        | (go_at_call 95; (
            refine I.out.mono ?_; rintro e w3 ⟨rfl, hg3⟩
            have hb0 := Zc (Zct w (.cells #[.int .i64 mem, .slice pd nd cd, .slice (some ⟨b, o, none⟩) fs.length cF] 32) (.cells #[.int .i64 f, .int .i64 at_] 59)) hg3 (by simp)
            have hb1 := Zc (Jp w (.cells #[.int .i64 mem, .slice pd nd cd, .slice (some ⟨b, o, none⟩) fs.length cF] 32) (.cells #[.int .i64 f, .int .i64 at_] 59)) hg3 (by simp)
            have G3 := Hq (Za (Ga w _ none) (Za (Ga _ _ none) hg3))
            have x2 := Cq _ _ 2 _ _ _ hb0
            have y0 := Cq _ _ 0 _ _ _ hb1
            have s0 := (Gs hb0)
            have s1 := (Gs hb1)
            clear hb0 hb1 hg3))
        | (go_at_call 129; refine (O.out _).mono ?_; rintro e w4 ⟨rfl, hg4⟩; have G4 := Hq hg4; clear hg4))
       (try go_quiet (fail))
       (try go_wp2)
       go_ret2
       first
        | exact ⟨rfl, Xj (Za G3.out (Za (Ga _ _ none) (Za G4.out (Ga _ _ none)))) _⟩
        | exact ⟨rfl, Za G3.out (Za (Ga _ _ none) (Za G4.out (Ga _ _ none)))⟩
theorem Zik {a : Act} {N d : Nat} {v : Value} (hs : a.tmps.size = N) (hd : d < N) (e : Nat) : tm (a.put (some d) v) e = if e = d then v else tm a e := by
 unfold tm Act.put
 by_cases h : e = d
 · subst h; simp [hs, hd]
 · rw [if_neg h]; simp [Array.getD_eq_getD_getElem?, Array.getElem?_setIfInBounds_ne (Ne.symm h)]
theorem Zgj {a : Act} {N : Nat} {d : Option Tmp} {v : Value} (hs : a.tmps.size = N) : (a.put d v).tmps.size = N := by cases d <;> simp [Act.put, hs]
structure RJ (a0 : Act) (N n : Nat) (dst : Nat -> Nat) (val : Nat -> Value) (l : Array Bool) (a : Act) : Prop where
 sz : l.size = n
 ts : a.tmps.size = N
 df : a.defers = a0.defers
 sl : ∀ i, i < n -> l.getD i false = true -> dst i < N -> tm a (dst i) = val i
 un : ∀ j, (∀ i, i < n -> l.getD i false = true -> dst i ≠ j) -> tm a j = tm a0 j
theorem Zfz {a0 a : Act} {N n i : Nat} {dst : Nat -> Nat} {val : Nat -> Value} {l : Array Bool} (h : RJ a0 N n dst val l a) (hi : i < n) (hd : dst i < N) (hne : ∀ j, j < n -> j ≠ i -> dst j ≠ dst i) :
 RJ a0 N n dst val (l.setIfInBounds i true) (a.put (some (dst i)) (val i)) := by
 have hgs : ∀ j, (l.setIfInBounds i true).getD j false = if j = i then true else l.getD j false := fun j => Zw l i j (by rw [h.sz]; exact hi)
 have T : ∀ e, tm (a.put (some (dst i)) (val i)) e = if e = dst i then val i else tm a e := fun e => Zik h.ts hd e
 refine ⟨by simp [h.sz], Zgj h.ts, h.df, fun j hj hl hdj => ?_, fun j hj => ?_⟩
 · rw [hgs] at hl
   by_cases hji : j = i
   · subst hji; rw [T, if_pos rfl]
   · rw [if_neg hji] at hl
     rw [T, if_neg (hne j hj hji)]
     exact h.sl j hj hl hdj
 · have h1 := hj i hi (by rw [hgs, if_pos rfl])
   rw [T, if_neg (Ne.symm h1)]
   refine h.un j fun i' hi' hl' => hj i' hi' ?_
   rw [hgs]
   by_cases e : i' = i
   · rw [if_pos e]
   · rw [if_neg e]; exact hl'
theorem Zin {a0 a : Act} {N n i : Nat} {dst : Nat -> Nat} {val : Nat -> Value} {l : Array Bool} (h : RJ a0 N n dst val l a) (hi : i < n) (hd : N <= dst i) : RJ a0 N n dst val (l.setIfInBounds i true) a := by
 have hgs : ∀ j, (l.setIfInBounds i true).getD j false = if j = i then true else l.getD j false := fun j => Zw l i j (by rw [h.sz]; exact hi)
 refine ⟨by simp [h.sz], h.ts, h.df, fun j hj hl hdj => ?_, fun j hj => ?_⟩
 · rw [hgs] at hl
   by_cases hji : j = i
   · subst hji; omega
   · rw [if_neg hji] at hl; exact h.sl j hj hl hdj
 · refine h.un j fun i' hi' hl' => hj i' hi' ?_
   rw [hgs]
   by_cases e : i' = i
   · rw [if_pos e]
   · rw [if_neg e]; exact hl'
theorem Zax {a0 : Act} {N n : Nat} {dst : Nat -> Nat} {val : Nat -> Value} (hs : a0.tmps.size = N) : RJ a0 N n dst val (Array.replicate n false) a0 :=
 ⟨by simp, hs, rfl, fun i hi hl _ => (by rw [getD_replicate_false] at hl; cases hl), fun j _ => rfl⟩
theorem Zhf {a b : Act} (hs : a.tmps.size = b.tmps.size) (hd : a.defers = b.defers) (ht : ∀ j, j < a.tmps.size -> tm a j = tm b j) : a = b := by
 obtain ⟨ta, da⟩ := a
 obtain ⟨tb, db⟩ := b
 simp only at hs hd
 subst hd
 congr 1
 refine Array.ext hs fun j h1 h2 => ?_
 have := ht j h1
 simpa [tm, h1, h2] using this
theorem Zzn {a0 a aF : Act} {N n : Nat} {dst : Nat -> Nat} {val : Nat -> Value} {l : Array Bool} (h : RJ a0 N n dst val l a) (hl : ∀ j, j < n -> l.getD j false = true) (hs : aF.tmps.size = N) (hd : aF.defers = a0.defers)
 (hv : ∀ i, i < n -> dst i < N -> tm aF (dst i) = val i) (hu : ∀ j, (∀ i, i < n -> dst i ≠ j) -> tm aF j = tm a0 j) : a = aF := by
 refine Zhf (h.ts.trans hs.symm) (h.df.trans hd.symm) fun j hj => ?_
 by_cases he : ∃ i, i < n /\ dst i = j
 · obtain ⟨i, hi, rfl⟩ := he
   have hN : dst i < N := by rw [<- h.ts]; exact hj
   rw [h.sl i hi (hl i hi) hN, hv i hi hN]
 · have hne : ∀ i, i < n -> dst i ≠ j := fun i hi e => he ⟨i, hi, e⟩
   rw [h.un j (fun i hi _ => hne i hi), hu j hne]
def Ja (a0 : Act) (dst : Nat -> Nat) (val : Nat -> Value) : Nat -> Act
 | 0 => a0
 | n + 1 => (Ja a0 dst val n).put (some (dst n)) (val n)
theorem Jj {a0 : Act} {N : Nat} {dst : Nat -> Nat} {val : Nat -> Value} (hs : a0.tmps.size = N) : ∀ n, (Ja a0 dst val n).tmps.size = N
 | 0 => hs
 | n + 1 => Zgj (Jj hs n)
theorem Zbi {a0 : Act} {dst : Nat -> Nat} {val : Nat -> Value} : ∀ n, (Ja a0 dst val n).defers = a0.defers
 | 0 => rfl
 | n + 1 => Zbi n
theorem Zhp {a0 : Act} {N : Nat} {dst : Nat -> Nat} {val : Nat -> Value} (hs : a0.tmps.size = N) : ∀ n, (∀ i j, i < n -> j < n -> i ≠ j -> dst i ≠ dst j) -> ∀ i, i < n -> dst i < N -> tm (Ja a0 dst val n) (dst i) = val i
 | 0, _, i, hi, _ => by omega
 | n + 1, hne, i, hi, hd => by
   rw [Ja]
   by_cases e : i = n
   · subst e; rw [Zik (Jj hs i) hd, if_pos rfl]
   · have h1 := Zhp (a0 := a0) (val := val) hs n (fun i j h1 h2 => hne i j (by omega) (by omega)) i (by omega) hd
     by_cases hn : dst n < N
     · rw [Zik (Jj hs n) hn, if_neg (hne i n (by omega) (by omega) e)]; exact h1
     · have : ∀ v, tm ((Ja a0 dst val n).put (some (dst n)) v) (dst i) = tm (Ja a0 dst val n) (dst i) := by
        intro v
        unfold tm Act.put
        simp [Array.getD_eq_getD_getElem?, Array.getElem?_setIfInBounds_ne (hne n i (by omega) (by omega) (Ne.symm e))]
       rw [this]; exact h1
theorem Zes {a0 : Act} {dst : Nat -> Nat} {val : Nat -> Value} : ∀ n j, (∀ i, i < n -> dst i ≠ j) -> tm (Ja a0 dst val n) j = tm a0 j
 | 0, _, _ => rfl
 | n + 1, j, h => by
   rw [Ja]
   have : tm ((Ja a0 dst val n).put (some (dst n)) (val n)) j = tm (Ja a0 dst val n) j := by
    unfold tm Act.put
    simp [Array.getD_eq_getD_getElem?, Array.getElem?_setIfInBounds_ne (h n (by omega))]
   rw [this]
   exact Zes n j (fun i hi => h i (by omega))
theorem Zei {a0 a : Act} {N n : Nat} {dst : Nat -> Nat} {val : Nat -> Value} {l : Array Bool} (h : RJ a0 N n dst val l a) (h0 : a0.tmps.size = N) (hl : ∀ j, j < n -> l.getD j false = true) (hne : ∀ i j, i < n -> j < n -> i ≠ j -> dst i ≠ dst j) : a = Ja a0 dst val n :=
 Zzn h hl (Jj h0 n) (Zbi n) (Zhp h0 n hne) (Zes n)
theorem Zfy {a0 a : Act} {N n : Nat} {dst : Nat -> Nat} {val val' : Nat -> Value} {l : Array Bool} (h : RJ a0 N n dst val l a) (hv : ∀ i, i < n -> l.getD i false = true -> dst i < N -> val' i = val i) : RJ a0 N n dst val' l a :=
 ⟨h.sz, h.ts, h.df, fun i hi hl hd => by rw [hv i hi hl hd]; exact h.sl i hi hl hd, h.un⟩
section
variable {ops : Array Oper} {Q : Exit -> Act -> World -> Prop} {a0 a : Act} {N n i : Nat} {dst : Nat -> Nat} {val : Nat -> Value} {l : Array Bool} {w w' : World} {WS : Array Bool -> World -> Prop} {o : Oper}
theorem Zkf (hJ : RJ a0 N n dst val l a) (ho : ops[i]? = some o) (hg : o.guard = none) (hdst : o.dst = none) (hi : i < n) (hd : N <= dst i) (hrun : (execOp a.eval o).run Try.prog w = .ok .skip w') (hW : WS (l.setIfInBounds i true) w') :
 wpOp Try.prog ops Q i (fun a' w'' => RJ a0 N n dst val (l.setIfInBounds i true) a' /\ WS (l.setIfInBounds i true) w'') a w :=
 Zcn ho hg hdst hrun ⟨Zin hJ hi hd, hW⟩
theorem Zq (hJ : RJ a0 N n dst val l a) (ho : ops[i]? = some o) (hw : Region.wanted o (yielded ops a.tmps) = true) (hdst : o.dst = some (dst i)) (hi : i < n) (hd : dst i < N) (hne : ∀ j, j < n -> j ≠ i -> dst j ≠ dst i) (hrun : (execOp a.eval o).run Try.prog w = .ok (.value (val i)) w') (hW : WS (l.setIfInBounds i true) w') :
 wpOp Try.prog ops Q i (fun a' w'' => RJ a0 N n dst val (l.setIfInBounds i true) a' /\ WS (l.setIfInBounds i true) w'') a w := by
 unfold wpOp
 simp only [ho]
 rw [if_pos hw]
 refine Or.inl ?_
 unfold Oper.wp
 rw [hrun, Oper.upon_value, hdst]
 exact ⟨Zfz hJ hi hd hne, hW⟩
theorem Ysl (hJ : RJ a0 N n dst val l a) (ho : ops[i]? = some o) (hw : Region.wanted o (yielded ops a.tmps) = true) (hdst : o.dst = some (dst i)) (hi : i < n) (hd : dst i < N) (hne : ∀ j, j < n -> j ≠ i -> dst j ≠ dst i) {f : FuncId} {args : Array Value} (hrun : (execOp a.eval o).run Try.prog w = .ok (.enter f args) w)
 (hc : Calls Try.prog f args w fun e w'' => e = .returned (val i) /\ WS (l.setIfInBounds i true) w'') :
 wpOp Try.prog ops Q i (fun a' w'' => RJ a0 N n dst val (l.setIfInBounds i true) a' /\ WS (l.setIfInBounds i true) w'') a w := by
 unfold wpOp
 simp only [ho]
 rw [if_pos hw]
 refine Or.inl ?_
 unfold Oper.wp
 rw [hrun]
 simp only [Oper.upon]
 refine hc.mono fun e w' he => ?_
 obtain ⟨rfl, hK⟩ := he
 show _ /\ _
 rw [hdst]
 exact ⟨Zfz hJ hi hd hne, hK⟩
theorem Zj {K K' : Act -> World -> Prop} (h : wpOp Try.prog ops Q i K a w) (hk : ∀ a' w', K a' w' -> K' a' w') : wpOp Try.prog ops Q i K' a w := wpOp_mono hk h
end
theorem Zyt {ops : Array Oper} (hdag : ∀ (j : Nat) (o : Oper), ops[j]? = some o -> ∀ e ∈ o.after, Region.binds .any e = true -> e.on < j) {l : Array Bool} (h : Region.ready .any ops l = []) (hsz : l.size = ops.size) : ∀ j, j < ops.size -> l.getD j false = true := by
 intro j
 induction j using Nat.strongRecOn with
 | _ j ih =>
   intro hj
   by_cases hl : l.getD j false = true
   · exact hl
   · exfalso
     have hlt : j < l.size := by omega
     have h1 : l.getD j true = false := by
      simp only [Array.getD, hlt, dif_pos] at hl ⊢
      simpa using hl
     have : j ∈ Region.ready .any ops l := mem_ready.2 ⟨h1, ops[j], by simp [hj], fun e he hb => ih e.on (hdag j ops[j] (by simp [hj]) e he hb) (Nat.lt_trans (hdag j ops[j] (by simp [hj]) e he hb) hj)⟩
     rw [h] at this
     cases this
theorem Zen {ops : Array Oper} (h : ((List.range ops.size).all fun j => (ops[j]?).all fun o => o.after.all fun e => !(Region.binds .any e) || decide (e.on < j)) = true) : ∀ (j : Nat) (o : Oper), ops[j]? = some o -> ∀ e ∈ o.after, Region.binds .any e = true -> e.on < j := by
 intro j o ho e he hb
 have hj : j < ops.size := (Gs ho)
 have h1 := List.all_eq_true.1 h j (List.mem_range.2 hj)
 rw [ho] at h1
 have h2 := Array.all_eq_true'.1 (show o.after.all (fun e => !(Region.binds .any e) || decide (e.on < j)) = true from h1) e he
 rw [hb] at h2
 exact of_decide_eq_true (by simpa using h2)
structure WC (c n : Nat) (W : World) (l : Array Bool) (w : World) : Prop where
 sz : l.size = n
 h0 : l.getD c false = false -> w = W
 g : W.grownBy w none
theorem Yks (c n : Nat) (W : World) : WC c n W (Array.replicate n false) W := ⟨by simp, fun _ => rfl, Ze _ _⟩
theorem Zbz {c n i : Nat} {W w : World} {l : Array Bool} (h : WC c n W l w) (hi : i ≠ c) : WC c n W (l.setIfInBounds i true) w := by
 have hg : (l.setIfInBounds i true).getD c false = l.getD c false := by
  simp [Array.getD_eq_getD_getElem?, Array.getElem?_setIfInBounds_ne hi]
 exact ⟨by simp [h.sz], fun e => h.h0 (by rw [<- hg]; exact e), h.g⟩
theorem Yrm {c n : Nat} {W w : World} {l : Array Bool} (hs : l.size = n) (hc : c < n) (h : W.grownBy w none) : WC c n W (l.setIfInBounds c true) w :=
 ⟨by simp [hs], (fun e => by rw [Zw l c c (by omega), if_pos rfl] at e; cases e), h⟩
theorem Zck {id : Nat} {ops : Array Oper} {Q : Exit -> Act -> World -> Prop} {a0 : Act} {w : World} {n : Nat} (J : Act -> Array Bool -> Act -> World -> Prop)
 (hm : Try.prog.follows .mixedOrders = true) (hn : ops.size = n) (hdag : ∀ (j : Nat) (o : Oper), ops[j]? = some o -> ∀ e ∈ o.after, Region.binds .any e = true -> e.on < j) (hsz : ∀ l a w, J a0 l a w -> l.size = n) (hW : J a0 (Array.replicate n false) a0 w.drew)
 (step : ∀ l a w i, J a0 l a w -> i ∈ Region.ready .any ops l -> i < n -> wpOp Try.prog ops Q i (fun a' w' => J a0 (l.setIfInBounds i true) a' w') a w)
 (fin : ∀ l a w, J a0 l a w -> (∀ j, j < n -> l.getD j false = true) -> Q .normal a w) : (Code.region id ops true).wp Try.prog Q a0 w := by
 subst hn
 refine wp_region_any hm ?_
 refine Zdj (J a0) (fun l a w i hJ hi => step l a w i hJ hi ?_) (fun l a w hJ hr => fin l a w hJ (Zyt hdag hr (hsz l a w hJ))) _ _ _ _ hW (by simp)
 obtain ⟨_, o, ho, _⟩ := mem_ready.1 hi
 exact (Gs ho)
end Go.Proofs.Ytecaolkbllbokaa.CK
