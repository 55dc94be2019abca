import Derived.Test.YtecaolkbllbokaaMT39
import Derived.Test.YtecaolkbllbokaaMT40
import Derived.Deep.RegionHeld3
import Derived.Outline
import Derived.Test.YtecaolkbllbokaaMT22
import Derived.Test.YtecaolkbllbokaaMT16
import Derived.Test.YtecaolkbllbokaaMT11
import Derived.Test.YtecaolkbllbokaaMT28
import Derived.Test.YtecaolkbllbokaaMT24
set_option linter.unusedSimpArgs false
set_option linter.unusedVariables false
set_option maxRecDepth 100000
set_option maxHeartbeats 16000000
namespace Go.Proofs.Ytecaolkbllbokaa.CK
open Go.RowKit Go.Great Go.Maps
def Yyv : Value := .agg #[.slice none 0 0, .slice none 0 0, .slice none 0 0, .slice none 0 0, .int .i64 0, .int .i64 0]
def Zeo (fs : List FnP) : Prop := ∃ fn, fs[0]? = some fn /\ fn.1 = 0 /\ fn.2.2.1 = 1
def Ypn (fs : List FnP) : Prop := ∀ fn ∈ fs, Xab fs.length fn
def Zqh (mem : Int) (nd : Nat) (fs : List FnP) (err : Int) (f n : Nat) : Prop := err ≠ 0 /\
 (err = Zda mem nd fs \/ (Zda mem nd fs = 0 /\ ¬ Zeo fs) \/ (Zda mem nd fs = 0 /\ Zeo fs /\ Ykb fs err f n) \/
  (Zda mem nd fs = 0 /\ Zeo fs /\ Ypn fs /\ ∃ fn s, fs[f]? = some fn /\ HRun fs fn (hs0 fn.2.2.2.length) 0 s n /\ Xcg fs fn s n err))
structure Yzk (w w' : World) (fs : List FnP) (F : Value) (gH cH gT cT gL cL gV : Nat) (ce co : Int) (gh : Nat -> Nat) (hs : Nat -> List Int) (V : List Bool) : Prop where
 f : F = .agg #[.slice (some ⟨gH, 0, none⟩) fs.length cH, .slice (some ⟨gT, 0, none⟩) fs.length cT, .slice (some ⟨gL, 0, none⟩) fs.length cL, .slice (some ⟨gV, 0, none⟩) fs.length fs.length, .int .i64 ce, .int .i64 co]
 h : ∀ (f : Nat) (fn : FnP), fs[f]? = some fn -> w.heap.size <= gh f /\ w'.cell? ⟨gH, f, none⟩ = some (.slice (some ⟨gh f, 0, none⟩) fn.2.2.2.length fn.2.2.2.length) /\ ∀ i : Nat, i < fn.2.2.2.length -> w'.cell? ⟨gh f, i, none⟩ = some (.int .i64 ((hs f).getD i 0))
 r : ∀ (f : Nat) (fn : FnP), fs[f]? = some fn -> ∃ s, HRun fs fn (hs0 fn.2.2.2.length) 0 s fn.2.2.2.length /\ Yeg fn.2.2.2.length s /\ s.h = hs f
 v : ∀ f : Nat, f < fs.length -> w'.cell? ⟨gV, f, none⟩ = some (.bool (V.getD f false))
 l : Zwb fs (Zvr fs hs) V
 lo : w.heap.size <= gH /\ w.heap.size <= gV
def Zku (w : World) (mem : Int) (nd : Nat) (fs : List FnP) (e : Ending) (w' : World) : Prop := w.grownBy w' none /\
 ((∃ err f n, e = .returned (.tuple #[Yyv, .agg #[.int .i64 err, .int .i64 (f : Nat), .int .i64 (n : Nat)]]) /\ Zqh mem nd fs err f n) \/
  (Zda mem nd fs = 0 /\ Zeo fs /\ Ypn fs /\ ∃ F gH cH gT cT gL cL gV ce co gh hs V, e = .returned (.tuple #[F, Yba]) /\ Yzk w w' fs F gH cH gT cT gL cL gV ce co gh hs V))
theorem Zqv {fn : Func} {p q : Tmp} {ty ty' : TypeId} (h : fn.results = #[.cell p ty, .cell q ty']) (tmps : Array Value) (P : Program) (w : World) :
 (results fn tmps).run P w =
   ((asAddr (tmps.getD p undef)).run P w).andThen fun a w₁ => ((loadVar ty a).run P w₁).andThen fun x w₂ => ((asAddr (tmps.getD q undef)).run P w₂).andThen fun b w₃ => ((loadVar ty' b).run P w₃).andThen fun y w₄ => .ok (.tuple #[x, y]) w₄ := by
 simp only [results, h]
 simp [Sem.run_bind, Result.andThen]
theorem Zkr {R : Ending -> World -> Prop} {a : Act} {w9 : World} {b2 b3 : Nat} {F0 F1 F2 F3 F4 F5 G0 G1 G2 : Value} (h2 : a.tmps.getD 2 undef = .pointer (some ⟨b2, 0, none⟩)) (h3 : a.tmps.getD 3 undef = .pointer (some ⟨b3, 0, none⟩)) (hd : a.defers = [])
 (x2 : w9.heap[b2]? = some (.cells #[F0, F1, F2, F3, F4, F5] 57 (0, 0))) (x3 : w9.heap[b3]? = some (.cells #[G0, G1, G2] 61 (0, 0)))
 (hR : R (.returned (.tuple #[.agg #[F0, F1, F2, F3, F4, F5], .agg #[G0, G1, G2]])) w9) : bodyPost Try.prog Try.f23 R Exit.ret a w9 := by
 refine bodyPost_ret (v := .tuple #[.agg #[F0, F1, F2, F3, F4, F5], .agg #[G0, G1, G2]]) ?_ hd hR
 have k0 := Cq _ _ 0 _ _ _ x2
 have k1 := Cq _ _ 1 _ _ _ x2
 have k2 := Cq _ _ 2 _ _ _ x2
 have k3 := Cq _ _ 3 _ _ _ x2
 have k4 := Cq _ _ 4 _ _ _ x2
 have k5 := Cq _ _ 5 _ _ _ x2
 have j0 := Cq _ _ 0 _ _ _ x3
 have j1 := Cq _ _ 1 _ _ _ x3
 have j2 := Cq _ _ 2 _ _ _ x3
 clear x2 x3 hR
 rw [Zqv rfl, h2, h3]
 go_simp
def Zwf (w : World) (b2 b3 : Nat) (F0 F1 F2 F3 F4 F5 G0 G1 G2 : Value) : World :=
 ((((((((w.setCell ⟨b2, 0, none⟩ F0).setCell ⟨b2, 1, none⟩ F1).setCell ⟨b2, 2, none⟩ F2).setCell ⟨b2, 3, none⟩ F3).setCell ⟨b2, 4, none⟩ F4).setCell ⟨b2, 5, none⟩ F5).setCell ⟨b3, 0, none⟩ G0).setCell ⟨b3, 1, none⟩ G1).setCell ⟨b3, 2, none⟩ G2
theorem Zgm {w : World} {b2 b3 : Nat} {z0 z1 z2 z3 z4 z5 y0 y1 y2 F0 F1 F2 F3 F4 F5 G0 G1 G2 : Value} (h2 : w.heap[b2]? = some (.cells #[z0, z1, z2, z3, z4, z5] 57 (0, 0))) (h3 : w.heap[b3]? = some (.cells #[y0, y1, y2] 61 (0, 0))) (hne : b2 ≠ b3) :
 (Zwf w b2 b3 F0 F1 F2 F3 F4 F5 G0 G1 G2).heap[b2]? = some (.cells #[F0, F1, F2, F3, F4, F5] 57 (0, 0)) /\ (Zwf w b2 b3 F0 F1 F2 F3 F4 F5 G0 G1 G2).heap[b3]? = some (.cells #[G0, G1, G2] 61 (0, 0)) := by
 have n2 : ∀ {X : World} {o : Nat} {v : Value} {obj : Obj}, X.heap[b2]? = some obj -> (X.setCell ⟨b3, o, none⟩ v).heap[b2]? = some obj := fun h => Zc h (Zd _ _ _ _) (by intro e; injection e with e; exact hne e.symm)
 have n3 : ∀ {X : World} {o : Nat} {v : Value} {obj : Obj}, X.heap[b3]? = some obj -> (X.setCell ⟨b2, o, none⟩ v).heap[b3]? = some obj := fun h => Zc h (Zd _ _ _ _) (by intro e; injection e with e; exact hne e)
 constructor
 · unfold Zwf
   refine n2 (n2 (n2 ?_))
   rw [Zh (Zh (Zh (Zh (Zh (Zh h2)))))]; rfl
 · unfold Zwf
   rw [Zh (Zh (Zh (n3 (n3 (n3 (n3 (n3 (n3 h3))))))))]; rfl
theorem Zho {w0 w : World} {b2 b3 : Nat} {F0 F1 F2 F3 F4 F5 G0 G1 G2 : Value} (h : w0.grownBy w none) (h2 : w0.heap.size <= b2) (h3 : w0.heap.size <= b3) : w0.grownBy (Zwf w b2 b3 F0 F1 F2 F3 F4 F5 G0 G1 G2) none :=
 Zz (Zz (Zz (Zz (Zz (Zz (Zz (Zz (Zz h h2) h2) h2) h2) h2) h2) h3) h3) h3
theorem Zpg {w : World} {b2 b3 k : Nat} {F0 F1 F2 F3 F4 F5 G0 G1 G2 : Value} (h2 : k ≠ b2) (h3 : k ≠ b3) : (Zwf w b2 b3 F0 F1 F2 F3 F4 F5 G0 G1 G2).heap[k]? = w.heap[k]? := by
 have s : ∀ (X : World) (b o : Nat) (v : Value), k ≠ b -> (X.setCell ⟨b, o, none⟩ v).heap[k]? = X.heap[k]? := fun X b o v hb => heap_setCell_other X _ k v (by intro e; exact hb (by rw [e]))
 unfold Zwf
 rw [s _ _ _ _ h3, s _ _ _ _ h3, s _ _ _ _ h3, s _ _ _ _ h2, s _ _ _ _ h2, s _ _ _ _ h2, s _ _ _ _ h2, s _ _ _ _ h2, s _ _ _ _ h2]
theorem Xay (mem : Int) (nd : Nat) (fs : List FnP) (pd pF : Option Addr) (cd cF B : Nat) (w : World) (hB : B <= w.heap.size) (hF : Zam w B pF fs) (hn : nd <= 9223372036854775807) (hp : Zda mem nd fs ≠ 0) :
 Calls Try.prog 23 #[.agg #[.int .i64 mem, .slice pd nd cd, .slice pF fs.length cF]] w (Zku w mem nd fs) := by
 obtain ⟨t1, t2, t3⟩ := Zce w (.cells #[.int .i64 mem, .slice pd nd cd, .slice pF fs.length cF] 32) (.cells #[.slice none 0 0, .slice none 0 0, .slice none 0 0, .slice none 0 0, .int .i64 0, .int .i64 0] 57) (.cells #[.int .i64 0, .int .i64 0, .int .i64 0] 61)
 have g3 := Zcf w (.cells #[.int .i64 mem, .slice pd nd cd, .slice pF fs.length cF] 32) (.cells #[.slice none 0 0, .slice none 0 0, .slice none 0 0, .slice none 0 0, .int .i64 0, .int .i64 0] 57) (.cells #[.int .i64 0, .int .i64 0, .int .i64 0] 61)
 have PC := Hq (Zkg mem nd fs pd pF cd cF B _ (Nat.le_trans hB g3.size) (Yb hF g3 (by simp)) hn)
 have T1 := Hq t1
 have T2 := Hq t2
 have T3 := Hq t3
 have G3 := Hq g3
 have HP := Hq hp
 have RB := Hq (show Zqh mem nd fs (Zda mem nd fs) 0 0 from ⟨hp, Or.inl rfl⟩)
 have hpb : (Zda mem nd fs == 0) = false := by simp [hp]
 clear t1 t2 t3 g3 hF hp
 generalize Zda mem nd fs = pe at *
 go_enter Try.func23, Try.ntmps23
 go_wp2_with (go_at_call 36; refine PC.out.mono ?_; rintro e w2 ⟨rfl, g2⟩; have X2 := Hq (Zc T2.out g2 (by simp)); have X3 := Hq (Zc T3.out g2 (by simp)); have G2 := Hq g2; have k0 := Cq _ _ 0 _ _ _ X2.out; have k1 := Cq _ _ 1 _ _ _ X2.out; have k2 := Cq _ _ 2 _ _ _ X2.out; have k3 := Cq _ _ 3 _ _ _ X2.out; have k4 := Cq _ _ 4 _ _ _ X2.out; have k5 := Cq _ _ 5 _ _ _ X2.out; have j0 := Cq _ _ 0 _ _ _ X3.out; have j1 := Cq _ _ 1 _ _ _ X3.out; have j2 := Cq _ _ 2 _ _ _ X3.out; have z0 := frozen_of_row _ _ 0 _ _ X2.out; have z1 := frozen_of_row _ _ 1 _ _ X2.out; have z2 := frozen_of_row _ _ 2 _ _ X2.out; have z3 := frozen_of_row _ _ 3 _ _ X2.out; have z4 := frozen_of_row _ _ 4 _ _ X2.out; have z5 := frozen_of_row _ _ 5 _ _ X2.out; have y0 := frozen_of_row _ _ 0 _ _ X3.out; have y1 := frozen_of_row _ _ 1 _ _ X3.out; have y2 := frozen_of_row _ _ 2 _ _ X3.out; have q2 := (Gs X2.out); have q3 := (Gs X3.out); clear g2)
 exact Zkr rfl rfl rfl (Zgm X2.out X3.out (by omega)).1 (Zgm X2.out X3.out (by omega)).2 ⟨Zho (Za G3.out G2.out) (by omega) (by omega), Or.inl ⟨_, 0, 0, rfl, RB.out⟩⟩
theorem Zya {fs : List FnP} (h : ¬ Zeo fs) (hn : 1 <= fs.length) : ∃ ar lo r c, fs[0]? = some (ar, lo, r, c) /\ (ar ≠ 0 \/ (ar = 0 /\ r ≠ 1)) := by
 obtain ⟨⟨ar, lo, r, c⟩, hfn⟩ : ∃ fn, fs[0]? = some fn := ⟨_, List.getElem?_eq_getElem (by omega)⟩
 refine ⟨ar, lo, r, c, hfn, ?_⟩
 by_cases e : ar = 0
 · right
   exact ⟨e, fun e2 => h ⟨_, hfn, e, e2⟩⟩
 · exact Or.inl e
theorem Ztp {mem : Int} {nd : Nat} {fs : List FnP} (h : Zda mem nd fs = 0) : 1 <= fs.length /\ fs.length <= 64 /\ ∀ fn ∈ fs, 1 <= fn.2.2.2.length /\ fn.2.2.2.length <= 4096 := by
 unfold Zda at h
 by_cases hb : mem < 0 \/ 65536 < mem \/ mem < nd \/ fs.length < 1 \/ 64 < fs.length
 · rw [if_pos hb] at h; cases h
 rw [if_neg hb] at h
 refine ⟨by omega, by omega, fun fn hm => ?_⟩
 have h1 := Zny h fn hm
 unfold fnE at h1
 by_cases hc : fn.1 < 0 \/ 16 < fn.1 \/ fn.2.1 < fn.1 \/ 64 < fn.2.1 \/ fn.2.2.1 < 0 \/ 1 < fn.2.2.1 \/ fn.2.2.2.length < 1 \/ 4096 < fn.2.2.2.length
 · rw [if_pos hc] at h1; cases h1
 · omega
theorem Xax (mem : Int) (nd : Nat) (fs : List FnP) (pd pF : Option Addr) (cd cF B : Nat) (w : World) (hB : B <= w.heap.size) (hF : Zam w B pF fs) (hn : nd <= 9223372036854775807) (hp : Zda mem nd fs = 0) (hfo : ¬ Zeo fs) :
 Calls Try.prog 23 #[.agg #[.int .i64 mem, .slice pd nd cd, .slice pF fs.length cF]] w (Zku w mem nd fs) := by
 obtain ⟨t1, t2, t3⟩ := Zce w (.cells #[.int .i64 mem, .slice pd nd cd, .slice pF fs.length cF] 32) (.cells #[.slice none 0 0, .slice none 0 0, .slice none 0 0, .slice none 0 0, .int .i64 0, .int .i64 0] 57) (.cells #[.int .i64 0, .int .i64 0, .int .i64 0] 61)
 have g3 := Zcf w (.cells #[.int .i64 mem, .slice pd nd cd, .slice pF fs.length cF] 32) (.cells #[.slice none 0 0, .slice none 0 0, .slice none 0 0, .slice none 0 0, .int .i64 0, .int .i64 0] 57) (.cells #[.int .i64 0, .int .i64 0, .int .i64 0] 61)
 have PC := Hq (Zkg mem nd fs pd pF cd cF B _ (Nat.le_trans hB g3.size) (Yb hF g3 (by simp)) hn)
 rw [hp] at PC
 have T1 := Hq t1
 have T2 := Hq t2
 have T3 := Hq t3
 have G3 := Hq g3
 have hz : (0 : Int) < (fs.length : Int) := by have := (Ztp hp).1; omega
 have RB := Hq (show Zqh mem nd fs 139 0 0 from ⟨by decide, Or.inr (Or.inl ⟨hp, hfo⟩)⟩)
 obtain ⟨ar, lo, r, c, hfn, hcase⟩ := Zya hfo (by omega)
 obtain ⟨bF, oF, hpF, hbF, hcF⟩ := hF (by omega)
 obtain ⟨e0, e1, e2, -⟩ := hcF 0 ar lo r c hfn
 simp only [Nat.zero_mul, Nat.add_zero] at e0 e1 e2
 subst hpF
 have f0 := g3.cell e0 (by simp)
 have f2 := g3.cell e2 (by simp)
 have E0 := Hq f0
 have E2 := Hq f2
 have hbF2 : bF < w.heap.size := by omega
 have hz2 := g3.size
 clear t1 t2 t3 g3 hF hp hcF hfn e0 e1 e2 f0 f2 hfo
 rcases hcase with h0 | ⟨rfl, h1⟩
 · have hb0 : (ar != 0) = true := by simp [h0]
   go_enter Try.func23, Try.ntmps23
   go_wp2_with (go_at_call 36; refine PC.out.mono ?_; rintro e w2 ⟨rfl, g2⟩; have X2 := Hq (Zc T2.out g2 (by simp)); have X3 := Hq (Zc T3.out g2 (by simp)); have G2 := Hq g2; have k0 := Cq _ _ 0 _ _ _ X2.out; have k1 := Cq _ _ 1 _ _ _ X2.out; have k2 := Cq _ _ 2 _ _ _ X2.out; have k3 := Cq _ _ 3 _ _ _ X2.out; have k4 := Cq _ _ 4 _ _ _ X2.out; have k5 := Cq _ _ 5 _ _ _ X2.out; have j0 := Cq _ _ 0 _ _ _ X3.out; have j1 := Cq _ _ 1 _ _ _ X3.out; have j2 := Cq _ _ 2 _ _ _ X3.out; have z0 := frozen_of_row _ _ 0 _ _ X2.out; have z1 := frozen_of_row _ _ 1 _ _ X2.out; have z2 := frozen_of_row _ _ 2 _ _ X2.out; have z3 := frozen_of_row _ _ 3 _ _ X2.out; have z4 := frozen_of_row _ _ 4 _ _ X2.out; have z5 := frozen_of_row _ _ 5 _ _ X2.out; have y0 := frozen_of_row _ _ 0 _ _ X3.out; have y1 := frozen_of_row _ _ 1 _ _ X3.out; have y2 := frozen_of_row _ _ 2 _ _ X3.out; have q2 := (Gs X2.out); have q3 := (Gs X3.out); have s1 := Zc T1.out g2 (by simp); have m2 := Cq _ _ 2 _ _ _ s1; have s1q := (Gs s1); have n0 := g2.cell E0.out (by simp); have n2 := g2.cell E2.out (by simp); have nq := Nat.lt_of_lt_of_le hbF2 (Nat.le_trans G3.out.size g2.size); clear g2 s1)
   exact Zkr rfl rfl rfl (Zgm X2.out X3.out (by omega)).1 (Zgm X2.out X3.out (by omega)).2 ⟨Zho (Za G3.out G2.out) (by omega) (by omega), Or.inl ⟨_, 0, 0, rfl, RB.out⟩⟩
 · have hb1 : (r != 1) = true := by simp [h1]
   go_enter Try.func23, Try.ntmps23
   go_wp2_with (go_at_call 36; refine PC.out.mono ?_; rintro e w2 ⟨rfl, g2⟩; have X2 := Hq (Zc T2.out g2 (by simp)); have X3 := Hq (Zc T3.out g2 (by simp)); have G2 := Hq g2; have k0 := Cq _ _ 0 _ _ _ X2.out; have k1 := Cq _ _ 1 _ _ _ X2.out; have k2 := Cq _ _ 2 _ _ _ X2.out; have k3 := Cq _ _ 3 _ _ _ X2.out; have k4 := Cq _ _ 4 _ _ _ X2.out; have k5 := Cq _ _ 5 _ _ _ X2.out; have j0 := Cq _ _ 0 _ _ _ X3.out; have j1 := Cq _ _ 1 _ _ _ X3.out; have j2 := Cq _ _ 2 _ _ _ X3.out; have z0 := frozen_of_row _ _ 0 _ _ X2.out; have z1 := frozen_of_row _ _ 1 _ _ X2.out; have z2 := frozen_of_row _ _ 2 _ _ X2.out; have z3 := frozen_of_row _ _ 3 _ _ X2.out; have z4 := frozen_of_row _ _ 4 _ _ X2.out; have z5 := frozen_of_row _ _ 5 _ _ X2.out; have y0 := frozen_of_row _ _ 0 _ _ X3.out; have y1 := frozen_of_row _ _ 1 _ _ X3.out; have y2 := frozen_of_row _ _ 2 _ _ X3.out; have q2 := (Gs X2.out); have q3 := (Gs X3.out); have s1 := Zc T1.out g2 (by simp); have m2 := Cq _ _ 2 _ _ _ s1; have s1q := (Gs s1); have n0 := g2.cell E0.out (by simp); have n2 := g2.cell E2.out (by simp); have nq := Nat.lt_of_lt_of_le hbF2 (Nat.le_trans G3.out.size g2.size); clear g2 s1)
   exact Zkr rfl rfl rfl (Zgm X2.out X3.out (by omega)).1 (Zgm X2.out X3.out (by omega)).2 ⟨Zho (Za G3.out G2.out) (by omega) (by omega), Or.inl ⟨_, 0, 0, rfl, RB.out⟩⟩
end Go.Proofs.Ytecaolkbllbokaa.CK
namespace Go.Proofs.Ytecaolkbllbokaa.CT
open Go.Proofs.Ytecaolkbllbokaa.TG (Ln Ym Js)
def Xcp (args : List Int) (nl : Int) (H : Nat -> Int) (n p : Nat) (op a : Int) : Prop :=
 ((op = 14 \/ op = 15 \/ op = 16) /\ 0 <= a /\ a < n /\ H a.toNat = H p - (if op = 14 then 0 else 1) /\ (op ≠ 14 -> 1 <= H p /\ H (p + 1) = H p - 1 /\ p + 1 < n)) \/
 (OkI args nl op a /\ (eff args op a).1 <= H p /\ H p - (eff args op a).1 + (eff args op a).2 <= 256 /\ (op = 18 -> H p = 1) /\ (op ≠ 1 -> op ≠ 2 -> op ≠ 18 -> H (p + 1) = H p - (eff args op a).1 + (eff args op a).2 /\ p + 1 < n))
structure Zwd (args : List Int) (nl : Int) (code : List (Int × Int)) (H : Nat -> Int) : Prop where
 z : H 0 = 0
 bd : ∀ p, p < code.length -> 0 <= H p /\ H p <= 256
 ins : ∀ (p : Nat) (op a : Int), code[p]? = some (op, a) -> Xcp args nl H code.length p op a
theorem Zmw : ∀ (R : List Ln) (k i : Nat), (TG.Zay k R)[i]? = (R[i]?).map fun x => (x.op, bif x.j then x.a + ((k + i : Nat) : Int) else x.a)
 | [], k, i => by simp [TG.Zay]
 | x :: r, k, 0 => by simp [TG.Zay]
 | x :: r, k, i + 1 => by
   rw [TG.Zay, List.getElem?_cons_succ, Zmw r (k + 1) i, List.getElem?_cons_succ, show k + 1 + i = k + (i + 1) by omega]
theorem Ypf {args : List Int} {nl : Int} {T : List Ln} (h : Ty args nl T 0 0) (ho : TG.Zmj 0 T) (p0 : Int) : ∃ H, Zwd args nl (TG.Zay 0 (T ++ [Ym p0 3 0, Ym p0 18 0])) H := by
 obtain ⟨Hs, t, e0⟩ := h
 have lt := t.len
 have hlen : (TG.Zay 0 (T ++ [Ym p0 3 0, Ym p0 18 0])).length = T.length + 2 := by rw [TG.Zdn]; simp
 have gl : ∀ i, i <= T.length -> (Hs ++ [0] ++ [1]).getD i 0 = (Hs ++ [0]).getD i 0 := fun i hi => Zau (by simp; omega)
 have gN : (Hs ++ [0] ++ [1]).getD T.length 0 = 0 := by
  rw [gl _ (Nat.le_refl _), <- lt, show (Hs ++ [(0 : Int)]).getD Hs.length 0 = (Hs ++ [0]).getD (Hs.length + 0) 0 from rfl, Xl]; rfl
 have gN1 : (Hs ++ [0] ++ [1]).getD (T.length + 1) 0 = 1 := by
  rw [show T.length + 1 = (Hs ++ [(0 : Int)]).length + 0 by simp [lt], Xl]; rfl
 refine ⟨fun i => (Hs ++ [0] ++ [1]).getD i 0, ⟨?_, fun p hp => ?_, fun p op a hop => ?_⟩⟩
 · rw [gl 0 (Nat.zero_le _)]; exact e0
 · rw [hlen] at hp
   rcases (by omega : p < T.length \/ p = T.length \/ p = T.length + 1) with h | rfl | rfl
   · rw [gl p (by omega), Zau (by omega), List.getD_eq_getElem?_getD, List.getElem?_eq_getElem (by omega : p < Hs.length)]
     exact t.bd _ (List.getElem_mem _)
   · rw [gN]; decide
   · rw [gN1]; decide
 · rw [hlen]
   rw [Zmw, Nat.zero_add] at hop
   have hp : p < T.length + 2 := by
    rcases Nat.lt_or_ge p (T.length + 2) with h | h
    · exact h
    · rw [List.getElem?_eq_none (by simp; omega)] at hop; cases hop
   rcases (by omega : p < T.length \/ p = T.length \/ p = T.length + 1) with h | rfl | rfl
   · rw [List.getElem?_append_left h, List.getElem?_eq_getElem h] at hop
     have L := t.ok (fun i => (Hs ++ [0] ++ [1]).getD i 0) T.length 0 (fun i hi => by simp only [Nat.zero_add]; exact gl i hi) (by omega) p T[p] (List.getElem?_eq_getElem h)
     have hout := ho T[p] (List.getElem_mem h)
     have ho0 : T[p].out = 0 := by omega
     rw [Nat.zero_add] at L
     generalize T[p] = x at *
     simp only [Option.map_some, Option.some.injEq, Prod.mk.injEq] at hop
     obtain ⟨rfl, rfl⟩ := hop
     cases hj : x.j with
     | true =>
       obtain ⟨j1, j2, j3, j4, j5⟩ := L.jump ho0 hj
       left
       simp only [cond_true]
       rw [Int.add_comm x.a]
       exact ⟨j1, j2, by omega, j4, fun e => ⟨(j5 e).1, (j5 e).2.1, by have := (j5 e).2.2; omega⟩⟩
     | false =>
       obtain ⟨j1, j2, j3, j4, j5⟩ := L.line ho0 hj
       right
       simp only [cond_false]
       exact ⟨j1, j2, j3, j4, fun a b c => ⟨(j5 a b c).1, by have := (j5 a b c).2; omega⟩⟩
   · rw [List.getElem?_append_right (Nat.le_refl _), Nat.sub_self] at hop
     simp [Ym] at hop
     obtain ⟨rfl, rfl⟩ := hop
     right
     simp only []
     rw [gN, gN1]
     exact ⟨Ygq _ _ _, (show (0 : Int) <= 0 by decide), (show (0 : Int) - 0 + 1 <= 256 by decide), fun e => by omega, fun _ _ _ => ⟨rfl, by omega⟩⟩
   · rw [List.getElem?_append_right (by omega), show T.length + 1 - T.length = 1 by omega] at hop
     simp [Ym] at hop
     obtain ⟨rfl, rfl⟩ := hop
     right
     simp only []
     rw [gN1]
     exact ⟨Je 18 ⟨_, rfl, rfl⟩ (by decide) (by decide), (show (1 : Int) <= 1 by decide), (show (1 : Int) - 1 + 0 <= 256 by decide), fun _ => rfl, fun _ _ e => absurd rfl e⟩
structure Zqi (args : List Int) (fs : List CK.FnP) : Prop where
 len : fs.length = args.length
 at_ : ∀ (i : Nat) (fn : CK.FnP), fs[i]? = some fn -> fn.1 = args.getD i 0 /\ fn.2.2.1 = 1
section
variable {args : List Int} {nl : Int} {fs : List CK.FnP} {fn : CK.FnP} {H : Nat -> Int}
theorem Yff {op a : Int} (hA : Zqi args fs) (ho : OkI args nl op a) : CK.Yq fs 1 op a = eff args op a := by
 unfold CK.Yq eff
 by_cases h17 : op = 17
 · rw [if_pos h17, if_pos h17]
   obtain ⟨c0, c1⟩ := ho.ca h17
   obtain ⟨g, hg⟩ : ∃ g, fs[a.toNat]? = some g := ⟨_, List.getElem?_eq_getElem (by have := hA.len; omega)⟩
   rw [hg]
   obtain ⟨e1, e2⟩ := hA.at_ _ _ hg
   simp only []
   rw [e1, e2]
 · rw [if_neg h17, if_neg h17]
   cases CK.Xe op <;> rfl
theorem Yld {p : Nat} {op a : Int} (hA : Zqi args fs) (hr : fn.2.2.1 = 1) (hbd : ∀ p, p < fn.2.2.2.length -> 0 <= H p /\ H p <= 256) (hp : p < fn.2.2.2.length) (hi : Xcp args nl H fn.2.2.2.length p op a) :
 ∃ b, CK.Zdy fs fn p op a (H p) = (0, b) /\ ∀ n ∈ CK.Ji op a p, 0 <= n /\ n < fn.2.2.2.length /\ H n.toNat = b := by
 have hbp := hbd p hp
 have nat1 : ((p : Int) + 1).toNat = p + 1 := by omega
 rcases hi with ⟨hj, h0, h1, h2, h3⟩ | ⟨ho, h1, h2, h3, h4⟩
 · have hgoes : ∀ n ∈ CK.Ji op a p, n = a \/ (op ≠ 14 /\ n = (p : Int) + 1) := by
    intro n hn
    unfold CK.Ji at hn
    rw [if_neg (by omega)] at hn
    by_cases e : op = 14
    · rw [if_pos e] at hn
      simp at hn
      exact Or.inl hn
    · rw [if_neg e] at hn
      split at hn
      · simp at hn
        rcases hn with rfl | rfl <;> omega
      · simp at hn
        exact Or.inr ⟨e, hn⟩
   have htk : CK.Yq fs fn.2.2.1 op a = (if op = 14 then 0 else 1, 0) := by
    unfold CK.Yq
    rw [if_neg (by omega), if_neg (by omega), if_neg (by omega)]
    rcases hj with rfl | rfl | rfl <;> rfl
   have hlt : ∀ n ∈ CK.Ji op a p, 0 <= n /\ n < fn.2.2.2.length /\ H n.toNat = H p - (if op = 14 then 0 else 1) := by
    intro n hn
    rcases hgoes n hn with rfl | ⟨e, rfl⟩
    · exact ⟨h0, h1, h2⟩
    · obtain ⟨q1, q2, q3⟩ := h3 e
      refine ⟨by omega, by omega, ?_⟩
      rw [nat1, q2, if_neg e]
   refine ⟨H p - (if op = 14 then 0 else 1), ?_, hlt⟩
   unfold CK.Zdy
   rw [if_neg (by omega), htk]
   simp only []
   have hge : (if op = 14 then (0 : Int) else 1) <= H p := by
    split
    · exact hbp.1
    · next e => exact (h3 e).1
   have h01 : 0 <= (if op = 14 then (0 : Int) else 1) := by split <;> decide
   rw [if_neg (show ¬ H p < (if op = 5 then a + 1 else if op = 14 then 0 else 1) by rw [if_neg (by omega)]; omega), if_neg (by omega), if_neg]
   · congr 1; omega
   · intro he
     obtain ⟨n, hn, hd⟩ := List.any_eq_true.1 he
     have := (hlt n hn).2.1
     simp at hd
     omega
 · have hnj := ho.nj
   have htk : CK.Yq fs fn.2.2.1 op a = eff args op a := by rw [hr]; exact Yff hA ho
   by_cases h18 : op = 18
   · refine ⟨0, ?_, fun n hn => ?_⟩
     · unfold CK.Zdy
       rw [if_pos h18, if_pos (by rw [hr]; exact h3 h18)]
     · unfold CK.Ji at hn
       rw [if_pos (Or.inr (Or.inr h18))] at hn
       cases hn
   · have hlt : ∀ n ∈ CK.Ji op a p, 0 <= n /\ n < fn.2.2.2.length /\ H n.toNat = H p - (eff args op a).1 + (eff args op a).2 := by
      intro n hn
      unfold CK.Ji at hn
      by_cases e : op = 1 \/ op = 2 \/ op = 18
      · rw [if_pos e] at hn; cases hn
      · rw [if_neg e, if_neg (by omega), if_neg (by omega)] at hn
        simp at hn
        subst hn
        obtain ⟨q1, q2⟩ := h4 (by omega) (by omega) h18
        exact ⟨by omega, by omega, by rw [nat1]; exact q1⟩
     refine ⟨H p - (eff args op a).1 + (eff args op a).2, ?_, hlt⟩
     unfold CK.Zdy
     rw [if_neg h18, htk, if_neg (show ¬ H p < (if op = 5 then a + 1 else (eff args op a).1) by rw [if_neg (by omega)]; omega), if_neg (by omega), if_neg]
     intro he
     obtain ⟨n, hn, hd⟩ := List.any_eq_true.1 he
     have := (hlt n hn).2.1
     simp at hd
     omega
theorem Znv {b : Int} : ∀ {L : List Nat} {h : List Int} {wt : List Bool} {least : Nat}, (∀ n ∈ L, n < h.length /\ H n = b) -> wt.length = h.length -> (∀ x, x < h.length -> h.getD x 0 = -1 \/ h.getD x 0 = H x) -> (∀ x, x < h.length -> wt.getD x false = true -> h.getD x 0 = H x) ->
 ∃ h' wt' least', CK.goL b L h wt least = some (h', wt', least') /\ h'.length = h.length /\ wt'.length = h.length /\ (∀ x, x < h.length -> h'.getD x 0 = -1 \/ h'.getD x 0 = H x) /\ (∀ x, x < h.length -> wt'.getD x false = true -> h'.getD x 0 = H x)
 | [], h, wt, least, _, hw, h1, h2 => ⟨h, wt, least, rfl, rfl, hw, h1, h2⟩
 | n :: r, h, wt, least, hL, hw, h1, h2 => by
   obtain ⟨hn, hb⟩ := hL n (List.mem_cons_self ..)
   unfold CK.goL
   by_cases hc : h.getD n 0 = -1
   · rw [if_pos hc]
     obtain ⟨h', wt', least', e, l1, l2, a1, a2⟩ := Znv (b := b) (L := r) (h := h.set n b) (wt := wt.set n true) (least := min least n) (fun m hm => by simp; exact hL m (List.mem_cons_of_mem _ hm)) (by simp [hw]) (fun x hx => by
      rw [CK.Zi _ _ _ _ _ hn]
      split
      · next e => subst e; exact Or.inr hb.symm
      · exact h1 x (by simpa using hx)) (fun x hx hx2 => by
      rw [CK.Zi _ _ _ _ _ hn]
      rw [CK.Zi _ _ _ _ _ (by omega)] at hx2
      split
      · next e => subst e; exact hb.symm
      · next e => rw [if_neg e] at hx2; exact h2 x (by simpa using hx) hx2)
     refine ⟨h', wt', least', e, by simpa using l1, by simpa using l2, fun x hx => a1 x (by simpa using hx), fun x hx => a2 x (by simpa using hx)⟩
   · rw [if_neg hc]
     have hq : h.getD n 0 = b := by
      rcases h1 n hn with e | e
      · exact absurd e hc
      · rw [e, hb]
     rw [if_pos hq]
     exact Znv (fun m hm => hL m (List.mem_cons_of_mem _ hm)) hw h1 h2
structure HTy (n : Nat) (H : Nat -> Int) (s : CK.HS) : Prop where
 hl : s.h.length = n
 wl : s.wt.length = n
 a : ∀ x, x < n -> s.h.getD x 0 = -1 \/ s.h.getD x 0 = H x
 w : ∀ x, x < n -> s.wt.getD x false = true -> s.h.getD x 0 = H x
theorem Yar (hA : Zqi args fs) (hr : fn.2.2.1 = 1) (C : Zwd args nl fn.2.2.2 H) {s : CK.HS} {pl : Nat} (I : HTy fn.2.2.2.length H s) (hp : pl < fn.2.2.2.length) (hw : s.wt.getD pl false = true) :
 ∃ b h' wt' least', CK.Zgi fs fn pl (s.h.getD pl 0) = (0, b) /\ CK.goL b (CK.Zgs fn.2.2.2 pl) s.h (s.wt.set pl false) pl = some (h', wt', least') /\ ∀ t, HTy fn.2.2.2.length H ⟨h', wt', t⟩ := by
 obtain ⟨⟨op, a⟩, hop⟩ : ∃ x, fn.2.2.2[pl]? = some x := ⟨_, List.getElem?_eq_getElem hp⟩
 obtain ⟨b, hs, hg⟩ := Yld hA hr C.bd hp (C.ins pl op a hop)
 have hH := I.w pl hp hw
 obtain ⟨h', wt', least', e, l1, l2, a1, a2⟩ := Znv (H := H) (b := b) (L := CK.Zgs fn.2.2.2 pl) (h := s.h) (wt := s.wt.set pl false) (least := pl) (fun n hn => by
  unfold CK.Zgs at hn
  rw [hop] at hn
  simp only [List.mem_map] at hn
  obtain ⟨m, hm, rfl⟩ := hn
  obtain ⟨q1, q2, q3⟩ := hg m hm
  exact ⟨by rw [I.hl]; omega, q3⟩) (by simp [I.wl, I.hl]) (fun x hx => I.a x (by rw [<- I.hl]; exact hx)) (fun x hx hx2 => by
  rw [CK.Zi _ _ _ _ _ (by rw [I.wl]; exact hp)] at hx2
  split at hx2
  · cases hx2
  · exact I.w x (by rw [<- I.hl]; exact hx) hx2)
 refine ⟨b, h', wt', least', ?_, e, fun t => ⟨l1.trans I.hl, l2.trans I.hl, fun x hx => a1 x (by rw [I.hl]; exact hx), fun x hx => a2 x (by rw [I.hl]; exact hx)⟩⟩
 unfold CK.Zgi
 rw [hop, hH]
 exact hs
theorem Xbq {n : Nat} (hn : 1 <= n) (hz : H 0 = 0) : HTy n H (CK.hs0 n) := by
 refine ⟨by simp [CK.hs0], by simp [CK.hs0], fun x hx => ?_, fun x hx hw => ?_⟩
 · simp only [CK.hs0]
   rw [CK.Zi _ _ _ _ _ (by simp; omega)]
   split
   · next e => subst e; exact Or.inr hz.symm
   · left; simp [List.getD_eq_getElem?_getD, List.getElem?_replicate, hx]
 · simp only [CK.hs0] at hw ⊢
   rw [CK.Zi _ _ _ _ _ (by simp; omega)] at hw ⊢
   by_cases e : x = 0
   · subst e; rw [if_pos rfl]; exact hz.symm
   · rw [if_neg e] at hw; simp [List.getD_eq_getElem?_getD, List.getElem?_replicate, hx] at hw
theorem Yum (hA : Zqi args fs) (hr : fn.2.2.1 = 1) (C : Zwd args nl fn.2.2.2 H) {s s' : CK.HS} {pl pl' : Nat} (r : CK.HRun fs fn s pl s' pl') (I : HTy fn.2.2.2.length H s) : HTy fn.2.2.2.length H s' := by
 induction r with
 | refl => exact I
 | step _ hs ih =>
   cases hs with
   | skip _ _ => exact ih
   | take hp hw hst hgo =>
     obtain ⟨b', h'', wt'', least'', e1, e2, e3⟩ := Yar hA hr C ih hp hw
     rw [hst] at e1
     injection e1 with _ e1
     subst e1
     rw [hgo] at e2
     injection e2 with e2
     injection e2 with e2 e4
     injection e4 with e4 _
     subst e2
     subst e4
     exact e3 _
theorem Ysv (hA : Zqi args fs) (hr : fn.2.2.1 = 1) (C : Zwd args nl fn.2.2.2 H) (hn : 1 <= fn.2.2.2.length) {s : CK.HS} {pl : Nat} {e : Int} (r : CK.HRun fs fn (CK.hs0 fn.2.2.2.length) 0 s pl) : ¬ CK.Xcg fs fn s pl e := by
 rintro ⟨hp, hw, hb⟩
 obtain ⟨b', h'', wt'', least'', e1, e2, e3⟩ := Yar hA hr C (Yum hA hr C r (Xbq hn C.z)) hp hw
 rcases hb with ⟨h1, h2⟩ | ⟨h1, b, h2, h3⟩
 · rw [e1] at h2; exact h1 h2.symm
 · rw [e1] at h2
   injection h2 with _ h2
   subst h2
   rw [e2] at h3; cases h3
end
end Go.Proofs.Ytecaolkbllbokaa.CT
namespace Go.Proofs.Ytecaolkbllbokaa.TG
open Go.RowKit Go.Great
structure Pg where
 mem : Int
 data : List Int
 funcs : List (Int × Int × Int × List (Int × Int))
structure Zhg (w : World) (b : Nat) (vd vF : Value) (p : Pg) : Prop where
 dt : w.ownsRow b 5 1 vd p.data.length (p.data.map (Value.int .u8))
 fr : ∃ xs, w.ownsRow b 73 4 vF p.funcs.length xs /\ ∀ i a l r c, p.funcs[i]? = some (a, l, r, c) -> ∃ vc, xs[i * 4]? = some (.int .i64 a) /\ xs[i * 4 + 1]? = some (.int .i64 l) /\ xs[i * 4 + 2]? = some (.int .i64 r) /\ xs[i * 4 + 3]? = some vc /\ w.ownsRow b 75 2 vc c.length (Xi c)
theorem Ysn {P : Nat -> Prop} {w w' : World} {b : Nat} {vd vF : Value} {p : Pg} (h : Zhg w b vd vF p) (g : Sp P w w') (hp : ∀ k, b <= k -> ¬ P k) : Zhg w' b vd vF p := by
 obtain ⟨h1, xs, h2, h3⟩ := h
 refine ⟨Yz h1 g fun k hk => hp k (h1.lt k hk).1, xs, Yz h2 g fun k hk => hp k (h2.lt k hk).1, fun i a l r c hi => ?_⟩
 obtain ⟨vc, q0, q1, q2, q3, q4⟩ := h3 i a l r c hi
 exact ⟨vc, q0, q1, q2, q3, Yz q4 g fun k hk => hp k (q4.lt k hk).1⟩
theorem Yge {w w' : World} {b : Nat} {vd vF : Value} {p : Pg} (h : Zhg w b vd vF p) (g : w.grownBy w' none) : Zhg w' b vd vF p :=
 Ysn (P := fun _ => False) h (Zl g (by simp)) (fun _ _ h => h)
theorem Xa {w : World} {base : Nat} {e : TypeId} {size n : Nat} {v : Value} {xs : List Value} (h : w.ownsRow base e size v n xs) (h0 : 0 < n) : ∃ g cap, v = .slice (some ⟨g, 0, none⟩) n cap /\ g < w.heap.size /\ ∀ j x, xs[j]? = some x -> j < n * size -> w.cell? ⟨g, j, none⟩ = some x := by
 obtain ⟨m, rfl⟩ : ∃ m, n = m + 1 := ⟨n - 1, by omega⟩
 obtain ⟨g, cap, rfl⟩ := Yk h
 exact ⟨g, cap, rfl, (h.lt g rfl).2, fun j x hx hj => by rw [h.cellAt _ (by omega)]; exact hx⟩
theorem Zds : ∀ (l : List (Int × Int)) (i : Nat) (a b : Int), l[i]? = some (a, b) -> (Xi l)[i * 2]? = some (.int .i64 a) /\ (Xi l)[i * 2 + 1]? = some (.int .i64 b)
 | [], i, a, b, h => by simp at h
 | x :: r, 0, a, b, h => by simp at h; subst h; simp [Xi]
 | x :: r, i + 1, a, b, h => by
   obtain ⟨h1, h2⟩ := Zds r i a b (by simpa using h)
   have e : (i + 1) * 2 = i * 2 + 1 + 1 := by omega
   rw [e]
   simp only [Xi]
   exact ⟨by simpa using h1, by simpa using h2⟩
noncomputable def pgU (u : Un) (mem : Int) : Pg := if Jm u mem = 0 then ⟨mem, Zfp u, u.funcs.map fun f => (f.args, (f.locals.length : Int), 1, (Zbf u.texts f.parts).out)⟩ else ⟨0, [], []⟩
theorem Zva : ∀ (fs : List Fun) (rs : List Value) (i : Nat) (f : Fun) (r : Value), fs[i]? = some f -> rs[i]? = some r -> (Zln fs rs)[i * 4]? = some (.int .i64 f.args) /\ (Zln fs rs)[i * 4 + 1]? = some (.int .i64 f.locals.length) /\ (Zln fs rs)[i * 4 + 2]? = some (.int .i64 1) /\ (Zln fs rs)[i * 4 + 3]? = some r
 | [], _, i, f, r, h, _ => by simp at h
 | _ :: _, [], i, f, r, _, h => by simp at h
 | g :: fs, x :: rs, 0, f, r, h, h2 => by
   simp at h h2; subst h; subst h2
   simp [Zln]
 | g :: fs, x :: rs, i + 1, f, r, h, h2 => by
   obtain ⟨q0, q1, q2, q3⟩ := Zva fs rs i f r (by simpa using h) (by simpa using h2)
   have e : (i + 1) * 4 = i * 4 + 1 + 1 + 1 + 1 := by omega
   rw [e]
   simp only [Zln]
   exact ⟨by simpa using q0, by simpa using q1, by simpa using q2, by simpa using q3⟩
theorem Yis : ∀ (fs : List Fun) (rs : List (Value × Value)), Zjn fs rs = Zln fs (rs.map Prod.fst)
 | [], _ => by simp [Zjn, Zln]
 | _ :: _, [] => by simp [Zjn, Zln]
 | f :: fs, r :: rs => by simp [Zjn, Zln, Yis fs rs]
theorem Ylp (w : World) (b : Nat) : Zhg w b (.slice none 0 0) (.slice none 0 0) ⟨0, [], []⟩ :=
 ⟨World.ownsRow_nil _ _ _ _, [], World.ownsRow_nil _ _ _ _, fun i a l r c h => by cases h⟩
theorem Ygd {w : World} {b : Nat} {u : Un} {mem : Int} {vd vF : Value} {rows : List Value} (h0 : Jm u mem = 0) (hlen : rows.length = u.funcs.length) (hd : w.ownsRow b 5 1 vd (Zfp u).length ((Zfp u).map (Value.int .u8))) (hf : w.ownsRow b 73 4 vF u.funcs.length (Zln u.funcs rows))
 (each : ∀ (i : Nat) (vo : Value) (f : Fun), rows[i]? = some vo -> u.funcs[i]? = some f -> w.ownsRow b 75 2 vo (Zbf u.texts f.parts).out.length (Xi (Zbf u.texts f.parts).out)) : Zhg w b vd vF (pgU u mem) := by
 unfold pgU
 rw [if_pos h0]
 refine ⟨hd, _, by rw [List.length_map]; exact hf, fun i a l r c hi => ?_⟩
 rw [List.getElem?_map] at hi
 obtain ⟨f, hfi, e⟩ := Option.map_eq_some_iff.1 hi
 injection e with e1 e; injection e with e2 e; injection e with e3 e4
 subst e1; subst e2; subst e3; subst e4
 have hl := (List.getElem?_eq_some_iff.1 hfi).1
 obtain ⟨vo, hvo⟩ : ∃ x, rows[i]? = some x := ⟨_, List.getElem?_eq_getElem (by omega)⟩
 obtain ⟨q0, q1, q2, q3⟩ := Zva u.funcs rows i f vo hfi hvo
 exact ⟨vo, q0, q1, q2, q3, each i vo f hvo hfi⟩
theorem Zcq {w w' : World} {u : Un} {mem : Int} {e : Ending} (h : Zjt w u mem e w') : ∃ vd vF, e = .returned (.tuple #[.agg #[.int .i64 (pgU u mem).mem, vd, vF], .int .i64 (Jm u mem)]) /\ w.grownBy w' none /\ Zhg w' w.heap.size vd vF (pgU u mem) := by
 unfold Zjt at h
 by_cases h0 : Jm u mem = 0
 · rw [if_pos h0] at h
   obtain ⟨vd, vF, v, rows, he, hC⟩ := h
   refine ⟨vd, vF, by rw [he, h0]; unfold pgU; rw [if_pos h0], hC.gr, Ygd (rows := rows.map Prod.fst) h0 (by rw [List.length_map]; exact hC.len) hC.dt (by rw [<- Yis]; exact hC.fr) fun i vo f hi hf => ?_⟩
   rw [List.getElem?_map] at hi
   obtain ⟨⟨x, y⟩, hx, rfl⟩ := Option.map_eq_some_iff.1 hi
   exact (hC.each i x y f hx hf).1
 · rw [if_neg h0] at h
   refine ⟨.slice none 0 0, .slice none 0 0, by rw [h.1]; unfold pgU; rw [if_neg h0], h.2, ?_⟩
   unfold pgU; rw [if_neg h0]; exact Ylp _ _
theorem Zpc (ts : List (ByteArray × List Int)) : ∀ k, k <= ts.length -> (((ts.take k).flatMap Prod.snd).length : Int) = Zy ts k
 | 0, _ => by simp [Zy]
 | k + 1, h => by
   have ih := Zpc ts k (by omega)
   rw [List.take_succ_eq_append_getElem (show k < ts.length by omega), List.flatMap_append, List.length_append, Zy]
   have e : ts.getD k (ByteArray.empty, []) = ts[k] := by simp [List.getD_eq_getElem?_getD, List.getElem?_eq_getElem (show k < ts.length by omega)]
   rw [e, <- ih]
   simp
theorem Zvj (u : Un) : ((Zfp u).length : Int) = Zy u.texts u.texts.length := by
 have := Zpc u.texts u.texts.length (Nat.le_refl _)
 rw [List.take_length] at this
 exact this
theorem Zdp {w : World} {b : Nat} {vd vF : Value} {p : Pg} (h : Zhg w b vd vF p) : ∃ pd cd pF cF, vd = .slice pd p.data.length cd /\ vF = .slice pF p.funcs.length cF := by
 obtain ⟨pd, cd, e⟩ := Zm h.dt
 obtain ⟨xs, hx, -⟩ := h.fr
 obtain ⟨pF, cF, e2⟩ := Zm hx
 exact ⟨pd, cd, pF, cF, e, e2⟩
end Go.Proofs.Ytecaolkbllbokaa.TG
namespace Go.Proofs.Ytecaolkbllbokaa.CT
open Go.RowKit Go.Great
open Go.Proofs.Ytecaolkbllbokaa.TG (Un Fun Zbf Jm Jr Ym Yzl Zfi Pg Zhg pgU)
noncomputable def fsU (u : Un) : List CK.FnP := u.funcs.map fun f => (f.args, (f.locals.length : Int), 1, (Zbf u.texts f.parts).out)
theorem Zzs {u : Un} {mem : Int} (h : Jm u mem = 0) : (pgU u mem).funcs = fsU u := by
 unfold pgU fsU; rw [if_pos h]
theorem Ywz {u : Un} {mem : Int} (h : Jm u mem = 0) : (pgU u mem).mem = mem := by
 unfold pgU; rw [if_pos h]
theorem Ysp {u : Un} {mem : Int} (h : Jm u mem = 0) : (pgU u mem).data = TG.Zfp u := by
 unfold pgU; rw [if_pos h]
theorem Ybf {u : Un} {mem : Int} (h : Jm u mem = 0) : 0 <= mem /\ mem <= 65536 /\ TG.Zy u.texts u.texts.length <= mem := by
 unfold Jm at h
 by_cases h1 : TG.Ys u ≠ 0
 · rw [if_pos h1] at h; exact absurd h h1
 rw [if_neg h1] at h
 by_cases h2 : mem < 0 \/ 65536 < mem
 · rw [if_pos h2] at h; cases h
 rw [if_neg h2] at h
 by_cases h3 : mem < TG.Zy u.texts u.texts.length
 · rw [if_pos h3] at h; cases h
 omega
theorem Zmd {u : Un} {mem : Int} (h : Jm u mem = 0) : TG.Ys u = 0 /\ ∀ f ∈ u.funcs, ¬ 4096 < (Zbf u.texts f.parts).out.length := by
 unfold Jm at h
 by_cases h1 : TG.Ys u ≠ 0
 · rw [if_pos h1] at h; exact absurd h h1
 rw [if_neg h1] at h
 refine ⟨by omega, fun f hf h2 => ?_⟩
 have hb : TG.Ypj u = true := List.any_eq_true.2 ⟨f, hf, by simp [h2]⟩
 rw [hb] at h
 repeat' split at h
 all_goals simp_all
theorem Zpw : ∀ (us : List Fun) (ns : List ByteArray), TG.Zat ns us = 0 -> ∀ f ∈ us, f.args <= 16
 | [], _, _, f, hf => by cases hf
 | g :: r, ns, h, f, hf => by
   unfold TG.Zat at h
   by_cases h1 : TG.Zid ns g.name g.args g.locals = 0
   · rw [if_pos h1] at h
     rcases List.mem_cons.1 hf with rfl | hf
     · unfold TG.Zid at h1
       by_cases h2 : 64 < f.locals.length \/ 16 < f.args
       · rw [if_pos h2] at h1; cases h1
       · omega
     · exact Zpw r _ h f hf
   · rw [if_neg h1] at h; exact absurd h h1
theorem Zoi {u : Un} (h : TG.Ys u = 0) : (∀ f ∈ u.funcs, f.args <= 16) /\ ∀ f ∈ u.funcs, TG.Zyu f.locals.length u.texts.length (u.funcs.map Fun.args) f.parts = 0 := by
 unfold TG.Ys at h
 by_cases h1 : 64 < u.funcs.length \/ 1024 < u.texts.length \/ 65536 < TG.Zy u.texts u.texts.length
 · rw [if_pos h1] at h; cases h
 rw [if_neg h1] at h
 by_cases h2 : u.funcs.length = 0 \/ (u.funcs.map Fun.args).getD 0 0 ≠ 0
 · rw [if_pos h2] at h; cases h
 rw [if_neg h2] at h
 by_cases h3 : TG.Zaj [] (u.texts.map Prod.fst) ≠ 0
 · rw [if_pos h3] at h; exact absurd h h3
 rw [if_neg h3] at h
 by_cases h4 : TG.Zat [] u.funcs ≠ 0
 · rw [if_pos h4] at h; exact absurd h h4
 rw [if_neg h4] at h
 exact ⟨Zpw _ _ (Classical.not_not.1 h4), TG.Zsq _ _ _ h⟩
theorem Zxz {u : Un} (hc : TG.Ys u = 0) {f : Fun} (hf : f ∈ u.funcs) : ∃ H, Zwd (u.funcs.map Fun.args) f.locals.length (Zbf u.texts f.parts).out H := by
 have hr := Zfi hc
 obtain ⟨hok, _⟩ := hr.ok f hf
 have ha := (Zoi hc).2 f hf
 obtain ⟨P, hP⟩ : ∃ P, TG.Yp f.locals.length u.texts.length (u.funcs.map Fun.args) f.parts 65 0 ⟨0, 0, 0⟩ = P := ⟨_, rfl⟩
 have hq : P.2.1 = 0 /\ P.2.2.m <= 256 := by
  unfold TG.Zyu at ha
  rw [hP] at ha
  by_cases h5 : P.2.1 ≠ 0
  · rw [if_pos h5] at ha; exact absurd ha h5
  rw [if_neg h5] at ha
  by_cases h6 : P.2.2.a ≠ f.parts.length
  · rw [if_pos h6] at ha; cases ha
  rw [if_neg h6] at ha
  by_cases h7 : 256 < P.2.2.m
  · rw [if_pos h7] at ha; cases ha
  · exact ⟨by omega, by omega⟩
 have C := Ygj (ts := u.texts) (nl := f.locals.length) (nt := u.texts.length) (args := u.funcs.map Fun.args) (ps := f.parts) (by have := (hr.lo f hf).2.2; omega) (by have := hr.nf; simp; omega) (fun x hx => by
  obtain ⟨g, hg, rfl⟩ := List.mem_map.1 hx
  exact (hr.lo g hg).1) 65 0 ⟨0, 0, 0⟩ 0 (by rw [hP]; exact hq.1) rfl (by omega)
 rw [hP] at C
 have T := C.doing (by decide) hq.2
 have ho := TG.Zjh u.texts f.parts 65 0 0 hok
 rw [(TG.Yim u f hok).1]
 exact Ypf T ho 0
theorem Yix : ∀ {l : List (Int × Int)}, (∀ x ∈ l, ∃ s, CK.Xe x.1 = some s /\ CK.Zop s.2.1.toNat x.2 = true) -> CK.Zsj l = 0
 | [], _ => rfl
 | x :: r, h => by
   obtain ⟨s, h1, h2⟩ := h x (List.mem_cons_self ..)
   unfold CK.Zsj
   rw [h1]
   simp only []
   rw [if_pos h2]
   exact Yix fun y hy => h y (List.mem_cons_of_mem _ hy)
theorem Yip : ∀ {l : List CK.FnP}, (∀ x ∈ l, CK.fnE x = 0) -> CK.Yej l = 0
 | [], _ => rfl
 | x :: r, h => by
   unfold CK.Yej
   rw [if_pos (h x (List.mem_cons_self ..))]
   exact Yip fun y hy => h y (List.mem_cons_of_mem _ hy)
theorem Yde {op : Int} (h : op = 14 \/ op = 15 \/ op = 16) : ∃ s, CK.Xe op = some s /\ s.2.1 = 3 := by
 rcases h with rfl | rfl | rfl
 · exact ⟨_, rfl, rfl⟩
 · exact ⟨_, rfl, rfl⟩
 · exact ⟨_, rfl, rfl⟩
theorem Ype {args : List Int} {nl : Int} {code : List (Int × Int)} {H : Nat -> Int} (C : Zwd args nl code H) (hn : code.length <= 4096) : CK.Zsj code = 0 := by
 refine Yix fun x hx => ?_
 obtain ⟨p, hp⟩ := List.getElem?_of_mem hx
 rcases C.ins p x.1 x.2 hp with ⟨hj, h0, h1, _⟩ | ⟨ho, _⟩
 · obtain ⟨s, h2, h3⟩ := Yde hj
   refine ⟨s, h2, ?_⟩
   rw [h3]
   simp [CK.Zop, CK.bK]
   omega
 · exact ho.sh
theorem Ypd {args : List Int} {nl : Int} {code : List (Int × Int)} {H : Nat -> Int} (C : Zwd args nl code H) : ∀ x ∈ code, CK.opE args.length code.length nl x = 0 := by
 intro x hx
 obtain ⟨p, hp⟩ := List.getElem?_of_mem hx
 unfold CK.opE
 rcases C.ins p x.1 x.2 hp with ⟨hj, h0, h1, _⟩ | ⟨ho, _⟩
 · rw [if_pos hj, if_neg (by omega)]
 · have := ho.nj
   rw [if_neg (by omega)]
   by_cases h7 : x.1 = 7 \/ x.1 = 8
   · rw [if_pos h7, if_neg (by have := ho.lo h7; omega)]
   · rw [if_neg h7]
     by_cases h17 : x.1 = 17
     · rw [if_pos h17, if_neg (by have := ho.ca h17; omega)]
     · rw [if_neg h17]
theorem Yux (u : Un) : Zqi (u.funcs.map Fun.args) (fsU u) := by
 refine ⟨by simp [fsU], fun i fn h => ?_⟩
 unfold fsU at h
 rw [List.getElem?_map] at h
 obtain ⟨f, hf, rfl⟩ := Option.map_eq_some_iff.1 h
 refine ⟨?_, rfl⟩
 rw [List.getD_eq_getElem?_getD, List.getElem?_map, hf]; rfl
structure Yzu (u : Un) (fn : CK.FnP) : Prop where
 a : 0 <= fn.1 /\ fn.1 <= 16 /\ fn.1 <= fn.2.1 /\ fn.2.1 <= 64
 r : fn.2.2.1 = 1
 len : 1 <= fn.2.2.2.length /\ fn.2.2.2.length <= 4096
 h : ∃ H, Zwd (u.funcs.map Fun.args) fn.2.1 fn.2.2.2 H
theorem Znw {u : Un} {mem : Int} (h : Jm u mem = 0) : ∀ fn ∈ fsU u, Yzu u fn := by
 intro fn hfn
 obtain ⟨hc, hall⟩ := Zmd h
 have hr := Zfi hc
 obtain ⟨f, hf, rfl⟩ := List.mem_map.1 hfn
 obtain ⟨hok, _⟩ := hr.ok f hf
 have h4 := hall f hf
 have h5 := TG.Yoj u f hok
 have h6 := hr.lo f hf
 have h7 := (Zoi hc).1 f hf
 exact ⟨⟨h6.1, h7, h6.2.1, by show ((f.locals.length : Nat) : Int) <= 64; omega⟩, rfl, ⟨by show 1 <= (Zbf u.texts f.parts).out.length; omega, by show (Zbf u.texts f.parts).out.length <= 4096; omega⟩, Zxz hc hf⟩
theorem Ygc {u : Un} {mem : Int} (h : Jm u mem = 0) : CK.Zda mem (TG.Zfp u).length (fsU u) = 0 := by
 obtain ⟨m0, m1, m2⟩ := Ybf h
 have hd := TG.Zvj u
 have hr := Zfi (Zmd h).1
 have hl : (fsU u).length = u.funcs.length := by simp [fsU]
 have hnf := hr.nf
 unfold CK.Zda
 rw [if_neg (by omega)]
 refine Yip fun fn hfn => ?_
 obtain ⟨a, r, l, H, C⟩ := Znw h fn hfn
 unfold CK.fnE
 rw [if_neg (by omega)]
 exact Ype C l.2
theorem Yom {u : Un} {mem : Int} (h : Jm u mem = 0) : CK.Zeo (fsU u) := by
 have hr := Zfi (Zmd h).1
 have hnf := hr.nf
 obtain ⟨f, hf⟩ : ∃ f, u.funcs[0]? = some f := ⟨_, List.getElem?_eq_getElem (by omega)⟩
 refine ⟨_, by unfold fsU; rw [List.getElem?_map, hf]; rfl, ?_, rfl⟩
 have := hr.a0
 rw [List.getD_eq_getElem?_getD, List.getElem?_map, hf] at this
 exact this
theorem Yxd {u : Un} {mem : Int} (h : Jm u mem = 0) : CK.Ypn (fsU u) := by
 intro fn hfn x hx
 obtain ⟨a, r, l, H, C⟩ := Znw h fn hfn
 have := Ypd C x hx
 rwa [show (u.funcs.map Fun.args).length = (fsU u).length by simp [fsU]] at this
theorem Yxl {u : Un} {mem : Int} (h : Jm u mem = 0) (err : Int) (f n : Nat) : ¬ CK.Zqh mem (TG.Zfp u).length (fsU u) err f n := by
 rintro ⟨hne, h1 | ⟨_, h1⟩ | ⟨_, _, h1⟩ | ⟨_, _, _, fn, s, hfn, hrun, hbad⟩⟩
 · rw [Ygc h] at h1; exact hne h1
 · exact h1 (Yom h)
 · rcases h1 with ⟨e, _⟩ | ⟨_, fn, x, hfn, hx, he, _⟩
   · exact hne e
   · rw [Yxd h fn (List.mem_of_getElem? hfn) x (List.mem_of_getElem? hx)] at he
     exact hne he.symm
 · have hm := List.mem_of_getElem? hfn
   obtain ⟨a, r, l, H, C⟩ := Znw h fn hm
   exact Ysv (Yux u) r C l.1 hrun hbad
theorem Zou {w : World} {b : Nat} {vd vF : Value} {p : Pg} {pF : Option Addr} {n cF : Nat} (h : Zhg w b vd vF p) (e : vF = .slice pF n cF) : CK.Zam w w.heap.size pF p.funcs := by
 intro h0
 obtain ⟨_, xs, hx, hi⟩ := h
 obtain ⟨g, cap, hv, hg, hc⟩ := TG.Xa hx h0
 rw [e] at hv
 injection hv with hv _ _
 subst hv
 refine ⟨g, 0, rfl, hg, fun i a l r c hp => ?_⟩
 have hil := (List.getElem?_eq_some_iff.1 hp).1
 obtain ⟨vc, q0, q1, q2, q3, q4⟩ := hi i a l r c hp
 rw [Nat.zero_add]
 refine ⟨hc _ _ q0 (by omega), hc _ _ q1 (by omega), hc _ _ q2 (by omega), ?_⟩
 obtain ⟨pc, cc, rfl⟩ := TG.Zm q4
 refine ⟨pc, cc, hc _ _ q3 (by omega), fun h1 => ?_⟩
 obtain ⟨g2, cap2, hv2, hg2, hc2⟩ := TG.Xa q4 h1
 injection hv2 with hv2 _ _
 subst hv2
 refine ⟨g2, 0, rfl, hg2, fun j op a hj => ?_⟩
 have hjl := (List.getElem?_eq_some_iff.1 hj).1
 obtain ⟨k0, k1⟩ := TG.Zds c j op a hj
 rw [Nat.zero_add]
 exact ⟨hc2 _ _ k0 (by omega), hc2 _ _ k1 (by omega)⟩
end Go.Proofs.Ytecaolkbllbokaa.CT
namespace Go.Proofs.Ytecaolkbllbokaa.CK
open Go.RowKit Go.Great Go.Maps
structure RnB (w wr : World) (mem : Int) (pd : Option Addr) (nd cd : Nat) (pF : Option Addr) (cF : Nat) (fs : List FnP) : Prop where
 gr : w.grownBy wr none
 pb : Yeo wr w.heap.size mem (.slice pd nd cd) (.slice pF fs.length cF)
 f2 : wr.heap[w.heap.size + 1]? = some (.cells #[.slice none 0 0, .slice none 0 0, .slice none 0 0, .slice none 0 0, .int .i64 0, .int .i64 0] 57 (0, 0))
 f3 : wr.heap[w.heap.size + 1 + 1]? = some (.cells #[.int .i64 0, .int .i64 0, .int .i64 0] 61 (0, 0))
 sz : w.heap.size + 3 <= wr.heap.size
theorem Jv {w wr wr' : World} {mem : Int} {pd : Option Addr} {nd cd : Nat} {pF : Option Addr} {cF : Nat} {fs : List FnP} {r : Option Nat} (H : RnB w wr mem pd nd cd pF cF fs) (g : wr.grownBy wr' r) (hr : ∀ k, r = some k -> w.heap.size + 3 <= k) : RnB w wr' mem pd nd cd pF cF fs := by
 have nn : ∀ b, b < w.heap.size + 3 -> r ≠ some b := fun b hb e => by have := hr b e; omega
 exact ⟨Zbb H.gr g (fun k hk => by have := hr k hk; omega), Zc H.pb g (nn _ (by omega)), Zc H.f2 g (nn _ (by omega)), Zc H.f3 g (nn _ (by omega)), Nat.le_trans H.sz g.size⟩
theorem Zjc {w wr : World} {mem : Int} {pd : Option Addr} {nd cd : Nat} {pF : Option Addr} {cF : Nat} {fs : List FnP} {F0 F1 F2 F3 F4 F5 G0 G1 G2 : Value} (H : RnB w wr mem pd nd cd pF cF fs) : w.grownBy (Zwf wr (w.heap.size + 1) (w.heap.size + 1 + 1) F0 F1 F2 F3 F4 F5 G0 G1 G2) none /\
 (Zwf wr (w.heap.size + 1) (w.heap.size + 1 + 1) F0 F1 F2 F3 F4 F5 G0 G1 G2).heap[w.heap.size + 1]? = some (.cells #[F0, F1, F2, F3, F4, F5] 57 (0, 0)) /\ (Zwf wr (w.heap.size + 1) (w.heap.size + 1 + 1) F0 F1 F2 F3 F4 F5 G0 G1 G2).heap[w.heap.size + 1 + 1]? = some (.cells #[G0, G1, G2] 61 (0, 0)) :=
 ⟨Zho H.gr (by omega) (by omega), (Zgm H.f2 H.f3 (by omega)).1, (Zgm H.f2 H.f3 (by omega)).2⟩
def rnF (N : Nat) (t : Nat -> Value) : Act := ⟨#[t 0, .pointer (some ⟨N, 0, none⟩), .pointer (some ⟨N + 1, 0, none⟩), .pointer (some ⟨N + 1 + 1, 0, none⟩), t 4, t 5, t 6, t 7, t 8, t 9, t 10, t 11, t 12, t 13, t 14, t 15, t 16, t 17, t 18, t 19, t 20, t 21, t 22, t 23, t 24, t 25, t 26, t 27, t 28, t 29, t 30, t 31, t 32, t 33, t 34, t 35, t 36, t 37, t 38, t 39, t 40, t 41, t 42, t 43, t 44, t 45, t 46, t 47, t 48, t 49, t 50, t 51, t 52, t 53, t 54, t 55, t 56, t 57, t 58, t 59, t 60, t 61, t 62, t 63, t 64, t 65, t 66, t 67, t 68, t 69, t 70, t 71, t 72, t 73, t 74, t 75, t 76, t 77, t 78, t 79, t 80, t 81, t 82, t 83, t 84, t 85, t 86, t 87, t 88, t 89], []⟩
structure Xck (N : Nat) (a : Act) : Prop where
 sz : a.tmps.size = 90
 df : a.defers = []
 s1 : a.tmps.getD 1 undef = .pointer (some ⟨N, 0, none⟩)
 s2 : a.tmps.getD 2 undef = .pointer (some ⟨N + 1, 0, none⟩)
 s3 : a.tmps.getD 3 undef = .pointer (some ⟨N + 1 + 1, 0, none⟩)
theorem Ywv {N : Nat} {a : Act} (H : Xck N a) : a = rnF N (fun i => a.tmps.getD i undef) := by
 refine Zhf H.sz H.df fun j hj => ?_
 have hs := H.sz
 rw [hs] at hj
 unfold tm
 iterate 1 (rcases j with _ | j; · rfl)
 rcases j with _ | j
 · exact H.s1
 rcases j with _ | j
 · exact H.s2
 rcases j with _ | j
 · exact H.s3
 iterate 86 (rcases j with _ | j; · rfl)
 omega
def Zwg (fs : List FnP) (f : Nat) : Nat := match fs[f]? with | some fn => fn.2.2.2.length | none => 0
def Yez {α : Type} (g : Nat -> α) (k : Nat) (v : α) : Nat -> α := fun x => if x = k then v else g x
theorem Jt {α : Type} (g : Nat -> α) (k : Nat) (v : α) : Yez g k v k = v := if_pos rfl
theorem Zac {α : Type} {g : Nat -> α} {k x : Nat} {v : α} (h : x ≠ k) : Yez g k v x = g x := if_neg h
theorem Zek {α : Type} (g : Nat -> α) (k : Nat) : (List.range (k + 1)).map g = (List.range k).map g ++ [g k] := by rw [List.range_succ, List.map_append]; rfl
theorem Zfm {α β : Type} (g : Nat -> α) (k : Nat) (v : α) (φ : Nat -> α -> β) : (List.range k).map (fun f => φ f (Yez g k v f)) = (List.range k).map fun f => φ f (g f) := by
 refine List.map_congr_left fun x hx => ?_
 rw [Zac (by have := List.mem_range.1 hx; omega)]
structure RnW (w wr : World) (mem : Int) (pd : Option Addr) (nd cd : Nat) (pF : Option Addr) (cF : Nat) (fs : List FnP) (bx kH kT kL kR : Nat) (vH vT vL : Value) (gh : Nat -> Nat) (tops : Nat -> Int) (hs : Nat -> List Int) (lv : Nat -> Value) (ln : Nat -> Nat) : Prop where
 b : RnB w wr mem pd nd cd pF cF fs
 xb : wr.heap[bx]? = some (.cells #[vH, vT, vL, .slice none 0 0, .int .i64 0, .int .i64 0] 57 (0, 0))
 bxl : w.heap.size + 3 <= bx
 oH : wr.ownsRow (bx + 1) 47 1 vH kH ((List.range kH).map fun f => Value.slice (some ⟨gh f, 0, none⟩) (Zwg fs f) (Zwg fs f))
 oT : wr.ownsRow (bx + 1) 3 1 vT kT ((List.range kT).map fun f => Value.int .i64 (tops f))
 oL : wr.ownsRow (bx + 1) 47 1 vL kL ((List.range kL).map fun f => lv f)
 ap : ∀ q, vH.ownBlock = some q -> vL.ownBlock ≠ some q
 rows : ∀ f, f < kR -> wr.ownsRow (bx + 1) 3 1 (.slice (some ⟨gh f, 0, none⟩) (Zwg fs f) (Zwg fs f)) (Zwg fs f) ((hs f).map (Value.int .i64))
 rT : ∀ f, f < kR -> vT.ownBlock ≠ some (gh f)
 ht : ∀ (f : Nat) (fn : FnP), f < kR -> fs[f]? = some fn -> ∃ s, HRun fs fn (hs0 fn.2.2.2.length) 0 s fn.2.2.2.length /\ Yeg fn.2.2.2.length s /\ s.h = hs f /\ s.top = tops f
 lp : ∀ (f : Nat) (fn : FnP), f < kL -> fs[f]? = some fn -> ∃ (p : Option Addr) (c : Nat), lv f = .slice p (ln f) c /\ (ln f = 0 -> Yvw (nxL fn.2.2.2 (hs f)))
section
variable {w wr wr' W3 W4 : World} {mem : Int} {pd : Option Addr} {nd cd : Nat} {pF : Option Addr} {cF : Nat} {fs : List FnP} {bx k kH kT kL kR : Nat} {vH vT vL v' : Value} {gh : Nat -> Nat} {tops : Nat -> Int} {hs : Nat -> List Int} {lv : Nat -> Value} {ln : Nat -> Nat}
theorem Zrc {v : Value} {r : Option Nat} (h : ∀ q, v.ownBlock = some q -> r ≠ some q) : v.ownBlock = none \/ v.ownBlock ≠ r := by
 cases e : v.ownBlock with
 | none => exact Or.inl rfl
 | some q => exact Or.inr (fun e2 => h q e e2.symm)
theorem Zer (H : RnW w wr mem pd nd cd pF cF fs bx kH kT kL kR vH vT vL gh tops hs lv ln) (g : wr.grownBy wr' none) : RnW w wr' mem pd nd cd pF cF fs bx kH kT kL kR vH vT vL gh tops hs lv ln :=
 ⟨Jv H.b g (fun k e => by cases e), Zc H.xb g (by simp), H.bxl, H.oH.kept g (Classical.em _), H.oT.kept g (Classical.em _), H.oL.kept g (Classical.em _), H.ap, fun f hf => (H.rows f hf).kept g (Classical.em _), H.rT, H.ht, H.lp⟩
theorem Ysj (H : RnW w wr mem pd nd cd pF cF fs bx k k k k vH vT vL gh tops hs lv ln) {g : Nat} {s : HS} {fn : FnP} (hfn : fs[k]? = some fn) (hr : HRun fs fn (hs0 fn.2.2.2.length) 0 s fn.2.2.2.length) (hi : Yeg fn.2.2.2.length s)
 (ho : wr.ownsRow (bx + 1) 3 1 (.slice (some ⟨g, 0, none⟩) (Zwg fs k) (Zwg fs k)) (Zwg fs k) (s.h.map (Value.int .i64))) (hg : vT.ownBlock ≠ some g) :
 RnW w wr mem pd nd cd pF cF fs bx k k k (k + 1) vH vT vL (Yez gh k g) (Yez tops k s.top) (Yez hs k s.h) lv ln := by
 refine ⟨H.b, H.xb, H.bxl, ?_, ?_, H.oL, H.ap, fun f hf => ?_, fun f hf => ?_, fun f fn' hf hfn' => ?_, fun f fn' hf hfn' => ?_⟩
 · rw [Zfm gh k g (fun f x => Value.slice (some ⟨x, 0, none⟩) (Zwg fs f) (Zwg fs f))]; exact H.oH
 · rw [Zfm tops k s.top (fun f x => Value.int .i64 x)]; exact H.oT
 · by_cases e : f = k
   · subst e; rw [Jt, Jt]; exact ho
   · rw [Zac e, Zac e]; exact H.rows f (by omega)
 · by_cases e : f = k
   · subst e; rw [Jt]; exact hg
   · rw [Zac e]; exact H.rT f (by omega)
 · by_cases e : f = k
   · subst e
     rw [hfn] at hfn'
     injection hfn' with hfn'
     subst hfn'
     rw [Jt, Jt]
     exact ⟨s, hr, hi, rfl, rfl⟩
   · rw [Zac e, Zac e]; exact H.ht f fn' (by omega) hfn'
 · rw [Zac (by omega)]; exact H.lp f fn' hf hfn'
theorem Yfv (H : RnB w W4 mem pd nd cd pF cF fs) (hb : w.heap.size + 3 <= bx) (o : Nat) (v : Value) : RnB w (W4.setCell ⟨bx, o, none⟩ v) mem pd nd cd pF cF fs := Jv H (Zd W4 bx o v) (fun k e => by injection e with e; omega)
theorem Zgb {e : TypeId} {size n : Nat} {v : Value} {xs : List Value} (h : W4.ownsRow (bx + 1) e size v n xs) (o : Nat) (u : Value) : (W4.setCell ⟨bx, o, none⟩ u).ownsRow (bx + 1) e size v n xs := Jw h (Nat.lt_succ_self _)
theorem Xbd (H : RnW w wr mem pd nd cd pF cF fs bx kH kT kL kR vH vT vL gh tops hs lv ln) (g0 : wr.grownBy W3 none) (hown : W4.ownsRow (bx + 1) 47 1 v' (kH + 1) (((List.range kH).map fun f => Value.slice (some ⟨gh f, 0, none⟩) (Zwg fs f) (Zwg fs f)) ++ [.slice (some ⟨gh kH, 0, none⟩) (Zwg fs kH) (Zwg fs kH)]))
 (hgr : W3.grownBy W4 vH.ownBlock) (hloc : v'.ownBlock = vH.ownBlock \/ v'.ownBlock = some W3.heap.size) : RnW w (W4.setCell ⟨bx, 0, none⟩ v') mem pd nd cd pF cF fs bx (kH + 1) kT kL kR v' vT vL gh tops hs lv ln := by
 have H0 := Zer H g0
 have hlo : ∀ q, vH.ownBlock = some q -> w.heap.size + 3 <= q := fun q hq => by have := (H0.oH.lt q hq).1; have := H.bxl; omega
 have b4 := Jv H0.b hgr hlo
 have x4 := Zc H0.xb hgr (Zan H0.oH (Nat.lt_succ_self _))
 refine ⟨Yfv b4 H.bxl _ _, Zh x4, H.bxl, ?_, ?_, ?_, fun q hq hq2 => ?_, fun f hf => ?_, H.rT, H.ht, H.lp⟩
 · rw [Zek]; exact Zgb hown _ _
 · exact Zgb (H0.oT.kept hgr (Zrc fun q hq => Ya H0.oT H0.oH (by decide) hq)) _ _
 · exact Zgb (H0.oL.kept hgr (Zrc fun q hq e => H.ap q e hq)) _ _
 · rcases hloc with h | h
   · rw [h] at hq; exact H.ap q hq hq2
   · rw [h] at hq
     injection hq with hq
     have := (H.oL.lt q hq2).2
     have := g0.size
     omega
 · exact Zgb ((H0.rows f hf).kept hgr (Zrc fun q hq => Ya (H0.rows f hf) H0.oH (by decide) hq)) _ _
theorem Xbb (H : RnW w wr mem pd nd cd pF cF fs bx kH kT kL kR vH vT vL gh tops hs lv ln) (g0 : wr.grownBy W3 none) (hown : W4.ownsRow (bx + 1) 3 1 v' (kT + 1) (((List.range kT).map fun f => Value.int .i64 (tops f)) ++ [.int .i64 (tops kT)]))
 (hgr : W3.grownBy W4 vT.ownBlock) (hloc : v'.ownBlock = vT.ownBlock \/ v'.ownBlock = some W3.heap.size) : RnW w (W4.setCell ⟨bx, 1, none⟩ v') mem pd nd cd pF cF fs bx kH (kT + 1) kL kR vH v' vL gh tops hs lv ln := by
 have H0 := Zer H g0
 have hlo : ∀ q, vT.ownBlock = some q -> w.heap.size + 3 <= q := fun q hq => by have := (H0.oT.lt q hq).1; have := H.bxl; omega
 have b4 := Jv H0.b hgr hlo
 have x4 := Zc H0.xb hgr (Zan H0.oT (Nat.lt_succ_self _))
 refine ⟨Yfv b4 H.bxl _ _, Zh x4, H.bxl, ?_, ?_, ?_, H.ap, fun f hf => ?_, fun f hf => ?_, H.ht, H.lp⟩
 · exact Zgb (H0.oH.kept hgr (Zrc fun q hq => Ya H0.oH H0.oT (by decide) hq)) _ _
 · rw [Zek]; exact Zgb hown _ _
 · exact Zgb (H0.oL.kept hgr (Zrc fun q hq => Ya H0.oL H0.oT (by decide) hq)) _ _
 · exact Zgb ((H0.rows f hf).kept hgr (Zrc fun q hq e => by
    have e1 : q = gh f := by simpa [Value.ownBlock] using hq.symm
    subst e1
    exact H.rT f hf e)) _ _
 · rcases hloc with h | h
   · rw [h]; exact H.rT f hf
   · rw [h]
     intro e
     injection e with e
     have := ((H.rows f hf).lt (gh f) rfl).2
     have := g0.size
     omega
theorem Xbc {N6 : Nat} {ws : Nat -> World} {lvv v7 : Value} {fn : FnP} (H : RnW w wr mem pd nd cd pF cF fs bx (k + 1) (k + 1) k (k + 1) vH vT vL gh tops hs lv ln) (hfn : fs[k]? = some fn) (R : RkF wr.drew (bx + 1) bx k fn.2.2.2 (hs k) vL ((List.range k).map fun f => lv f) lvv v7 N6 ws) :
 ∃ n, RnW w (ws 4) mem pd nd cd pF cF fs bx (k + 1) (k + 1) (k + 1) (k + 1) vH vT v7 gh tops hs (Yez lv k lvv) (Yez ln k n) := by
 have H0 := Zer H (Zf (Ze wr none))
 obtain ⟨v, L, e, g1, o1, hL⟩ := R.lp
 injection e with e
 subst e
 obtain ⟨p, c, hv⟩ := Zm o1
 have hgr := R.gr
 have hlo : ∀ q, vL.ownBlock = some q -> w.heap.size + 3 <= q := fun q hq => by have := (H0.oL.lt q hq).1; have := H.bxl; omega
 have b4 := Jv H0.b hgr hlo
 have x4 := Zc H0.xb hgr (Zan H0.oL (Nat.lt_succ_self _))
 refine ⟨L.length, ?_⟩
 rw [R.e4]
 refine ⟨Yfv b4 H.bxl _ _, Zh x4, H.bxl, ?_, ?_, ?_, fun q hq hq2 => ?_, fun f hf => ?_, H.rT, H.ht, fun f fn' hf hfn' => ?_⟩
 · exact Zgb (H0.oH.kept hgr (Zrc fun q hq => H.ap q hq)) _ _
 · exact Zgb (H0.oT.kept hgr (Zrc fun q hq => Ya H0.oT H0.oL (by decide) hq)) _ _
 · rw [Zek, Jt, Zfm lv k lvv (fun _ x => x)]; exact Zgb R.own _ _
 · rcases R.loc with h | ⟨q', h, h'⟩
   · rw [h] at hq2; exact H.ap q hq hq2
   · rw [h] at hq2
     injection hq2 with hq2
     have := (H0.oH.lt q hq).2
     omega
 · exact Zgb ((H0.rows f hf).kept hgr (Zrc fun q hq => Ya (H0.rows f hf) H0.oL (by decide) hq)) _ _
 · by_cases e : f = k
   · subst e
     rw [hfn] at hfn'
     injection hfn' with hfn'
     subst hfn'
     rw [Jt, Jt]
     exact ⟨p, c, hv, fun h => hL (List.length_eq_zero_iff.1 h)⟩
   · rw [Zac e, Zac e]; exact H.lp f fn' (by omega) hfn'
end
def Zot (wr : World) (mem : Int) (vd vF : Value) (bx : Nat) : World := (wr.alloc (.map #[] 0)).alloc (.cells #[.int .i64 mem, vd, vF, .pointer (some ⟨bx, 0, none⟩), .map (some wr.heap.size)] 106)
theorem Znj (wr : World) (mem : Int) (vd vF : Value) (bx : Nat) : wr.grownBy (Zot wr mem vd vF bx) none := Za (Ga _ _ _) (Ga _ _ _)
structure RnS (w wr : World) (bx : Nat) (fs : List FnP) (vH vT vL : Value) (gH gT gL cH cT cL : Nat) (gh : Nat -> Nat) (hs : Nat -> List Int) : Prop where
 eH : vH = .slice (some ⟨gH, 0, none⟩) fs.length cH
 eT : vT = .slice (some ⟨gT, 0, none⟩) fs.length cT
 eL : vL = .slice (some ⟨gL, 0, none⟩) fs.length cL
 lH : bx < gH /\ gH < wr.heap.size
 lT : bx < gT /\ gT < wr.heap.size
 lL : bx < gL /\ gL < wr.heap.size
 lg : ∀ (f : Nat) (fn : FnP), fs[f]? = some fn -> bx < gh f /\ gh f < wr.heap.size /\ wr.cell? ⟨gH, f, none⟩ = some (.slice (some ⟨gh f, 0, none⟩) fn.2.2.2.length fn.2.2.2.length) /\ ∀ i : Nat, i < fn.2.2.2.length -> wr.cell? ⟨gh f, i, none⟩ = some (.int .i64 ((hs f).getD i 0))
section
variable {w wr : World} {mem : Int} {pd : Option Addr} {nd cd : Nat} {pF : Option Addr} {cF B : Nat} {fs : List FnP} {bx : Nat} {vH vT vL : Value} {gh : Nat -> Nat} {tops : Nat -> Int} {hs : Nat -> List Int} {lv : Nat -> Value} {ln : Nat -> Nat}
theorem Zxn {fn : FnP} {f : Nat} (h : fs[f]? = some fn) : Zwg fs f = fn.2.2.2.length := by unfold Zwg; rw [h]
theorem Zmx {α : Type} {φ : Nat -> α} {n f : Nat} (h : f < n) : ((List.range n).map φ)[f]? = some (φ f) := by
 rw [List.getElem?_map, List.getElem?_range h]; rfl
theorem Ywu (H : RnW w wr mem pd nd cd pF cF fs bx fs.length fs.length fs.length fs.length vH vT vL gh tops hs lv ln) (hok : Zvy fs) : ∃ gH gT gL cH cT cL, RnS w wr bx fs vH vT vL gH gT gL cH cT cL gh hs := by
 have hn := hok.n1
 obtain ⟨gH, cH, eH, lH, hH⟩ := Xa H.oH (by omega)
 obtain ⟨gT, cT, eT, lT, hT⟩ := Xa H.oT (by omega)
 obtain ⟨gL, cL, eL, lL, hL⟩ := Xa H.oL (by omega)
 refine ⟨gH, gT, gL, cH, cT, cL, eH, eT, eL, ⟨(H.oH.lt gH (by rw [eH]; rfl)).1, lH⟩, ⟨(H.oT.lt gT (by rw [eT]; rfl)).1, lT⟩, ⟨(H.oL.lt gL (by rw [eL]; rfl)).1, lL⟩, fun f fn hfn => ?_⟩
 have hf := (List.getElem?_eq_some_iff.1 hfn).1
 have hr := H.rows f hf
 obtain ⟨s, h1, h2, h3, h4⟩ := H.ht f fn hf hfn
 have hlen : (hs f).length = fn.2.2.2.length := by rw [<- h3]; exact h2.hl
 refine ⟨(hr.lt (gh f) rfl).1, (hr.lt (gh f) rfl).2, ?_, fun i hi => ?_⟩
 · rw [hH f _ (Zmx hf) (by omega), Zxn hfn]
 · rw [hr.cellAt i (by rw [Zxn hfn]; omega), List.getElem?_map, List.getD_eq_getElem?_getD, List.getElem?_eq_getElem (by omega : i < (hs f).length)]
   rfl
theorem Yyj {gH gT gL cH cT cL : Nat} (H : RnW w wr mem pd nd cd pF cF fs bx fs.length fs.length fs.length fs.length vH vT vL gh tops hs lv ln) (hok : Zvy fs) (S : RnS w wr bx fs vH vT vL gH gT gL cH cT cL gh hs) (hF : Zam w B pF fs) (hB : B <= w.heap.size) :
 LkH (Zot wr mem (.slice pd nd cd) (.slice pF fs.length cF) bx) (wr.heap.size + 1) bx wr.heap.size B mem pd nd cd pF cF fs gH gT gL cH cT cL hs tops ln := by
 have g := Znj wr mem (.slice pd nd cd) (.slice pF fs.length cF) bx
 have hxl := (Gs H.xb)
 have sz := H.b.gr.size
 have hbl := H.bxl
 have hz : (Zot wr mem (.slice pd nd cd) (.slice pF fs.length cF) bx).heap.size = wr.heap.size + 2 := by simp [Zot]
 have x := Zc H.xb g (by simp)
 rw [S.eH, S.eT, S.eL] at x
 have kp : ∀ {b o : Nat} {v : Value}, wr.cell? ⟨b, o, none⟩ = some v -> (Zot wr mem (.slice pd nd cd) (.slice pF fs.length cF) bx).cell? ⟨b, o, none⟩ = some v := fun h => g.cell h (by simp)
 refine ⟨Jp _ _ _, x, Zeu (Ygw wr hok.nf) (Ga _ _ none) (by simp), by omega, by omega, by omega, Yb (Yb hF H.b.gr (by simp)) g (by simp), by omega, by omega, by omega, ⟨by have := S.lH; omega, by have := S.lT; omega, fun f ar lo r c hfn => ?_, fun f hf => ?_, fun f ar lo r c hfn => ?_⟩, ⟨by have := S.lL; omega, fun f hf => ?_⟩, fun f ar lo r c hfn => ?_, fun f ar lo r c hfn hl => ?_⟩
 · obtain ⟨h1, h2, h3, h4⟩ := S.lg f _ hfn
   have hf := (List.getElem?_eq_some_iff.1 hfn).1
   obtain ⟨s, r1, r2, r3, r4⟩ := H.ht f _ hf hfn
   refine ⟨gh f, c.length, kp h3, by omega, fun i hi => ⟨kp (h4 i hi), ?_⟩⟩
   have := r2.rng i hi
   rw [r3] at this
   omega
 · obtain ⟨⟨ar, lo, r, c⟩, hfn⟩ : ∃ fn, fs[f]? = some fn := ⟨_, List.getElem?_eq_getElem hf⟩
   obtain ⟨s, r1, r2, r3, r4⟩ := H.ht f _ hf hfn
   obtain ⟨g2, c2, e2, l2, h2⟩ := Xa H.oT (by have := hok.n1; omega)
   rw [S.eT] at e2
   injection e2 with e2 _ _
   injection e2 with e2
   injection e2 with e2 _ _
   subst e2
   have := r2.t0
   have := r2.t1
   exact ⟨kp (h2 f _ (Zmx hf) (by omega)), by rw [<- r4]; omega, by rw [<- r4]; omega⟩
 · have := hok.args _ (List.mem_of_getElem? hfn)
   simp only [] at this
   omega
 · obtain ⟨⟨ar, lo, r, c⟩, hfn⟩ : ∃ fn, fs[f]? = some fn := ⟨_, List.getElem?_eq_getElem hf⟩
   obtain ⟨p, cc, h1, h2⟩ := H.lp f _ hf hfn
   obtain ⟨g2, c2, e2, l2, h3⟩ := Xa H.oL (by have := hok.n1; omega)
   rw [S.eL] at e2
   injection e2 with e2 _ _
   injection e2 with e2
   injection e2 with e2 _ _
   subst e2
   refine ⟨p, cc, ?_⟩
   rw [<- h1]
   exact kp (h3 f _ (Zmx hf) (by omega))
 · have hf := (List.getElem?_eq_some_iff.1 hfn).1
   obtain ⟨s, r1, r2, r3, r4⟩ := H.ht f _ hf hfn
   have := Zjp hok (List.mem_of_getElem? hfn) r1
   rw [r3] at this
   exact this
 · have hf := (List.getElem?_eq_some_iff.1 hfn).1
   obtain ⟨p, cc, h1, h2⟩ := H.lp f _ hf hfn
   exact h2 hl
theorem Yww {w' : World} {P : Nat -> Prop} (H : RnB w wr mem pd nd cd pF cF fs) (g : Sp P wr w') (hP : ∀ k, k < wr.heap.size -> P k -> w.heap.size + 3 <= k) : RnB w w' mem pd nd cd pF cF fs := by
 have sz := H.sz
 have mv : ∀ {b : Nat} {o : Obj}, b < w.heap.size + 3 -> wr.heap[b]? = some o -> w'.heap[b]? = some o := fun hb h => by
  rw [g.block _ (by omega) (fun e => by have := hP _ (by omega) e; omega)]; exact h
 refine ⟨⟨g.os.trans H.gr.os, g.tape.trans H.gr.tape, g.output.trans H.gr.output, Nat.le_trans H.gr.size g.size, fun b hb hr => ?_⟩, mv (by omega) H.pb, mv (by omega) H.f2, mv (by omega) H.f3, Nat.le_trans H.sz g.size⟩
 rw [g.block b (by omega) (fun e => by have := hP _ (by omega) e; omega)]
 exact H.gr.block b hb hr
theorem Ysf {gH gT gL cH cT cL : Nat} {w8 : World} {e : Ending} (H : RnW w wr mem pd nd cd pF cF fs bx fs.length fs.length fs.length fs.length vH vT vL gh tops hs lv ln) (hok : Zvy fs) (S : RnS w wr bx fs vH vT vL gH gT gL cH cT cL gh hs)
 (hA : Zyy (Zot wr mem (.slice pd nd cd) (.slice pF fs.length cF) bx) bx wr.heap.size fs.length (.slice (some ⟨gH, 0, none⟩) fs.length cH) (.slice (some ⟨gT, 0, none⟩) fs.length cT) (.slice (some ⟨gL, 0, none⟩) fs.length cL) (Zwb fs (Zvr fs hs)) e w8) :
 ∃ (gV : Nat) (V : List Bool) (ce co : Int), RnB w w8 mem pd nd cd pF cF fs /\ w8.heap[bx]? = some (.cells #[.slice (some ⟨gH, 0, none⟩) fs.length cH, .slice (some ⟨gT, 0, none⟩) fs.length cT, .slice (some ⟨gL, 0, none⟩) fs.length cL, .slice (some ⟨gV, 0, none⟩) fs.length fs.length, .int .i64 ce, .int .i64 co] 57 (0, 0)) /\
   Yzk w (Zwf w8 (w.heap.size + 1) (w.heap.size + 1 + 1) (.slice (some ⟨gH, 0, none⟩) fs.length cH) (.slice (some ⟨gT, 0, none⟩) fs.length cT) (.slice (some ⟨gL, 0, none⟩) fs.length cL) (.slice (some ⟨gV, 0, none⟩) fs.length fs.length) (.int .i64 ce) (.int .i64 co) (.int .i64 0) (.int .i64 0) (.int .i64 0)) fs
    (.agg #[.slice (some ⟨gH, 0, none⟩) fs.length cH, .slice (some ⟨gT, 0, none⟩) fs.length cT, .slice (some ⟨gL, 0, none⟩) fs.length cL, .slice (some ⟨gV, 0, none⟩) fs.length fs.length, .int .i64 ce, .int .i64 co]) gH cH gT cT gL cL gV ce co gh hs V := by
 obtain ⟨-, g8, gV, V, ce, co, x8, r8, hV⟩ := hA
 have g := Znj wr mem (.slice pd nd cd) (.slice pF fs.length cF) bx
 have sz := H.b.sz
 have hbl := H.bxl
 have hxl := (Gs H.xb)
 have szl := g.size
 have hbm : wr.heap.size < (Zot wr mem (.slice pd nd cd) (.slice pF fs.length cF) bx).heap.size := by
  have hz : (Zot wr mem (.slice pd nd cd) (.slice pF fs.length cF) bx).heap.size = wr.heap.size + 2 := by simp [Zot]
  omega
 have b8 := Yww (Jv H.b g (fun k e => by cases e)) g8 (fun k hk e => by rcases e with e | e <;> omega)
 have mv : ∀ {b o : Nat} {v : Value}, bx < b -> b < wr.heap.size -> wr.cell? ⟨b, o, none⟩ = some v -> ∀ {F0 F1 F2 F3 F4 F5 G0 G1 G2 : Value}, (Zwf w8 (w.heap.size + 1) (w.heap.size + 1 + 1) F0 F1 F2 F3 F4 F5 G0 G1 G2).cell? ⟨b, o, none⟩ = some v := fun h1 h2 h => by
  intro F0 F1 F2 F3 F4 F5 G0 G1 G2
  rw [Ye (Zpg (by omega) (by omega)), Ye (g8.block _ (by omega) (fun e => by rcases e with e | e <;> omega))]
  exact g.cell h (by simp)
 refine ⟨gV, V, ce, co, b8, x8, ⟨rfl, fun f fn hfn => ?_, fun f fn hfn => ?_, fun f hf => ?_, hV, ⟨by have := S.lH; omega, by have := (r8.lt gV rfl).1; omega⟩⟩⟩
 · obtain ⟨h1, h2, h3, h4⟩ := S.lg f fn hfn
   exact ⟨by omega, mv S.lH.1 S.lH.2 h3, fun i hi => mv h1 h2 (h4 i hi)⟩
 · have hf := (List.getElem?_eq_some_iff.1 hfn).1
   obtain ⟨s, r1, r2, r3, r4⟩ := H.ht f fn hf hfn
   exact ⟨s, r1, r2, r3⟩
 · have hlv := (r8.lt gV rfl)
   have hlen : V.length = fs.length := hV.1
   rw [Ye (Zpg (by omega) (by omega)), r8.cellAt f (by omega), List.getElem?_map, List.getD_eq_getElem?_getD, List.getElem?_eq_getElem (by omega : f < V.length)]
   rfl
end
end Go.Proofs.Ytecaolkbllbokaa.CK
