import Derived.Test.YtecaolkbllbokaaMT07
import Derived.ChangeSame
import Derived.ProofKit
import Derived.OpenShut
import Derived.Below
import Derived.RowKit3
import Derived.Deep.Frames
import Derived.Carry
import Derived.Test.YtecaolkbllbokaaMT06
import Derived.Deep.RegionHeld3
import Derived.Laws.OwnMore
set_option linter.unusedSimpArgs false
set_option linter.unusedVariables false
set_option maxRecDepth 100000
set_option maxHeartbeats 16000000
namespace Go.Proofs.Ytecaolkbllbokaa.TG
open Go.RowKit Go.Great
def Ybo (w : World) (mem : Int) (f : Fun) (g : Nat) (e : Ending) (w' : World) : Prop := ∃ gF cF vout, e = .returned (.tuple #[.agg #[.int .i64 mem, .slice none 0 0, .slice (some ⟨gF, 0, none⟩) 1 cF], .int .i64 0]) /\ w.grownBy w' none /\ w'.cell? ⟨gF, 3, none⟩ = some vout /\
 w'.ownsRow 0 75 2 vout (Zjm f.parts g).length (Xi (Zjm f.parts g))
def Ybn (w : World) (f : Fun) (g : Nat) (e : Ending) (w' : World) : Prop := ∃ gO cO vorg, e = .returned (.tuple #[.slice (some ⟨gO, 0, none⟩) 1 cO, .int .i64 0]) /\ w.grownBy w' none /\ w'.cell? ⟨gO, 0, none⟩ = some vorg /\
 w'.ownsRow 0 3 1 vorg (Zkq f.parts g).length ((Zkq f.parts g).map (Value.int .i64))
theorem Ypa (u : Un) (f : Fun) (g : Nat) (hut : u.texts = []) (huf : u.funcs = [f]) (hck : Ys u = 0) (hu : Yre u) (mem : Int) (hm0 : 0 <= mem) (hm1 : mem <= 65536) (hpl : Zea f.parts g 0 = true) (hl1 : (Zjm f.parts g).length <= 4096) (hl2 : (Zkq f.parts g).length <= 4096)
 (pt pf : Option Addr) (ct cf B : Nat) (w : World) (hU : Zab w B pt pf u) :
 Calls Try.prog 11 #[.agg #[.slice pt 0 ct, .slice pf 1 cf], .int .i64 mem] w (Ybo w mem f g) := by
 have CO := Hq (fun w' (h : Zab w' B pt pf u) => Zog u f g hut huf hck hu mem hm0 hm1 hpl hl1 hl2 pt pf ct cf B w' h)
 have UU := Hq hU
 clear hU hu hut huf hck hpl hl1 hl2
 go_enter Try.func11, Try.ntmps11
 go_wp2_with (go_at_call 27; refine (CO.out _ (Yl UU.out (Za (Ga w _ none) (Ga _ _ none)) (by simp))).mono ?_; intro e w1 hp; obtain ⟨gF, cF, gO, cO, vout, vorg, rfl, hg, ⟨b1, b2, b3, b4⟩, k0, k1, k2, k3, k4, o1, o2⟩ := hp; have hR := Zu (Zfr w _ _) hg (by simp); have r0 := Cq w1 _ 0 _ _ _ hR; have r1 := Cq w1 _ 1 _ _ _ hR; have r2 := Cq w1 _ 2 _ _ _ hR; have z0 := frozen_of_row w1 _ 0 _ _ hR; have z1 := frozen_of_row w1 _ 1 _ _ hR; have z2 := frozen_of_row w1 _ 2 _ _ hR; have hlR := (Gs hR); have HH := Hq (And.intro k3 (And.intro o1 (And.intro b1 b3))); have HG := Hq hg; clear k0 k1 k2 k3 k4 o1 o2 b1 b2 b3 b4 hg hR)
 refine bodyPost_ret (v := .tuple #[.agg #[.int .i64 mem, .slice none 0 0, .slice (some ⟨gF, 0, none⟩) 1 cF], .int .i64 0]) ?_ rfl ?_
 · rw [results_cell_tmp rfl]
   go_simp
 · obtain ⟨k3, o1, b1, b3⟩ := HH.out
   simp only [World.size_alloc] at b1 b3
   have hT : w1.grownBy ((((w1.setCell ⟨w.heap.size + 1, 0, none⟩ (.int .i64 mem)).setCell ⟨w.heap.size + 1, 1, none⟩ (.slice none 0 0)).setCell ⟨w.heap.size + 1, 2, none⟩ (.slice (some ⟨gF, 0, none⟩) 1 cF)).alloc (.cells #[.int .i64 mem, .slice none 0 0, .slice (some ⟨gF, 0, none⟩) 1 cF] 32)) (some (w.heap.size + 1)) :=
    Za (Za (Za (Zd w1 _ 0 _) (Zd _ _ 1 _)) (Zd _ _ 2 _)) (Ga _ _ _)
   exact ⟨gF, cF, vout, rfl, Jc (Za (Za (Ga w _ none) (Ga _ _ none)) HG.out) hT (by omega), hT.cell k3 (by simp; omega), o1.kept hT (Or.inr (fun e => by have := b3 _ e; omega))⟩
theorem Ylw (u : Un) (f : Fun) (g : Nat) (hut : u.texts = []) (huf : u.funcs = [f]) (hck : Ys u = 0) (hu : Yre u) (hpl : Zea f.parts g 0 = true) (hl1 : (Zjm f.parts g).length <= 4096) (hl2 : (Zkq f.parts g).length <= 4096)
 (pt pf : Option Addr) (ct cf B : Nat) (w : World) (hU : Zab w B pt pf u) :
 Calls Try.prog 15 #[.agg #[.slice pt 0 ct, .slice pf 1 cf]] w (Ybn w f g) := by
 have CO := Hq (fun w' (h : Zab w' B pt pf u) => Zog u f g hut huf hck hu 65536 (by decide) (by decide) hpl hl1 hl2 pt pf ct cf B w' h)
 have UU := Hq hU
 clear hU hu hut huf hck hpl hl1 hl2
 go_enter Try.func15, Try.ntmps15
 go_wp2_with (go_at_call 27; refine (CO.out _ (Yl UU.out (Ga w _ none) (by simp))).mono ?_; intro e w1 hp; obtain ⟨gF, cF, gO, cO, vout, vorg, rfl, hg, ⟨b1, b2, b3, b4⟩, k0, k1, k2, k3, k4, o1, o2⟩ := hp; have HH := Hq (And.intro k4 o2); have HG := Hq hg; clear k0 k1 k2 k3 k4 o1 o2 b1 b2 b3 b4 hg)
 refine bodyPost_ret (v := .tuple #[.slice (some ⟨gO, 0, none⟩) 1 cO, .int .i64 0]) ?_ rfl ?_
 · rw [results_tmp2 rfl]
   go_simp
 · have hT : w1.grownBy (w1.alloc (.cells #[.int .i64 65536, .slice none 0 0, .slice (some ⟨gF, 0, none⟩) 1 cF] 32)) none := Ga _ _ _
   exact ⟨gO, cO, vorg, rfl, Za (Za (Ga w _ none) HG.out) hT, hT.cell HH.out.1 (by simp), HH.out.2.kept hT (Classical.em _)⟩
def Yyu (s : Int) : Int := 8 * min (max s 0) 1048576
theorem Yok (s : Int) (w : World) : Calls Try.prog 18 #[.int .i64 s] w fun e w' => e = .returned (.int .i64 (Yyu s)) /\ w = w' := by
 unfold Yyu
 go_enter Try.func18, Try.ntmps18
 go_wp2
 all_goals (go_ret; exact ⟨Xf (by first | rfl | omega | (simp; omega)), rfl⟩)
def sumF : Fun := { name := ByteArray.mk #[109, 97, 105, 110], args := 0, locals := [], parts := [(1, 0, 1), (9, 0, 1), (20, 20, 2), (12, 1, 0), (12, 2, 0)] }
def Ykj : Un := { texts := [], funcs := [sumF] }
theorem Ztf : Ys Ykj = 0 := by kernel_rfl
theorem Zte : Zea sumF.parts 4 0 = true := by kernel_rfl
theorem Zqq : Zjm sumF.parts 4 = [(3, 1), (3, 2), (20, 0), (18, 0), (3, 0), (18, 0)] := by kernel_rfl
theorem Zqp : Zkq sumF.parts 4 = [3, 4, 2, 1, 0, 0] := by kernel_rfl
theorem Yqd : Yre Ykj := ⟨by decide, by decide, fun x hx => absurd hx (by simp [Ykj]), fun f hf => by
 have : f = sumF := by simpa [Ykj] using hf
 subst this
 exact ⟨by decide, by decide, by decide, fun s hs => absurd hs (by simp [sumF])⟩⟩
def Yjz (w : World) (e : Ending) (w' : World) : Prop := ∃ bF, e = .returned (.agg #[.slice none 0 0, .slice (some ⟨bF, 0, none⟩) 1 1]) /\ w.grownBy w' none /\ Zab w' w'.heap.size none (some ⟨bF, 0, none⟩) Ykj
theorem Zad {fn : Func} {p : Tmp} {ty : TypeId} (h : fn.results = #[.cell p ty]) (tmps : Array Value) (P : Program) (w : World) :
 (results fn tmps).run P w = ((asAddr (tmps.getD p undef)).run P w).andThen fun a w₁ => (loadVar ty a).run P w₁ := by
 simp only [results, h]
 simp [Sem.run_bind, Result.andThen]
theorem Yla (w W : World) (hW : W = ((w.alloc (.cells #[.slice none 0 0, .slice (some ⟨w.heap.size + 1 + 1, 0, none⟩) 1 1] 25)).alloc (.cells #[.int .i64 1, .int .i64 0, .int .i64 1, .int .i64 9, .int .i64 0, .int .i64 1, .int .i64 20, .int .i64 20, .int .i64 2, .int .i64 12, .int .i64 1, .int .i64 0, .int .i64 12, .int .i64 2, .int .i64 0] 108)).alloc
 (.cells #[.string (ByteArray.mk #[109, 97, 105, 110]), .int .i64 0, .slice none 0 0, .slice (some ⟨w.heap.size + 1, 0, none⟩) 5 5] 69)) :
 Yjz w (.returned (.agg #[.slice none 0 0, .slice (some ⟨w.heap.size + 1 + 1, 0, none⟩) 1 1])) W := by
 have h2 : W.heap[w.heap.size + 1 + 1]? = some (.cells #[.string (ByteArray.mk #[109, 97, 105, 110]), .int .i64 0, .slice none 0 0, .slice (some ⟨w.heap.size + 1, 0, none⟩) 5 5] 69 (0, 0)) := by
  rw [hW]
  have := heap_alloc2_new (w.alloc (.cells #[.slice none 0 0, .slice (some ⟨w.heap.size + 1 + 1, 0, none⟩) 1 1] 25)) (.cells #[.int .i64 1, .int .i64 0, .int .i64 1, .int .i64 9, .int .i64 0, .int .i64 1, .int .i64 20, .int .i64 20, .int .i64 2, .int .i64 12, .int .i64 1, .int .i64 0, .int .i64 12, .int .i64 2, .int .i64 0] 108) (.cells #[.string (ByteArray.mk #[109, 97, 105, 110]), .int .i64 0, .slice none 0 0, .slice (some ⟨w.heap.size + 1, 0, none⟩) 5 5] 69)
  rw [World.size_alloc] at this
  exact this
 have h1 : W.heap[w.heap.size + 1]? = some (.cells #[.int .i64 1, .int .i64 0, .int .i64 1, .int .i64 9, .int .i64 0, .int .i64 1, .int .i64 20, .int .i64 20, .int .i64 2, .int .i64 12, .int .i64 1, .int .i64 0, .int .i64 12, .int .i64 2, .int .i64 0] 108 (0, 0)) := by
  rw [hW]
  have := heap_alloc2_old (w.alloc (.cells #[.slice none 0 0, .slice (some ⟨w.heap.size + 1 + 1, 0, none⟩) 1 1] 25)) (.cells #[.int .i64 1, .int .i64 0, .int .i64 1, .int .i64 9, .int .i64 0, .int .i64 1, .int .i64 20, .int .i64 20, .int .i64 2, .int .i64 12, .int .i64 1, .int .i64 0, .int .i64 12, .int .i64 2, .int .i64 0] 108) (.cells #[.string (ByteArray.mk #[109, 97, 105, 110]), .int .i64 0, .slice none 0 0, .slice (some ⟨w.heap.size + 1, 0, none⟩) 5 5] 69)
  rw [World.size_alloc] at this
  exact this
 have l1 := (Gs h1)
 have l2 := (Gs h2)
 have hg : w.grownBy W none := by rw [hW]; exact Za (Za (Ga _ _ _) (Ga _ _ _)) (Ga _ _ _)
 refine ⟨w.heap.size + 1 + 1, rfl, hg, Nat.le_refl _, fun h0 => absurd h0 (by simp [Ykj]), fun _ => ⟨w.heap.size + 1 + 1, 0, rfl, l2, fun i f hi => ?_⟩⟩
 have hi0 : i = 0 /\ f = sumF := by
  match i, hi with
  | 0, hi => exact ⟨rfl, (Option.some.inj hi).symm⟩
  | i + 1, hi => cases hi
 obtain ⟨rfl, rfl⟩ := hi0
 refine ⟨Cq W _ 0 _ _ _ h2, Cq W _ 1 _ _ _ h2, ⟨none, 0, Cq W _ 2 _ _ _ h2, fun h0 => absurd h0 (by simp [sumF])⟩, ⟨some ⟨w.heap.size + 1, 0, none⟩, 5, Cq W _ 3 _ _ _ h2, fun _ => ⟨w.heap.size + 1, 0, rfl, l1, fun j k n kc hj => ?_⟩⟩⟩
 match j, hj with
 | 0, hj => cases hj; exact ⟨Cq W _ 0 _ _ _ h1, Cq W _ 1 _ _ _ h1, Cq W _ 2 _ _ _ h1⟩
 | 1, hj => cases hj; exact ⟨Cq W _ 3 _ _ _ h1, Cq W _ 4 _ _ _ h1, Cq W _ 5 _ _ _ h1⟩
 | 2, hj => cases hj; exact ⟨Cq W _ 6 _ _ _ h1, Cq W _ 7 _ _ _ h1, Cq W _ 8 _ _ _ h1⟩
 | 3, hj => cases hj; exact ⟨Cq W _ 9 _ _ _ h1, Cq W _ 10 _ _ _ h1, Cq W _ 11 _ _ _ h1⟩
 | 4, hj => cases hj; exact ⟨Cq W _ 12 _ _ _ h1, Cq W _ 13 _ _ _ h1, Cq W _ 14 _ _ _ h1⟩
 | j + 5, hj => cases hj
theorem Yfl (w : World) : Calls Try.prog 24 #[] w (Yjz w) := by
 go_enter Try.func24, Try.ntmps24
 go_wp2
 refine bodyPost_ret (v := .agg #[.slice none 0 0, .slice (some ⟨w.heap.size + 1 + 1, 0, none⟩) 1 1]) ?_ rfl ?_
 · rw [Zad rfl]
   go_simp
 · exact Yla w _ rfl
theorem Yol {w : World} {v : Value} {l : List (Int × Int)} (h : w.ownsRow 0 75 2 v l.length (Xi l)) (hl : l = [(3, 1), (3, 2), (20, 0), (18, 0), (3, 0), (18, 0)]) :
 ∃ g1 k1, v = .slice (some ⟨g1, 0, none⟩) 6 k1 /\ g1 < w.heap.size /\ w.cell? ⟨g1, 4, none⟩ = some (.int .i64 20) := by
 subst hl
 obtain ⟨g1, k1, hv⟩ := Yk (n := 5) h
 subst hv
 refine ⟨g1, k1, rfl, (h.lt g1 rfl).2, ?_⟩
 have := h.cells (g := g1) rfl 4 (.int .i64 20) rfl
 simpa [Addr.add] using this
theorem Ylv {w : World} {v : Value} {l : List Int} (h : w.ownsRow 0 3 1 v l.length (l.map (Value.int .i64))) (hl : l = [3, 4, 2, 1, 0, 0]) :
 ∃ g1 k1, v = .slice (some ⟨g1, 0, none⟩) 6 k1 /\ g1 < w.heap.size /\ w.cell? ⟨g1, 0, none⟩ = some (.int .i64 3) := by
 subst hl
 obtain ⟨g1, k1, hv⟩ := Yk (n := 5) h
 subst hv
 refine ⟨g1, k1, rfl, (h.lt g1 rfl).2, ?_⟩
 have := h.cells (g := g1) rfl 0 (.int .i64 3) rfl
 simpa [Addr.add] using this
theorem Xbu (w : World) : Calls Try.prog 18 #[.int .i64 3] w fun e w' => e = .returned (.int .i64 24) /\ w = w' := Yok 3 w
structure HC (w : World) (gF : Nat) (cF g1 k1 : Nat) : Prop where
 c3 : w.cell? ⟨gF, 3, none⟩ = some (.slice (some ⟨g1, 0, none⟩) 6 k1)
 c4 : w.cell? ⟨g1, 4, none⟩ = some (.int .i64 20)
 l1 : gF < w.heap.size
 l2 : g1 < w.heap.size
theorem Zxx {w w' : World} {gF cF g1 k1 : Nat} (h : HC w gF cF g1 k1) (g : w.grownBy w' none) : HC w' gF cF g1 k1 :=
 ⟨g.cell h.c3 (by simp), g.cell h.c4 (by simp), Nat.lt_of_lt_of_le h.l1 g.size, Nat.lt_of_lt_of_le h.l2 g.size⟩
theorem Xbs {w w' : World} {e : Ending} (h : Ybo w 0 sumF 4 e w') : ∃ gF cF g1 k1, e = .returned (.tuple #[.agg #[.int .i64 0, .slice none 0 0, .slice (some ⟨gF, 0, none⟩) 1 cF], .int .i64 0]) /\ w.grownBy w' none /\ HC w' gF cF g1 k1 := by
 obtain ⟨gF, cF, vout, he, hg, hc, ho⟩ := h
 obtain ⟨g1, k1, rfl, h2, h4⟩ := Yol ho Zqq
 exact ⟨gF, cF, g1, k1, he, hg, hc, h4, World.block_lt_of_cell? _ _ hc, h2⟩
structure HO (w : World) (gO : Nat) (g1 k1 : Nat) : Prop where
 c0 : w.cell? ⟨gO, 0, none⟩ = some (.slice (some ⟨g1, 0, none⟩) 6 k1)
 c1 : w.cell? ⟨g1, 0, none⟩ = some (.int .i64 3)
 l1 : gO < w.heap.size
 l2 : g1 < w.heap.size
theorem Xbr {w w' : World} {e : Ending} (h : Ybn w sumF 4 e w') : ∃ gO cO g1 k1, e = .returned (.tuple #[.slice (some ⟨gO, 0, none⟩) 1 cO, .int .i64 0]) /\ w.grownBy w' none /\ HO w' gO g1 k1 := by
 obtain ⟨gO, cO, vorg, he, hg, hc, ho⟩ := h
 obtain ⟨g1, k1, rfl, h2, h4⟩ := Ylv ho Zqp
 exact ⟨gO, cO, g1, k1, he, hg, hc, h4, World.block_lt_of_cell? _ _ hc, h2⟩
theorem Yie (w : World) : Calls Try.prog 9 #[] w fun e w' => e = .returned (.bool true) /\ w.grownBy w' none := by
 have CO := Hq (fun bF w' (h : Zab w' w'.heap.size none (some ⟨bF, 0, none⟩) Ykj) => Ypa Ykj sumF 4 rfl rfl Ztf Yqd 0 (by decide) (by decide) Zte (by rw [Zqq]; decide) (by rw [Zqp]; decide) none (some ⟨bF, 0, none⟩) 0 1 w'.heap.size w' h)
 have OR := Hq (fun bF w' (h : Zab w' w'.heap.size none (some ⟨bF, 0, none⟩) Ykj) => Ylw Ykj sumF 4 rfl rfl Ztf Yqd Zte (by rw [Zqq]; decide) (by rw [Zqp]; decide) none (some ⟨bF, 0, none⟩) 0 1 w'.heap.size w' h)
 go_enter Try.func9, Try.ntmps9
 have S0 : True := trivial
 go_wp2_with (first
  | (go_at_call 24; have hz := S0; clear S0 hz; refine (Yfl _).mono ?_; intro e w1 hp; obtain ⟨bF, rfl, hg1, hu1⟩ := hp; have U1 := Hq hu1; have G1 := Hq hg1; clear hg1 hu1)
  | (go_at_call 11; refine (CO.out bF _ U1.out).mono ?_; intro e w2 hp; obtain ⟨gF, cF, g1, k1, rfl, hg2, hc2⟩ := Xbs hp; have G2 := Hq hg2; have H2 := Hq hc2; clear hg2 hc2 hp)
  | (go_at_call 24; refine (Yfl _).mono ?_; intro e w3 hp; obtain ⟨bF3, rfl, hg3, hu3⟩ := hp; have U3 := Hq hu3; have G3 := Hq hg3; have p2 := hg3.cell (a := ⟨w2.heap.size, 2, none⟩) (v := .slice (some ⟨gF, 0, none⟩) 1 cF) (by simp) (by simp); have hz3 := Zfg hg3; clear hg3 hu3)
  | (go_at_call 15; refine (OR.out bF3 _ U3.out).mono ?_; intro e w4 hp; obtain ⟨gO, cO, g2, k2, rfl, hg4, ho4⟩ := Xbr hp; have G4 := Hq hg4; have q2 := hg4.cell p2 (by simp); have hz4 := Nat.lt_of_lt_of_le hz3 hg4.size; have hK := Zxx (Zxx (Zxx H2.out (Ga _ _ none)) G3.out) hg4; obtain ⟨x3, x4, x5, x6⟩ := hK; obtain ⟨y0, y1, y2, y3⟩ := ho4; clear hg4 hp)
  | (go_at_call 18; refine (Xbu _).mono ?_; rintro e w5 ⟨rfl, rfl⟩))
 go_ret
 exact ⟨rfl, Za (Za (Za (Za G1.out G2.out) (Ga _ _ none)) G3.out) G4.out⟩
open Go.ChangeShapes Go.WideShapes
theorem Zrz {w w' : World} (h : w.grownBy w' none) (may : MemPlace -> Prop) : w.keptBut w' may := by
 refine ⟨h.os, h.output, fun i hi => ?_⟩
 rw [h.block i hi (by simp)]
 cases w.heap[i]? with
 | none => rfl
 | some o =>
   cases o with
   | cells c t fr => exact ⟨rfl, rfl, rfl, fun _ _ => rfl⟩
   | map es ck => exact Or.inr ⟨rfl, rfl⟩
   | _ => rfl
theorem Zuy {w w' : World} (h : w.grownBy w' none) (a : Addr) (ha : a.block < w.heap.size) : w'.frozen? a = w.frozen? a := by
 unfold World.frozen?
 rw [h.block a.block ha (by simp)]
theorem Zqx {H : Type} {enc : TypeId × Value -> H} {P : Program} {f : Func} {s : ChangeSpec} {apart fresh handsOn again : Bool} {W W' : World} {args : Array Value} {v : Value} {ds gs : List (DataW H)} {before pa pv : List MemPlace}
 (hW : DataW.Whole enc P f.params.toList s.vars apart W args.toList ds gs before)
 (hres : ∀ (b : Nat) (sp : Nat -> Bool) (hd : Bool), DataW.TrodAll enc P W' b sp hd f.resultTypes.toList (v.resultList f.resultTypes.size) (s.fn H (ds ++ gs)).results [])
 (hargs : ∀ sp : Nat -> Bool, (∀ p ∈ before, sp p.block = true) -> DataW.TrodAll enc P W' 0 sp true f.params.toList args.toList (s.fn H (ds ++ gs)).args pa)
 (hvars : ∀ sp : Nat -> Bool, (∀ p ∈ before, sp p.block = true) -> DataW.TrodVars enc P W' sp s.vars (s.fn H (ds ++ gs)).vars pv)
 (hps : before = pa ++ pv) (hg : W.grownBy W' none)
 (hok : ∀ (j : Nat) (t : TypeId) (r : Value), f.resultTypes[j]? = some t -> (v.resultList f.resultTypes.size)[j]? = some r -> Value.okWide P W' .any 0 t r) :
 s.post enc P f apart fresh handsOn again W args v W' := by
 subst hps
 have low := hW.lt
 have hold : ∀ p ∈ pa ++ pv, (fun b => decide (b < W.heap.size)) p.block = true := fun p hp => decide_eq_true (low p hp)
 have hall : ∀ p ∈ pa ++ pv, (fun _ : Nat => true) p.block = true := fun _ _ => rfl
 have hW0 := hW
 obtain ⟨_, _, _, _, _, hz, hn⟩ := hW0
 refine ⟨ds, gs, pa ++ pv, [], pa, pv, hW, hres _ _ _, hargs _ hold, hvars _ hold, Zrz hg _, fun _ => ⟨hok, _, _, pa ++ pv, ⟨pa, pv, trodAll_append (p := []) (hargs _ hall) (hres _ _ _), hvars _ hall, rfl, ?_, hn⟩, fun p hp _ => hp⟩⟩
 intro b off hp
 rw [Zuy hg _ (low _ hp)]
 exact hz b off hp
open Go.ChangeAt
section
variable {H : Type} {enc : TypeId × Value -> H} {P : Program}
theorem Yca {W W' : World} (hg : W.grownBy W' none) {p : MemPlace} (hp : p.block < W.heap.size) : W.sameAt W' p := by
 have hb := hg.block p.block hp (by simp)
 cases p with
 | cell b off => exact World.cell?_of_block (w := W) hb
 | map b => exact hb
theorem Zqg (hl : laidOutB P = true) {W W' : World} {sp : Nat -> Bool} (hg : W.grownBy W' none) :
 ∀ {ts : List TypeId} {vs : List Value} {ds : List (DataW H)} {ps : List MemPlace}, (∀ t ∈ ts, P.readableRec t = true /\ t < P.types.size) ->
 DataW.TrodAll enc P W 0 (fun _ => true) true ts vs ds ps -> (∀ p ∈ ps, p.block < W.heap.size) -> (∀ p ∈ ps, sp p.block = true) -> DataW.TrodAll enc P W' 0 sp true ts vs ds ps
 | [], [], [], _, _, h, _, _ => h
 | t :: ts, _ :: _, _ :: _, _, hr, ⟨p, q, h1, h2, e⟩, hlt, hs =>
   ⟨p, q, WideElems.Trod_stays hl (hr t (List.mem_cons.2 (Or.inl rfl))).1 (hr t (List.mem_cons.2 (Or.inl rfl))).2 h1
       (fun x hx => Yca hg (hlt x (by rw [e]; exact List.mem_append_left _ hx)))
       (fun x hx => hs x (by rw [e]; exact List.mem_append_left _ hx)),
    Zqg hl hg (fun t ht => hr t (List.mem_cons.2 (Or.inr ht))) h2
     (fun x hx => hlt x (by rw [e]; exact List.mem_append_right _ hx)) (fun x hx => hs x (by rw [e]; exact List.mem_append_right _ hx)), e⟩
theorem Ycy {f : Func} {s : ChangeSpec} {tb : TypeId} {apart fresh handsOn again : Bool} {W W' : World} {args : Array Value} {ds gs : List (DataW H)} {before : List MemPlace}
 (hl : laidOutB P = true) (hr : ∀ t ∈ f.params.toList, P.readableRec t = true /\ t < P.types.size) (hv : s.vars = [])
 (hres : f.resultTypes = #[tb]) (hb : P.underlying tb = some .bool)
 (hW : DataW.Whole enc P f.params.toList s.vars apart W args.toList ds gs before)
 (hfn : gs = [] -> s.fn H (ds ++ gs) = { results := [.lit (.bool true)], args := ds }) (hg : W.grownBy W' none) :
 s.post enc P f apart fresh handsOn again W args (.bool true) W' := by
 have hW' := hW
 obtain ⟨p, q, hA, hV, rfl, hfz, hnd⟩ := hW'
 have hgs : gs = [] /\ q = [] := by
  rw [hv] at hV
  cases gs with
  | nil => exact ⟨rfl, hV⟩
  | cons g gs => exact absurd hV (fun h => h)
 obtain ⟨rfl, rfl⟩ := hgs
 have hf := hfn rfl
 refine Zqx (pa := p) (pv := []) hW (fun b sp hd => ?_) (fun sp hsp => ?_) (fun sp hsp => ?_) (by simp) hg ?_
 · rw [hf, hres]
   exact trodAll_cons_mk (shut_bool hb _) trodAll_mk0
 · rw [hf]
   exact Zqg hl hg hr hA (fun x hx => hW.lt x (List.mem_append_left _ hx)) (fun x hx => hsp x (List.mem_append_left _ hx))
 · rw [hf, hv]; exact rfl
 · exact ok_one hres rfl (okWide_bool_mk hb _)
end
theorem Ytr (bc Bd B ct n : Nat) (pt : Option Addr) (ts : List (ByteArray × List Int)) (nm : ByteArray) (d : List Int) (hn : ts[n]? = some (nm, d)) (hts : ts.length <= 17592186044415) (w : World) (hb : w.cell? ⟨bc, 0, none⟩ = some (.pointer (some ⟨Bd, 0, none⟩))) (h0 : w.cell? ⟨Bd, 0, none⟩ = some (.slice pt ts.length ct)) (hT : Zap w B pt ts) :
 Calls Try.prog 72 #[.int .i64 n, .pointer (some ⟨bc, 0, none⟩)] w fun e w' => e = .returned (.int .i64 d.length) /\ w' = w := by
 have hlt : n < ts.length := (List.getElem?_eq_some_iff.1 hn).1
 obtain ⟨bt, ot, rfl, hbt, hct⟩ := hT (by omega)
 obtain ⟨e0, pd, cd, e1, _⟩ := hct n nm d hn
 have hi : (n : Int) < (ts.length : Int) := by omega
 have hl1 := World.block_lt_of_cell? _ _ hb
 have hl2 := World.block_lt_of_cell? _ _ h0
 have hl3 := World.block_lt_of_cell? _ _ e1
 clear hT hct hn
 go_enter Try.func72, Try.ntmps72
 go_wp2
 go_ret
 exact ⟨rfl, rfl⟩
theorem Ysw (E Bd : Nat) (vt vf : Value) (nm : ByteArray) (ar : Int) (vl vp vout vorg vlo vk : Value) (out : List (Int × Int)) (org : List Int) (at_ : Int) (w : World)
 (hC : Yc w E Bd vt vf nm ar vl vp vout vorg vlo vk out org) (ho : out.length <= 999999999999) (hg : org.length <= 999999999999) :
 Calls Try.prog 74 #[.iface 110 (.pointer (some ⟨Bd, 0, none⟩)), .int .i64 at_] w fun e w' => (∃ v, e = .returned v) /\ Sp (Yj Bd vout vorg) w w' /\ ∃ vo vg, Yc w' E Bd vt vf nm ar vl vp vo vg vlo vk (out ++ [(3, 0)] ++ [(31, 0)]) (org ++ [at_] ++ [at_]) /\ (∀ k, k < w.heap.size -> Yj Bd vo vg k -> Yj Bd vout vorg k) := by
 have hm := Zbc ⟨Bd, 0, none⟩
 have E1 := Hq (Zbq E Bd vt vf nm ar vl vp vout vorg vlo vk out org at_ 3 0 w hC (by omega) (by omega))
 have L1 : (out ++ [((3 : Int), (0 : Int))]).length <= 1000000000000 := by simp; omega
 have L2 : (org ++ [at_]).length <= 1000000000000 := by simp; omega
 clear hC
 go_enter Try.func74, Try.ntmps74
 go_wp2_with (first
  | (go_at_call 44; refine E1.out.mono ?_; clear E1; intro e w1 hp; obtain ⟨rfl, hsp, vo, vg, hC1, hrow⟩ := hp; have S1 := Hq hsp; have R1 := Hq hrow; have E2 := Hq (Zbq _ _ _ _ _ _ _ _ _ _ _ _ _ _ at_ 31 0 _ hC1 L1 L2); clear hsp hC1 hrow)
  | (go_at_call 44; refine E2.out.mono ?_; clear E2; intro e w2 hp; obtain ⟨rfl, hsp, hrest⟩ := hp; have S2 := Hq hsp; have R2 := Hq hrest; clear hsp hrest))
 go_ret
 obtain ⟨vo2, vg2, hC2, hrow2⟩ := R2.out
 exact ⟨⟨_, rfl⟩, Zr S1.out S2.out (fun k hk hp => R1.out k hk hp), vo2, vg2, hC2, fun k hk hp => R1.out k hk (hrow2 k (Nat.lt_of_lt_of_le hk S1.out.size) hp)⟩
theorem Ykp (E Bd b3 b4 bc bp op cp np at_ B ct nn : Nat) (pt : Option Addr) (ts : List (ByteArray × List Int)) (tn : ByteArray) (d : List Int) (hn0 : ts[nn]? = some (tn, d)) (hts : ts.length <= 17592186044415) (vf : Value) (nm : ByteArray) (ar : Int) (vl vout vorg vlo vk : Value) (out : List (Int × Int)) (org : List Int) (o : Int) (w : World)
 (hC : Yc w E Bd (.slice pt ts.length ct) vf nm ar vl (.slice (some ⟨bp, op, none⟩) np cp) vout vorg vlo vk out org) (hT : Zap w B pt ts) (ho : out.length <= 1000000000000) (hg : org.length <= 1000000000000) (hat : at_ < np) (hnp : np <= 17592186044415)
 (h3 : w.cell? ⟨b3, 0, none⟩ = some (.int .i64 o)) (h4 : w.cell? ⟨b4, 0, none⟩ = some (.func (.func 72) #[] #[.pointer (some ⟨bc, 0, none⟩)])) (hc : w.cell? ⟨bc, 0, none⟩ = some (.pointer (some ⟨Bd, 0, none⟩))) (hn : w.cell? ⟨bp, op + at_ * 3 + 1, none⟩ = some (.int .i64 nn))
 (hb : bp < w.heap.size) (hbc : bc < w.heap.size) (hb3 : b3 < w.heap.size) (hb4 : b4 < w.heap.size) :
 Calls Try.prog 68 #[.iface 110 (.pointer (some ⟨Bd, 0, none⟩)), .int .i64 at_, .pointer (some ⟨b3, 0, none⟩), .pointer (some ⟨b4, 0, none⟩), .pointer (some ⟨bc, 0, none⟩)] w (Zia w E Bd (.slice pt ts.length ct) vf nm ar vl (.slice (some ⟨bp, op, none⟩) np cp) vout vorg vlo vk out org at_ o d.length) := by
 have hm := Zbc ⟨Bd, 0, none⟩
 have hni := Zlt ⟨Bd, 0, none⟩
 have EM := Hq (Zbq E Bd (.slice pt ts.length ct) vf nm ar vl (.slice (some ⟨bp, op, none⟩) np cp) vout vorg vlo vk out org at_ o d.length w.drew (Zaa hC (Zf (Ze w none))) ho hg)
 have hd : w.cell? ⟨Bd, 5, none⟩ = some (.slice (some ⟨bp, op, none⟩) np cp) := Yo hC 5
 have hd0 : w.cell? ⟨Bd, 0, none⟩ = some (.slice pt ts.length ct) := Yo hC 0
 have LA := Hq (Ytr bc Bd B ct nn pt ts tn d hn0 hts w.drew hc hd0 (Zdx hT (Zf (Ze w none)) (by simp)))
 have hBd : Bd < w.heap.size := Nat.lt_of_lt_of_le hC.lt hC.le
 have hai : (at_ : Int) < (np : Int) := by omega
 clear hC hT hd0 hn0
 go_enter Try.func68, Try.ntmps68
 go_wp2
 refine wp_region_still_tail 17 (by kernel_rfl) (by kernel_rfl) ?_
 simp only [List.take_succ_cons, List.take_zero, List.drop_succ_cons, List.drop_zero]
 repeat still_step
 still_call LA.out
 repeat still_step
 refine wpStill_nil ?_
 go_wp2_with (go_at_call 44; refine EM.out.mono ?_; intro e w1 hp; obtain ⟨rfl, hsp, hrest⟩ := hp; have SP := Hq hsp; have RS := Hq hrest; clear hsp hrest)
 go_ret
 exact ⟨rfl, Zwp SP.out, RS.out⟩
theorem Ykw (E Bd b6 bc bp op cp np at_ : Nat) (vt vf : Value) (nm : ByteArray) (ar : Int) (vl vout vorg vlo vk : Value) (out : List (Int × Int)) (org : List Int) (n : Int) (w : World)
 (hC : Yc w E Bd vt vf nm ar vl (.slice (some ⟨bp, op, none⟩) np cp) vout vorg vlo vk out org) (ho : out.length <= 999999999999) (hg : org.length <= 999999999999) (hat : at_ < np) (hnp : np <= 17592186044415)
 (h6 : w.cell? ⟨b6, 0, none⟩ = some (.func (.func 70) #[] #[.pointer (some ⟨bc, 0, none⟩)])) (hb6 : Bd < b6 /\ b6 < E) (hc : w.cell? ⟨bc, 0, none⟩ = some (.pointer (some ⟨Bd, 0, none⟩))) (hbc : Bd < bc /\ bc < E) (hn : w.cell? ⟨bp, op + at_ * 3 + 1, none⟩ = some (.int .i64 n)) (hbp : bp < Bd) :
 Calls Try.prog 73 #[.iface 110 (.pointer (some ⟨Bd, 0, none⟩)), .int .i64 at_, .pointer (some ⟨b6, 0, none⟩)] w fun e w' => (∃ v, e = .returned v) /\ Sp (Yj Bd vout vorg) w w' /\ ∃ vo vg, Yc w' E Bd vt vf nm ar vl (.slice (some ⟨bp, op, none⟩) np cp) vo vg vlo vk (out ++ [(6, 0)] ++ [(n, 0)]) (org ++ [(at_ : Int)] ++ [(at_ : Int)]) /\ (∀ k, k < w.heap.size -> Yj Bd vo vg k -> Yj Bd vout vorg k) := by
 have hm := Zbc ⟨Bd, 0, none⟩
 have E1 := Hq (Zbq E Bd vt vf nm ar vl _ vout vorg vlo vk out org at_ 6 0 w hC (by omega) (by omega))
 have L1 : (out ++ [((6 : Int), (0 : Int))]).length <= 1000000000000 := by simp; omega
 have L2 : (org ++ [(at_ : Int)]).length <= 1000000000000 := by simp; omega
 have CC := Hq hC
 have hE1 : E <= w.heap.size := hC.le
 have HN := Hq (fun (w1 : World) (vo vg : Value) (g : Sp (Yj Bd vout vorg) w w1) (h : Yc w1 E Bd vt vf nm ar vl (.slice (some ⟨bp, op, none⟩) np cp) vo vg vlo vk (out ++ [(6, 0)]) (org ++ [(at_ : Int)])) =>
  Zne E Bd bc bp op cp np at_ vt vf nm ar vl vo vg vlo vk _ _ n w1 h L1 L2 hat hnp (by rw [Ye (Zix hC g bc hbc.2 (by omega))]; exact hc) (by rw [Ye (Zix hC g bp (by omega) (by omega))]; exact hn) (by have := g.size; omega) (by have := g.size; omega))
 clear hC
 go_enter Try.func73, Try.ntmps73
 go_wp2_with (first
  | (go_at_call 44; refine E1.out.mono ?_; clear E1; intro e w1 hp; obtain ⟨rfl, hsp, vo, vg, hC1, hrow⟩ := hp; have S1 := Hq hsp; have R1 := Hq hrow; have NA := Hq (HN.out w1 vo vg hsp hC1); have x6 := (Ye (Zix CC.out hsp b6 hb6.2 (Nat.ne_of_gt hb6.1)) 0).trans h6; have hz6 := Nat.lt_of_lt_of_le (Nat.lt_of_lt_of_le hb6.2 hE1) hsp.size; clear hsp hC1 hrow)
  | (go_at_call 70; refine NA.out.mono ?_; clear NA; intro e w2 hp; obtain ⟨rfl, hsp, hrest⟩ := hp; have S2 := Hq hsp; have R2 := Hq hrest; clear hsp hrest))
 go_ret
 obtain ⟨vo2, vg2, hC2, hrow2⟩ := R2.out
 exact ⟨⟨_, rfl⟩, Zr S1.out S2.out (fun k hk hp => R1.out k hk hp), vo2, vg2, hC2, fun k hk hp => R1.out k hk (hrow2 k (Nat.lt_of_lt_of_le hk S1.out.size) hp)⟩
theorem Ztd {w : World} {B : Nat} {pt : Option Addr} {ts : List (ByteArray × List Int)} (h : Zap w B pt ts) (n : Nat) : Zap w B pt (ts.take n) := fun h0 => by
 obtain ⟨b, o, e, hb, hc⟩ := h (by simp only [List.length_take] at h0; omega)
 refine ⟨b, o, e, hb, fun i nm d hi => hc i nm d ?_⟩
 by_cases hin : i < n
 · rwa [List.getElem?_take_of_lt hin] at hi
 · rw [List.getElem?_eq_none (by simp only [List.length_take]; omega)] at hi; cases hi
theorem Zlh (ts : List (ByteArray × List Int)) (n : Nat) : ∀ k, k <= n -> Zy (ts.take n) k = Zy ts k
 | 0, _ => rfl
 | k + 1, h => by
   rw [Zy, Zy, Zlh ts n k (by omega)]
   have : (ts.take n).getD k (ByteArray.empty, []) = ts.getD k (ByteArray.empty, []) := by simp [List.getD, List.getElem?_take_of_lt (show k < n by omega)]
   rw [this]
theorem Yzh (bc Bd B ct n : Nat) (pt : Option Addr) (ts : List (ByteArray × List Int)) (hn : n < ts.length) (hts : ts.length <= 1024) (hct : ts.length <= ct) (hct2 : ct <= maxLen) (hwf : ∀ x ∈ ts, x.1.size <= maxLen /\ x.2.length <= 17592186044415) (w : World) (hb : w.cell? ⟨bc, 0, none⟩ = some (.pointer (some ⟨Bd, 0, none⟩))) (h0 : w.cell? ⟨Bd, 0, none⟩ = some (.slice pt ts.length ct)) (hT : Zap w B pt ts) (hB : B <= w.heap.size) :
 Calls Try.prog 71 #[.int .i64 n, .pointer (some ⟨bc, 0, none⟩)] w fun e w' => e = .returned (.int .i64 (Zy ts n)) /\ w.grownBy w' none := by
 have hlen : (ts.take n).length = n := by simp only [List.length_take]; omega
 have hsz := Zlr (ts.take n) (by omega) (fun x hx => hwf x (List.mem_of_mem_take hx)) pt ct B w (Ztd hT n) hB
 rw [hlen, Zlh ts n n (Nat.le_refl _)] at hsz
 have SZ := Hq hsz
 obtain ⟨bt, ot, rfl, hbt, _⟩ := hT (by omega)
 have hl1 := World.block_lt_of_cell? _ _ hb
 have hl2 := World.block_lt_of_cell? _ _ h0
 unfold maxLen at hct2
 have hi : (n : Int) <= (ct : Int) := by omega
 clear hsz hlen hT hwf
 go_enter Try.func71, Try.ntmps71
 go_wp2_with (go_at_call 41; refine SZ.out.mono ?_; rintro e w1 ⟨rfl, hg⟩; have HG := Hq hg; clear hg)
 all_goals (go_ret; exact ⟨rfl, HG.out⟩)
theorem Yhu {w w' : World} {b3 b4 bc Bd bp o1 : Nat} {x y z u v : Value} (g : w.grownBy w' none) (h1 : w.cell? ⟨b3, 0, none⟩ = some x) (h2 : w.cell? ⟨b4, 0, none⟩ = some y) (h3 : w.cell? ⟨bc, 0, none⟩ = some z) (h4 : w.cell? ⟨Bd, 5, none⟩ = some u) (h5 : w.cell? ⟨bp, o1, none⟩ = some v)
 (l1 : b3 < w.heap.size) (l2 : b4 < w.heap.size) (l3 : bc < w.heap.size) (l4 : Bd < w.heap.size) (l5 : bp < w.heap.size) :
 w'.cell? ⟨b3, 0, none⟩ = some x /\ w'.cell? ⟨b4, 0, none⟩ = some y /\ w'.cell? ⟨bc, 0, none⟩ = some z /\ w'.cell? ⟨Bd, 5, none⟩ = some u /\ w'.cell? ⟨bp, o1, none⟩ = some v /\ b3 < w'.heap.size /\ b4 < w'.heap.size /\ bc < w'.heap.size /\ Bd < w'.heap.size /\ bp < w'.heap.size :=
 ⟨g.cell h1 (by simp), g.cell h2 (by simp), g.cell h3 (by simp), g.cell h4 (by simp), g.cell h5 (by simp), Nat.lt_of_lt_of_le l1 g.size, Nat.lt_of_lt_of_le l2 g.size, Nat.lt_of_lt_of_le l3 g.size, Nat.lt_of_lt_of_le l4 g.size, Nat.lt_of_lt_of_le l5 g.size⟩
theorem Yhv {w w' : World} {E Bd b3 b4 bc bp op o1 np cp : Nat} {vt vf : Value} {nm : ByteArray} {ar : Int} {vl vout vorg vlo vk vo vg : Value} {out out' : List (Int × Int)} {org org' : List Int} {x y z v : Value}
 (hC : Yc w E Bd vt vf nm ar vl (.slice (some ⟨bp, op, none⟩) np cp) vout vorg vlo vk out org) (g : Sp (Yj Bd vout vorg) w w') (hC' : Yc w' E Bd vt vf nm ar vl (.slice (some ⟨bp, op, none⟩) np cp) vo vg vlo vk out' org')
 (h1 : w.cell? ⟨b3, 0, none⟩ = some x) (h2 : w.cell? ⟨b4, 0, none⟩ = some y) (h3 : w.cell? ⟨bc, 0, none⟩ = some z) (h5 : w.cell? ⟨bp, o1, none⟩ = some v) (l1 : Bd < b3 /\ b3 < E) (l2 : Bd < b4 /\ b4 < E) (l3 : Bd < bc /\ bc < E) (l5 : bp < Bd) :
 w'.cell? ⟨b3, 0, none⟩ = some x /\ w'.cell? ⟨b4, 0, none⟩ = some y /\ w'.cell? ⟨bc, 0, none⟩ = some z /\ w'.cell? ⟨Bd, 5, none⟩ = some (.slice (some ⟨bp, op, none⟩) np cp) /\ w'.cell? ⟨bp, o1, none⟩ = some v /\ b3 < w'.heap.size /\ b4 < w'.heap.size /\ bc < w'.heap.size /\ Bd < w'.heap.size /\ bp < w'.heap.size := by
 have hlt := hC.lt
 have hle := hC'.le
 exact ⟨by rw [Ye (Zix hC g b3 l1.2 (by omega))]; exact h1, by rw [Ye (Zix hC g b4 l2.2 (by omega))]; exact h2, by rw [Ye (Zix hC g bc l3.2 (by omega))]; exact h3, Yo hC' 5, by rw [Ye (Zix hC g bp (by omega) (by omega))]; exact h5, by omega, by omega, by omega, by omega, by omega⟩
theorem Yrk (E Bd b3 b4 bc bp op cp np at_ B ct nn : Nat) (pt : Option Addr) (ts : List (ByteArray × List Int)) (hn0 : nn < ts.length) (hts : ts.length <= 1024) (hct : ts.length <= ct) (hct2 : ct <= maxLen) (hwf : ∀ x ∈ ts, x.1.size <= maxLen /\ x.2.length <= 17592186044415) (vf : Value) (nm : ByteArray) (ar : Int) (vl vout vorg vlo vk : Value) (out : List (Int × Int)) (org : List Int) (o : Int) (w : World)
 (hC : Yc w E Bd (.slice pt ts.length ct) vf nm ar vl (.slice (some ⟨bp, op, none⟩) np cp) vout vorg vlo vk out org) (hT : Zap w B pt ts) (hB : B <= w.heap.size) (ho : out.length <= 1000000000000) (hg : org.length <= 1000000000000) (hat : at_ < np) (hnp : np <= 17592186044415)
 (h3 : w.cell? ⟨b3, 0, none⟩ = some (.int .i64 o)) (h4 : w.cell? ⟨b4, 0, none⟩ = some (.func (.func 71) #[] #[.pointer (some ⟨bc, 0, none⟩)])) (hc : w.cell? ⟨bc, 0, none⟩ = some (.pointer (some ⟨Bd, 0, none⟩))) (hn : w.cell? ⟨bp, op + at_ * 3 + 1, none⟩ = some (.int .i64 nn))
 (l3 : Bd < b3 /\ b3 < E) (l4 : Bd < b4 /\ b4 < E) (lc : Bd < bc /\ bc < E) (lp : bp < Bd) :
 Calls Try.prog 68 #[.iface 110 (.pointer (some ⟨Bd, 0, none⟩)), .int .i64 at_, .pointer (some ⟨b3, 0, none⟩), .pointer (some ⟨b4, 0, none⟩), .pointer (some ⟨bc, 0, none⟩)] w (Zia w E Bd (.slice pt ts.length ct) vf nm ar vl (.slice (some ⟨bp, op, none⟩) np cp) vout vorg vlo vk out org at_ o (Zy ts nn)) := by
 have hm := Zbc ⟨Bd, 0, none⟩
 have hni := Zlt ⟨Bd, 0, none⟩
 have EM := Hq (fun (w' : World) (g : w.grownBy w' none) => Zbq E Bd (.slice pt ts.length ct) vf nm ar vl (.slice (some ⟨bp, op, none⟩) np cp) vout vorg vlo vk out org at_ o (Zy ts nn) w' (Zaa hC g) ho hg)
 have hd : w.cell? ⟨Bd, 5, none⟩ = some (.slice (some ⟨bp, op, none⟩) np cp) := Yo hC 5
 have hd0 : w.cell? ⟨Bd, 0, none⟩ = some (.slice pt ts.length ct) := Yo hC 0
 have AT := Hq (Yzh bc Bd B ct nn pt ts hn0 hts hct hct2 hwf w.drew hc hd0 (Zdx hT (Zf (Ze w none)) (by simp)) hB)
 have hlt := hC.lt
 have hle := hC.le
 have q1 : b3 < w.heap.size := by omega
 have q2 : b4 < w.heap.size := by omega
 have q3 : bc < w.heap.size := by omega
 have q4 : Bd < w.heap.size := by omega
 have q5 : bp < w.heap.size := by omega
 have hai : (at_ : Int) < (np : Int) := by omega
 have CC := Hq hC
 clear hC hT hd0 hwf
 go_enter Try.func68, Try.ntmps68
 go_wp2
 go_region_held3 (fun W' => W'.cell? ⟨b3, 0, none⟩ = some (.int .i64 o) /\ W'.cell? ⟨b4, 0, none⟩ = some (.func (.func 71) #[] #[.pointer (some ⟨bc, 0, none⟩)]) /\ W'.cell? ⟨bc, 0, none⟩ = some (.pointer (some ⟨Bd, 0, none⟩)) /\ W'.cell? ⟨Bd, 5, none⟩ = some (.slice (some ⟨bp, op, none⟩) np cp) /\ W'.cell? ⟨bp, op + at_ * 3 + 1, none⟩ = some (.int .i64 nn) /\ b3 < W'.heap.size /\ b4 < W'.heap.size /\ bc < W'.heap.size /\ Bd < W'.heap.size /\ bp < W'.heap.size) (first | exact ⟨by assumption, by assumption, by assumption, by assumption, by assumption, by assumption, by assumption, by assumption, by assumption, by assumption⟩ | assumption) (first | (go_at_call 71; refine AT.out.mono ?_; rintro e w1 ⟨rfl, hg1⟩; have G1 := Hq hg1; have K1 := Yhu (w := w) (Za (Zf (Ze w none)) hg1) h3 h4 hc hd hn q1 q2 q3 q4 q5; have K1c := K1.1; clear hg1) | (go_at_call 44; refine (EM.out _ (Za (Zf (Ze w none)) G1.out)).mono ?_; intro e w2 hp; obtain ⟨rfl, hsp, vo, vg, hC2, hrow⟩ := hp; have S2 := Hq hsp; have C2 := Hq hC2; have R2 := Hq hrow; have K2 := Yhv (Zaa CC.out (Za (Zf (Ze w none)) G1.out)) hsp hC2 K1.1 K1.2.1 K1.2.2.1 K1.2.2.2.2.1 l3 l4 lc lp; clear hsp hC2 hrow))
 all_goals
  go_wp2
  go_ret
  exact ⟨rfl, Zr (Zl (Za (Zf (Ze w none)) G1.out) (by simp)) S2.out (fun k _ h => h), vo, vg, C2.out, fun k hk hp => R2.out k (Nat.lt_of_lt_of_le hk G1.out.size) hp⟩
def Zsy (out : List (Int × Int)) (j : Nat) (v : Int) : List (Int × Int) := out.set j ((out.getD j (0, 0)).1, v)
theorem Xn (out : List (Int × Int)) (j : Nat) (v : Int) : (Zsy out j v).length = out.length := by unfold Zsy; simp
theorem Zpy : ∀ (out : List (Int × Int)) (j : Nat) (v : Int), j < out.length -> (Xi out).set (j * 2 + 1) (.int .i64 v) = Xi (Zsy out j v)
 | [], j, v, h => absurd h (by simp)
 | x :: r, 0, v, h => by simp [Xi, Zsy]
 | x :: r, j + 1, v, h => by
   have ih := Zpy r j v (by simpa using h)
   have e : (j + 1) * 2 + 1 = (j * 2 + 1) + 1 + 1 := by omega
   rw [e]
   have e2 : Zsy (x :: r) (j + 1) v = x :: Zsy r j v := by simp [Zsy]
   rw [e2]
   simp only [Xi, List.set_cons_succ]
   rw [ih]
theorem Zvo {w : World} {E Bd g n k : Nat} {vt vf : Value} {nm : ByteArray} {ar : Int} {vl vp vorg vlo vk : Value} {out : List (Int × Int)} {org : List Int} (hC : Yc w E Bd vt vf nm ar vl vp (.slice (some ⟨g, 0, none⟩) n k) vorg vlo vk out org) (hn : n = out.length) (j : Nat) (hj : j < out.length) (v : Int) :
 Yc (w.setCell ⟨g, j * 2 + 1, none⟩ (.int .i64 v)) E Bd vt vf nm ar vl vp (.slice (some ⟨g, 0, none⟩) n k) vorg vlo vk (Zsy out j v) org /\ Sp (Yj Bd (.slice (some ⟨g, 0, none⟩) n k) vorg) w (w.setCell ⟨g, j * 2 + 1, none⟩ (.int .i64 v)) := by
 subst hn
 have hg := (hC.out.lt g rfl).1
 have hlt := hC.lt
 have hst := hC.out.stored (j * 2 + 1) (.int .i64 v)
 refine ⟨⟨?_, ?_, ?_, hC.lt, by rw [World.size_setCell]; exact hC.le⟩, Zl hst.2 ?_⟩
 · rw [heap_setCell_other w _ Bd _ (by simp; omega)]; exact hC.box
 · rw [Xn, <- Zpy out j v hj]; exact hst.1
 · exact hC.org.kept hst.2 (Zbo hC.org hC.out (by decide))
 · intro k' _ e; injection e with e; subst e; exact Or.inr (Or.inl rfl)
theorem Yme (E Bd bj j : Nat) (vt vf : Value) (nm : ByteArray) (ar : Int) (vl vp vout vorg vlo vk : Value) (out : List (Int × Int)) (org : List Int) (w : World) (hj : j < out.length) (ho : out.length <= 1000000000000)
 (hC : Yc w E Bd vt vf nm ar vl vp vout vorg vlo vk out org) (hc : w.cell? ⟨bj, 0, none⟩ = some (.int .i64 j)) :
 Calls Try.prog 97 #[.pointer (some ⟨Bd, 0, none⟩), .slice (some ⟨bj, 0, none⟩) 1 1] w fun e w' => (∃ v, e = .returned v) /\ Sp (Yj Bd vout vorg) w w' /\ Yc w' E Bd vt vf nm ar vl vp vout vorg vlo vk (Zsy out j out.length) org := by
 obtain ⟨m, hm⟩ : ∃ m, out.length = m + 1 := ⟨out.length - 1, by omega⟩
 obtain ⟨g, k, rfl⟩ := Yk (n := m) (by rw [<- hm]; exact hC.out)
 have hlast := Zvo (w := w) hC hm.symm j hj out.length
 have CC := Hq hC
 have c6 : w.cell? ⟨Bd, 6, none⟩ = some (.slice (some ⟨g, 0, none⟩) (m + 1) k) := Yo hC 6
 have hBd : Bd < w.heap.size := Nat.lt_of_lt_of_le hC.lt hC.le
 have hbj := World.block_lt_of_cell? _ _ hc
 have hg := (hC.out.lt g rfl).2
 have hown := hC.out
 rw [hm] at hown
 have hcell : ∃ x, w.cell? ⟨g, j * 2 + 1, none⟩ = some x := by
  have := hown.cellAt (j * 2 + 1) (by omega)
  rw [this]
  exact ⟨_, List.getElem?_eq_getElem (by rw [Zld]; omega)⟩
 obtain ⟨x, hx⟩ := hcell
 have hz : w.frozen? ⟨g, j * 2 + 1, none⟩ = false := hown.frozenAt _
 rw [hm] at hlast
 have HL := Hq hlast
 have hji : (j : Int) < ((m + 1 : Nat) : Int) := by omega
 clear hC hown hlast
 go_enter Try.func97, Try.ntmps97
 go_wp2
 go_loopw [8] (fun i wr => (i = .int .i64 0 /\ wr = w) \/ (i = .int .i64 1 /\ Sp (Yj Bd (.slice (some ⟨g, 0, none⟩) (m + 1) k) vorg) w wr /\ Yc wr E Bd vt vf nm ar vl vp (.slice (some ⟨g, 0, none⟩) (m + 1) k) vorg vlo vk (Zsy out j ((m + 1 : Nat) : Int)) org)) (fun i _ => 1 - (intOf i).toNat)
 case atStart => exact Or.inl ⟨rfl, rfl⟩
 case round =>
  rcases hrel with ⟨rfl, rfl⟩ | ⟨rfl, hs, hc2⟩
  · go_wp2
    go_region
    go_wp2
    refine ⟨Or.inr ⟨by go_num, ?_, ?_⟩, by simp [intOf]⟩
    · exact Zr HL.out.2 (Zl (P := Yj Bd (.slice (some ⟨g, 0, none⟩) (m + 1) k) vorg) (Zf (Ze _ none)) (by simp)) (fun _ _ h => h)
    · exact Zaa HL.out.1 (Zf (Ze _ none))
  · rw [<- hm] at hc2
    have HS := Hq hs
    have HC2 := Hq hc2
    clear hs hc2
    go_wp2
    refine bodyPost_end0 rfl rfl ?_
    rw [hm]
    rw [hm] at HC2
    exact ⟨⟨_, rfl⟩, HS.out, HC2.out⟩
end Go.Proofs.Ytecaolkbllbokaa.TG
