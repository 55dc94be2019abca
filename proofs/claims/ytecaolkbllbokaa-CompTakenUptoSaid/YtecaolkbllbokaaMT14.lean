import Derived.Test.YtecaolkbllbokaaMT13
import Derived.Test.YtecaolkbllbokaaMT08
import Derived.Test.YtecaolkbllbokaaMT04
import Derived.Maps.AppendAt
import Derived.Laws.OwnMore
import Derived.Laws.ResultCell
import Derived.Lib.Hide
import Derived.Test.YtecaolkbllbokaaMT11
import Derived.Test.YtecaolkbllbokaaMT00
import Derived.Deep.QuietTactic
import Derived.BigQuiet
import Derived.Test.YtecaolkbllbokaaMT09
import Derived.Deep.RegionHeld3
import Derived.StillTailTactics
import Derived.Test.YtecaolkbllbokaaMT10
set_option linter.unusedSimpArgs false
set_option linter.unusedVariables false
set_option maxRecDepth 100000
set_option maxHeartbeats 16000000
namespace Go.Proofs.Ytecaolkbllbokaa.TG
open Go.RowKit Go.Great
theorem Yja {w w2 w' : World} {u : Un} {vd vF v : Value} {rows : List (Value × Value)} (h : Ykk w2 w' u vd vF v rows) (g : w.grownBy w2 none) : Ykk w w' u vd vF v rows := by
 have hz := g.size
 refine ⟨h.len, Za g h.gr, Yr h.dt hz, Yr h.fr hz, Yr h.or hz, fun i vo vg f hi hf => ?_, h.ord⟩
 obtain ⟨e1, e2⟩ := h.each i vo vg f hi hf
 exact ⟨Yr e1 hz, Yr e2 hz⟩
theorem Ypc {w w1 : World} {u : Un} {vd vF v : Value} {rows : List (Value × Value)} {o o' : Obj} {a b c : Value} (h : Ykk w w1 u vd vF v rows) (hR : w1.heap[w.heap.size + 1]? = some (.cells #[.int .i64 0, .slice none 0 0, .slice none 0 0] 32 (0, 0))) :
 Ykk w ((((w1.setCell ⟨w.heap.size + 1, 0, none⟩ a).setCell ⟨w.heap.size + 1, 1, none⟩ b).setCell ⟨w.heap.size + 1, 2, none⟩ c).alloc o) u vd vF v rows := by
 have hT : w1.grownBy ((((w1.setCell ⟨w.heap.size + 1, 0, none⟩ a).setCell ⟨w.heap.size + 1, 1, none⟩ b).setCell ⟨w.heap.size + 1, 2, none⟩ c).alloc o) (some (w.heap.size + 1)) := Za (Za (Za (Zd w1 _ 0 _) (Zd _ _ 1 _)) (Zd _ _ 2 _)) (Ga _ _ _)
 refine Zvl (P := fun k => k = w.heap.size + 1) h (Zl hT fun k _ e => by injection e with e; exact e.symm) (fun k e => by omega) ?_
 intro e size n x xs ho he k hk hk2
 refine Yh ho hR ?_ (by rw [hk, hk2])
 rcases he with rfl | rfl | rfl | rfl | rfl <;> decide
theorem Zly (w : World) (o o' : Obj) : w.grownBy ((w.alloc o).alloc o') none := Za (Ga w o none) (Ga _ o' none)
theorem Ybg (u : Un) (mem : Int) (pt pf : Option Addr) (ct cf B : Nat) (w : World) (hU : Zab w B pt pf u) (hO : Yzj w pt ct u) :
 Calls Try.prog 11 #[.agg #[.slice pt u.texts.length ct, .slice pf u.funcs.length cf], .int .i64 mem] w (Zjt w u mem) := by
 have CO := Hq (fun o o' => Zyg u mem pt pf ct cf B ((w.alloc o).alloc o') (Yl hU (Zly w o o') (by simp)) (Zmr hO hU (Zly w o o')))
 by_cases h0 : Jm u mem = 0
 · have H0 := Hq h0
   clear hU hO h0
   go_enter Try.func11, Try.ntmps11
   go_wp2_with (go_at_call 27; refine (CO.out _ _).mono ?_; intro e w1 hp; unfold Zoo at hp; rw [if_pos H0.out] at hp; obtain ⟨vd, vF, v, rows, rfl, hC⟩ := hp; obtain ⟨p1, k1, hv1⟩ := Zm hC.dt; obtain ⟨p2, k2, hv2⟩ := Zm hC.fr; subst hv1; subst hv2; have hR := Zu (Zfr w _ _) hC.gr (by simp); have r0 := Cq w1 _ 0 _ _ _ hR; have r1 := Cq w1 _ 1 _ _ _ hR; have r2 := Cq w1 _ 2 _ _ _ hR; have z0 := frozen_of_row w1 _ 0 _ _ hR; have z1 := frozen_of_row w1 _ 1 _ _ hR; have z2 := frozen_of_row w1 _ 2 _ _ hR; have hlR := (Gs hR); have HC := Hq hC; have HR := Hq hR; clear hC hR)
   refine bodyPost_ret (v := .tuple #[.agg #[.int .i64 mem, .slice p1 (Zfp u).length k1, .slice p2 u.funcs.length k2], .int .i64 0]) ?_ rfl ?_
   · rw [results_cell_tmp rfl]
     go_simp
   · unfold Zjt
     rw [if_pos H0.out]
     exact ⟨_, _, v, rows, rfl, Ypc (o' := .cells #[] 0) (Yja HC.out (Zly w _ _)) HR.out⟩
 · have H0 := Hq h0
   clear hU hO h0
   go_enter Try.func11, Try.ntmps11
   go_wp2_with (go_at_call 27; refine (CO.out _ _).mono ?_; intro e w1 hp; unfold Zoo at hp; rw [if_neg H0.out] at hp; obtain ⟨rfl, hg⟩ := hp; have hR := Zu (Zfr w _ _) hg (by simp); have r0 := Cq w1 _ 0 _ _ _ hR; have r1 := Cq w1 _ 1 _ _ _ hR; have r2 := Cq w1 _ 2 _ _ _ hR; have z0 := frozen_of_row w1 _ 0 _ _ hR; have z1 := frozen_of_row w1 _ 1 _ _ hR; have z2 := frozen_of_row w1 _ 2 _ _ hR; have hlR := (Gs hR); have HG := Hq hg; clear hg hR)
   refine bodyPost_ret (v := .tuple #[.agg #[.int .i64 0, .slice none 0 0, .slice none 0 0], .int .i64 (Jm u mem)]) ?_ rfl ?_
   · rw [results_cell_tmp rfl]
     go_simp
   · unfold Zjt
     rw [if_neg H0.out]
     refine ⟨rfl, ?_⟩
     have hT : w1.grownBy ((((w1.setCell ⟨w.heap.size + 1, 0, none⟩ (.int .i64 0)).setCell ⟨w.heap.size + 1, 1, none⟩ (.slice none 0 0)).setCell ⟨w.heap.size + 1, 2, none⟩ (.slice none 0 0)).alloc (.cells #[.int .i64 0, .slice none 0 0, .slice none 0 0] 32)) (some (w.heap.size + 1)) :=
      Za (Za (Za (Zd w1 _ 0 _) (Zd _ _ 1 _)) (Zd _ _ 2 _)) (Ga _ _ _)
     exact Jc (Za (Zly w _ _) HG.out) hT (by omega)
structure Ln where
 op : Int
 a : Int
 part : Int
 j : Bool
 out : Int
 ag : Bool
def Ym (part op a : Int) : Ln := ⟨op, a, part, false, 0, false⟩
def Js (part op a : Int) : Ln := ⟨op, a, part, true, 0, false⟩
def Zcj (part op : Int) (one two : List Ln) (non : Int) : List Ln :=
 ((([] ++ one) ++ [Js part op (two.length + 6)] ++ two) ++ [Ym part 3 0, Ym part 31 0, Ym part 3 0, Ym part 31 0]) ++ [Js part 14 2, Ym part 3 non]
def Zcz (part : Int) (k one two : List Ln) (both : Bool) : List Ln :=
 bif both then (([] ++ k) ++ [Js part 15 (one.length + 2)] ++ one ++ [Js part 14 (two.length + 1)]) ++ two
 else ([] ++ k) ++ [Js part 15 (one.length + 1)] ++ one
def Zem (k b i : Nat) (x : Ln) : Ln :=
 if x.out = 1 then { x with j := true, a := bif x.ag then -(k : Int) - 1 - (i : Int) else (b : Int) + 1 - (i : Int), out := 0 }
 else if 0 < x.out then { x with out := x.out - 1 } else x
def Xq (k b : Nat) : Nat -> List Ln -> List Ln
 | _, [] => []
 | i, x :: r => Zem k b i x :: Xq k b (i + 1) r
theorem Yw (k b : Nat) : ∀ (i : Nat) (r : List Ln), (Xq k b i r).length = r.length
 | i, [] => rfl
 | i, x :: r => by simp [Xq, Yw k b (i + 1) r]
def Zlm (part : Int) (k block : List Ln) : List Ln :=
 (([] ++ k) ++ [Js part 15 (block.length + 2)] ++ Xq k.length block.length 0 block) ++ [Js part 14 (-(k.length : Int) - 1 - (block.length : Int))]
def Yxc (ts : List (ByteArray × List Int)) (me k n : Int) : List Ln := (Zwh ts k n).map fun x => Ym me x.1 x.2
def Zlb (L : Nat -> List Ln) (S : Nat -> Nat) : Nat -> Nat -> List Ln
 | 0, _ => []
 | n + 1, a => L a ++ Zlb L S n (S a)
def Jr (ts : List (ByteArray × List Int)) (ps : List (Int × Int × Int)) : Nat -> Nat -> List Ln
 | 0, _ => []
 | g + 1, a =>
   match ps[a]? with
   | none => []
   | some (k, n, kc) =>
     if k = 5 then (if kc = 3 then Zcz a (Jr ts ps g (a + 1)) (Jr ts ps g (Xc ps g (a + 1))) (Jr ts ps g (Xc ps g (Xc ps g (a + 1)))) true else Zcz a (Jr ts ps g (a + 1)) (Jr ts ps g (Xc ps g (a + 1))) [] false)
     else if k = 6 then Zlm a (Jr ts ps g (a + 1)) (Jr ts ps g (Xc ps g (a + 1)))
     else if k = 7 \/ k = 8 then [⟨14, 0, a, false, n + 1, decide (k = 8)⟩]
     else if k = 23 then Zcj a 15 (Jr ts ps g (a + 1)) (Jr ts ps g (Xc ps g (a + 1))) 0
     else if k = 24 then Zcj a 16 (Jr ts ps g (a + 1)) (Jr ts ps g (Xc ps g (a + 1))) 1
     else Zlb (Jr ts ps g) (Xc ps g) kc.toNat (a + 1) ++ Yxc ts a k n
def Zmj (m : Nat) (R : List Ln) : Prop := ∀ x ∈ R, 0 <= x.out /\ x.out <= (m : Int)
theorem Zfk (m : Nat) : Zmj m [] := fun x h => by cases h
theorem Xb {m : Nat} {a b : List Ln} (h : Zmj m a) (h2 : Zmj m b) : Zmj m (a ++ b) := fun x hx => by
 rcases List.mem_append.1 hx with hx | hx
 · exact h x hx
 · exact h2 x hx
theorem Zhr {m : Nat} {x : Ln} (h : x.out = 0) : Zmj m [x] := fun y hy => by
 simp at hy; subst hy; omega
theorem Zqz {m : Nat} (me : Int) (l : List (Int × Int)) : Zmj m (l.map fun x => Ym me x.1 x.2) := fun y hy => by
 obtain ⟨x, _, rfl⟩ := List.mem_map.1 hy
 simp [Ym]
theorem Ztu {m : Nat} (k b : Nat) : ∀ (i : Nat) (R : List Ln), Zmj (m + 1) R -> Zmj m (Xq k b i R)
 | i, [], _ => Zfk m
 | i, x :: r, h => fun y hy => by
   rw [Xq] at hy
   rcases List.mem_cons.1 hy with rfl | hy
   · have := h x (List.mem_cons_self ..)
     unfold Zem
     by_cases h1 : x.out = 1
     · rw [if_pos h1]; simp
     · rw [if_neg h1]
       by_cases h2 : 0 < x.out
       · rw [if_pos h2]; simp only []; omega
       · rw [if_neg h2]; omega
   · exact Ztu k b (i + 1) r (fun z hz => h z (List.mem_cons_of_mem _ hz)) y hy
theorem Zmz {m : Nat} {me : Int} {k one two : List Ln} {b : Bool} (hk : Zmj m k) (h1 : Zmj m one) (h2 : Zmj m two) : Zmj m (Zcz me k one two b) := by
 unfold Zcz
 cases b
 · exact Xb (Xb (Xb (Zfk m) hk) (Zhr rfl)) h1
 · exact Xb (Xb (Xb (Xb (Xb (Zfk m) hk) (Zhr rfl)) h1) (Zhr rfl)) h2
theorem Ygo {m : Nat} {me : Int} {k one : List Ln} (hk : Zmj m k) (h1 : Zmj (m + 1) one) : Zmj m (Zlm me k one) :=
 Xb (Xb (Xb (Xb (Zfk m) hk) (Zhr rfl)) (Ztu _ _ _ _ h1)) (Zhr rfl)
theorem Zkv {m : Nat} {me op non : Int} {k one : List Ln} (hk : Zmj m k) (h1 : Zmj m one) : Zmj m (Zcj me op k one non) := by
 unfold Zcj
 refine Xb (Xb (Xb (Xb (Xb (Zfk m) hk) (Zhr rfl)) h1) ?_) ?_
 · exact Zqz me [(3, 0), (31, 0), (3, 0), (31, 0)]
 · intro x hx
   simp at hx
   rcases hx with rfl | rfl <;> simp [Js, Ym]
end Go.Proofs.Ytecaolkbllbokaa.TG
