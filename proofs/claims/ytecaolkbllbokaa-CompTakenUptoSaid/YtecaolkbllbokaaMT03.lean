import Derived.Test.YtecaolkbllbokaaMT02
import Derived.Laws.OwnMore
import Derived.OwnWalk
set_option linter.unusedSimpArgs false
set_option linter.unusedVariables false
set_option maxRecDepth 100000
set_option maxHeartbeats 16000000
namespace Go.Proofs.Ytecaolkbllbokaa.TG
open Go.RowKit Go.Great
theorem Zf {w w' : World} {row : Option Nat} (h : w.grownBy w' row) : w.grownBy w'.drew row := ⟨h.os, h.tape, h.output, h.size, h.block⟩
theorem Xh (w : World) (n : Nat) (row : Option Nat) : w.grownBy (w.drewN n) row := ⟨rfl, rfl, rfl, by simp, fun k hk _ => by simp⟩
theorem Xj {w w' : World} {row : Option Nat} (h : w.grownBy w' row) (n : Nat) : w.grownBy (w'.drewN n) row := Za h (Xh w' n row)
theorem Zd (w : World) (b o : Nat) (v : Value) : w.grownBy (w.setCell ⟨b, o, none⟩ v) (some b) := ⟨rfl, rfl, rfl, by simp, fun k hk hr => heap_setCell_other w _ k v (by intro e; exact hr (by rw [e]))⟩
theorem Jh {w w' : World} {r : Option Nat} (h : w.grownBy w' none) : w.grownBy w' r := ⟨h.os, h.tape, h.output, h.size, fun k hk _ => h.block k hk (by simp)⟩
theorem Zga {w : World} {base : Nat} {e : TypeId} {size n : Nat} {v : Value} {xs : List Value} {b : Nat} (h : w.ownsRow base e size v n xs) (hb : b < base) : v.ownBlock = none \/ v.ownBlock ≠ some b := by
 cases hv : v.ownBlock with
 | none => left; rfl
 | some k => right; have := (h.lt k hv).1; intro e; injection e with e; omega
theorem Zao (w : World) (x : Value) (t : TypeId) : ∀ j u, [x][j]? = some u -> (w.alloc (.cells #[x] t)).cell? ((⟨w.heap.size, 0, none⟩ : Addr).add j) = some u := by
 intro j u hj
 match j, hj with
 | 0, hj => simp at hj; subst hj; simp [Addr.add]
theorem Zrb (w : World) (b o : Nat) (u0 x : Value) (t : TypeId) : ∀ j u, [x][j]? = some u -> ((w.setCell ⟨b, o, none⟩ u0).alloc (.cells #[x] t)).cell? ((⟨w.heap.size, 0, none⟩ : Addr).add j) = some u := by
 have h := Zao (w.setCell ⟨b, o, none⟩ u0) x t
 rw [World.size_setCell] at h
 exact h
theorem Zae (k : IntKind) (x : Int) : ∀ u ∈ [Value.int k x], u.oneCell' = true := by intro u hu; simp at hu; subst hu; rfl
theorem Zth {w : World} {B : Nat} (h : B < w.heap.size) (o : Obj) : B + 1 <= (w.alloc o).heap.size := by simp; omega
theorem Zan {w : World} {base : Nat} {e : TypeId} {size n : Nat} {v : Value} {xs : List Value} {b : Nat} (h : w.ownsRow base e size v n xs) (hb : b < base) : v.ownBlock ≠ some b := by
 rcases Zga h hb with h1 | h1
 · rw [h1]; simp
 · exact h1
theorem Zbb {w w1 w2 : World} {r : Option Nat} {base : Nat} {e : TypeId} {size n : Nat} {v : Value} {xs : List Value} {wr : World} (h : w.grownBy w1 r) (g : w1.grownBy w2 v.ownBlock) (ho : wr.ownsRow base e size v n xs) (hb : w.heap.size <= base) : w.grownBy w2 r :=
 ⟨g.os.trans h.os, g.tape.trans h.tape, g.output.trans h.output, Nat.le_trans h.size g.size, fun k hk hr => (g.block k (Nat.lt_of_lt_of_le hk h.size) (by intro e; have := (ho.lt k e.symm).1; omega)).trans (h.block k hk hr)⟩
def Zju (tc : TypeId) (w : World) (Bc bf of : Nat) (vt vf : Value) (s : St) : Prop :=
 w.heap[Bc]? = some (.cells #[vt, vf, .pointer (some ⟨bf, of, none⟩), .int .i64 s.a, .int .i64 s.l, .int .i64 s.m] tc (0, 0))
theorem Zbs {tc : TypeId} {w w' : World} {Bc bf of : Nat} {vt vf : Value} {s : St} {row : Option Nat} (h : Zju tc w Bc bf of vt vf s) (g : w.grownBy w' row) (hr : row ≠ some Bc) : Zju tc w' Bc bf of vt vf s := by
 unfold Zju at *
 rw [g.block Bc ?_ (by intro e; exact hr e.symm)]
 · exact h
 · exact (Gs h)
theorem Yjn {tc : TypeId} {w : World} {Bc bf of : Nat} {vt vf : Value} {s : St} (h : Zju tc w Bc bf of vt vf s) : Bc < w.heap.size := (Gs h)
theorem Zdc {tc : TypeId} {w : World} {Bc bf of : Nat} {vt vf : Value} {s : St} (h : Zju tc w Bc bf of vt vf s) (j : Nat) : w.cell? ⟨Bc, j, none⟩ = (#[vt, vf, .pointer (some ⟨bf, of, none⟩), .int .i64 s.a, .int .i64 s.l, .int .i64 s.m] : Array Value)[j]? :=
 Cq w Bc j _ _ _ h
theorem Zdi {tc : TypeId} {w : World} {Bc bf of : Nat} {vt vf : Value} {s : St} (h : Zju tc w Bc bf of vt vf s) (j : Nat) : w.frozen? ⟨Bc, j, none⟩ = false := frozen_of_row w Bc j _ _ h
theorem Zsn {tc : TypeId} {w : World} {Bc bf of : Nat} {vt vf : Value} {s : St} (h : Zju tc w Bc bf of vt vf s) :
 (∀ x : Int, ∀ a : Nat, x = (a : Int) -> Zju tc (w.setCell ⟨Bc, 3, none⟩ (.int .i64 x)) Bc bf of vt vf ⟨a, s.l, s.m⟩) /\ (∀ x : Int, Zju tc (w.setCell ⟨Bc, 4, none⟩ (.int .i64 x)) Bc bf of vt vf ⟨s.a, x, s.m⟩) /\
   (∀ x : Int, Zju tc (w.setCell ⟨Bc, 5, none⟩ (.int .i64 x)) Bc bf of vt vf ⟨s.a, s.l, x⟩) := by
 refine ⟨fun x a e => ?_, fun x => ?_, fun x => ?_⟩
 · subst e
   unfold Zju at *
   rw [heap_setCell_same w Bc _ _ _ _ h]; rfl
 · unfold Zju at *
   rw [heap_setCell_same w Bc _ _ _ _ h]; rfl
 · unfold Zju at *
   rw [heap_setCell_same w Bc _ _ _ _ h]; rfl
theorem Xbz {tc : TypeId} {w : World} {Bc bf of : Nat} {vt vf : Value} {s : St} (h : Zju tc w Bc bf of vt vf s) : w.cell? ⟨Bc, 3, none⟩ = some (.int .i64 s.a) := Zdc h 3
theorem Yvh {tc : TypeId} {w : World} {Bc bf of : Nat} {vt vf : Value} {s : St} (h : Zju tc w Bc bf of vt vf s) : w.cell? ⟨Bc, 4, none⟩ = some (.int .i64 s.l) := Zdc h 4
theorem Yzf {tc : TypeId} {w : World} {Bc bf of : Nat} {vt vf : Value} {s : St} (h : Zju tc w Bc bf of vt vf s) : w.cell? ⟨Bc, 5, none⟩ = some (.int .i64 s.m) := Zdc h 5
def Zie (w : World) (B : Nat) (k n kc : Int) : Prop := w.heap[B]? = some (.cells #[.int .i64 k, .int .i64 n, .int .i64 kc] 108 (0, 0))
theorem Xt {w w' : World} {B : Nat} {k n kc : Int} {row : Option Nat} (h : Zie w B k n kc) (g : w.grownBy w' row) (hr : row ≠ some B) : Zie w' B k n kc := by
 unfold Zie at *
 rw [g.block B ?_ (by intro e; exact hr e.symm)]
 · exact h
 · exact (Gs h)
theorem Zod {w : World} {B : Nat} {k n kc : Int} (h : Zie w B k n kc) : B < w.heap.size := (Gs h)
theorem Zoe {w : World} {B : Nat} {k n kc : Int} (h : Zie w B k n kc) (j : Nat) : w.cell? ⟨B, j, none⟩ = (#[.int .i64 k, .int .i64 n, .int .i64 kc] : Array Value)[j]? := Cq w B j _ _ _ h
theorem Zof {w : World} {B : Nat} {k n kc : Int} (h : Zie w B k n kc) : w.cell? ⟨B, 0, none⟩ = some (.int .i64 k) := Zoe h 0
theorem Yqx {w : World} {B : Nat} {k n kc : Int} (h : Zie w B k n kc) : w.cell? ⟨B, 1, none⟩ = some (.int .i64 n) := Zoe h 1
theorem Zqd {w : World} {B : Nat} {k n kc : Int} (h : Zie w B k n kc) : w.cell? ⟨B, 2, none⟩ = some (.int .i64 kc) := Zoe h 2
theorem Zmc (w : World) (k n kc : Int) : Zie (w.alloc (.cells #[.int .i64 k, .int .i64 n, .int .i64 kc] 108)) w.heap.size k n kc := heap_alloc_new w _
theorem Ydh (w0 : World) (k n kc : Int) : Zie ((w0.alloc (.cells #[.int .i64 k, .int .i64 n, .int .i64 kc] 108)).drew) w0.heap.size k n kc := Zmc w0 k n kc
def Xch (w : World) (Bc : Nat) (pf : Option Addr) (fs : List Int) : Prop := 0 < fs.length -> ∃ bF oF : Nat, pf = some ⟨bF, oF, none⟩ /\ bF < Bc /\ ∀ i, i < fs.length -> w.cell? ⟨bF, oF + i * 4 + 1, none⟩ = some (.int .i64 (fs.getD i 0))
def Zcw (w : World) (Bc : Nat) (pp : Option Addr) (ps : List (Int × Int × Int)) : Prop := 0 < ps.length -> ∃ bp op : Nat, pp = some ⟨bp, op, none⟩ /\ bp < Bc /\ ∀ j k n kc, ps[j]? = some (k, n, kc) ->
 w.cell? ⟨bp, op + j * 3, none⟩ = some (.int .i64 k) /\ w.cell? ⟨bp, op + j * 3 + 1, none⟩ = some (.int .i64 n) /\ w.cell? ⟨bp, op + j * 3 + 2, none⟩ = some (.int .i64 kc)
structure Env (w : World) (Bc bf of : Nat) (vl : Value) (pp : Option Addr) (cp : Nat) (ps : List (Int × Int × Int)) (pf : Option Addr) (fs : List Int) : Prop where
 lt : Bc < w.heap.size
 ltf : bf < Bc
 f2 : w.cell? ⟨bf, of + 2, none⟩ = some vl
 f3 : w.cell? ⟨bf, of + 3, none⟩ = some (.slice pp ps.length cp)
 pa : Zcw w Bc pp ps
 fu : Xch w Bc pf fs
theorem Zaf {w w' : World} {Bc bf of cp : Nat} {vl : Value} {pp pf : Option Addr} {ps : List (Int × Int × Int)} {fs : List Int} (h : Env w Bc bf of vl pp cp ps pf fs) (g : w.grownBy w' (some Bc)) : Env w' Bc bf of vl pp cp ps pf fs := by
 have hb := h.ltf
 refine ⟨Nat.lt_of_lt_of_le h.lt g.size, h.ltf, g.cell h.f2 (by simp; omega), g.cell h.f3 (by simp; omega), fun h0 => ?_, fun h0 => ?_⟩
 · obtain ⟨bp, op, e, hp, hc⟩ := h.pa h0
   refine ⟨bp, op, e, hp, fun j k n kc hj => ?_⟩
   obtain ⟨h1, h2, h3⟩ := hc j k n kc hj
   exact ⟨g.cell h1 (by simp; omega), g.cell h2 (by simp; omega), g.cell h3 (by simp; omega)⟩
 · obtain ⟨bp, op, e, hp, hc⟩ := h.fu h0
   exact ⟨bp, op, e, hp, fun i hi => g.cell (hc i hi) (by simp; omega)⟩
theorem Zdt {tc : TypeId} {w : World} {Bc bf of cp : Nat} {vt vf vl : Value} {pp pf : Option Addr} {ps : List (Int × Int × Int)} {fs : List Int} {s : St} (h : Env w Bc bf of vl pp cp ps pf fs) (b : Zju tc w Bc bf of vt vf s) :
 Chk w Bc bf of vt vf vl (.slice pp ps.length cp) s.a s.l s.m :=
 ⟨h.lt, Nat.lt_trans h.ltf h.lt, Nat.ne_of_lt h.ltf, Zdc b 0, Zdc b 1, Zdc b 2, Zdc b 3, Zdc b 4, Zdc b 5, h.f2, h.f3⟩
theorem Zsi {w : World} {Bc bf of cp : Nat} {vl : Value} {pp pf : Option Addr} {ps : List (Int × Int × Int)} {fs : List Int} (h : Env w Bc bf of vl pp cp ps pf fs) : Yzt w pf fs := fun h0 => by
 obtain ⟨bF, oF, e, hb, hc⟩ := h.fu h0
 exact ⟨bF, oF, e, Nat.lt_trans hb h.lt, hc⟩
def Zst (tc : TypeId) (w : World) (Bc bf of : Nat) (vt vf : Value) (q : Int × Int × St) (e : Ending) (w' : World) : Prop :=
 e = .returned (.tuple #[.int .i64 q.1, .int .i64 q.2.1]) /\ w.grownBy w' (some Bc) /\ (q.2.1 = 0 -> Zju tc w' Bc bf of vt vf q.2.2)
theorem Yoa {w : World} {base cap : Nat} {e : TypeId} {v : Value} {ws : List Int} (h : w.ownsRow base e 1 v ws.length (ws.map (Value.int .i64))) : Yzr w v ws := by
 rcases h with ⟨hl, ⟨rfl, h0⟩ | ⟨g, cap, cur, rfl, hb, hg, hn, hc, hs, ht⟩⟩
 · exact ⟨none, 0, by rw [h0], fun h => by omega⟩
 · refine ⟨_, cap, rfl, fun h => ⟨g, 0, rfl, (Gs hg), fun i hi => ?_⟩⟩
   rw [Nat.zero_add, Cq w g i _ _ _ hg]
   have e1 : (cur.toList.take (ws.length * 1))[i]? = (ws.map (Value.int .i64))[i]? := by rw [ht]
   rw [Nat.mul_one, List.getElem?_take_of_lt hi, Array.getElem?_toList] at e1
   rw [e1, List.getElem?_map, List.getElem?_eq_getElem hi]
   simp [List.getD, List.getElem?_eq_getElem hi]
theorem Yhz {w w' : World} {v : Value} {ws : List Int} (h : Yzr w v ws) (g : w.grownBy w' none) : Yzr w' v ws := by
 obtain ⟨p, cap, e, hc⟩ := h
 refine ⟨p, cap, e, fun h0 => ?_⟩
 obtain ⟨b, off, e2, hb, hc2⟩ := hc h0
 exact ⟨b, off, e2, Nat.lt_of_lt_of_le hb g.size, fun i hi => g.cell (hc2 i hi) (by simp)⟩
structure Yzo (tc : TypeId) (w wr : World) (Bc bf of B : Nat) (vt vf : Value) (k n kc : Int) (P : Int -> St -> Int × Int × St) (np g : Nat) (s0 : St) (l0 : Int) (q : Nat) (v : Value) (t : St) (ws : List Int) : Prop where
 own : wr.ownsRow (B + 1) 3 1 v ws.length (ws.map (Value.int .i64))
 box : Zju tc wr Bc bf of vt vf t
 copy : Zie wr B k n kc
 gr : w.grownBy wr (some Bc)
 eq : Zbd P k kc.toNat 0 s0 [] = Zbd P k (kc.toNat - q) q t ws
 a : t.a <= np
 len : ws.length + 1 <= t.a
 lenq : ws.length = q
 l : t.l = l0
 m0 : 0 <= t.m
 m1 : t.m <= 10000000000000000
 w : ∀ j, j < ws.length -> 0 <= ws.getD j 0 /\ ws.getD j 0 <= ((g : Int) + 1) * 70368744177664
 q : q <= kc.toNat
theorem Zzj (k : Int) (q : Nat) (t : St) : (Zv k q t).a = t.a := by unfold Zv; split <;> rfl
theorem Zzi (k : Int) (q : Nat) (t : St) : (Zv k q t).m = t.m := by unfold Zv; split <;> rfl
theorem Yfn (k : Int) (q : Nat) (t : St) : (Yd k q t).a = t.a := by unfold Yd; split <;> rfl
theorem Yfm (k : Int) (q : Nat) (t : St) : (Yd k q t).m = t.m := by unfold Yd; split <;> rfl
theorem Ylc (k : Int) (q : Nat) (t : St) : t.l <= (Zv k q t).l /\ (Zv k q t).l <= t.l + 1 := by unfold Zv; split <;> (constructor <;> (try simp only []) <;> omega)
theorem Ywp (k : Int) (q : Nat) (t u : St) (h : u.l = (Zv k q t).l) : (Yd k q u).l = t.l := by
 by_cases c : k = 6 /\ q = 1
 · have e1 : (Zv k q t).l = t.l + 1 := by unfold Zv; rw [if_pos c]
   have e2 : (Yd k q u).l = u.l - 1 := by unfold Yd; rw [if_pos c]
   omega
 · have e1 : (Zv k q t).l = t.l := by unfold Zv; rw [if_neg c]
   have e2 : (Yd k q u).l = u.l := by unfold Yd; rw [if_neg c]
   omega
theorem Zul {tc : TypeId} {w wr w4 : World} {Bc bf of B : Nat} {vt vf : Value} {k n kc : Int} {P : Int -> St -> Int × Int × St} {np g : Nat} {s0 : St} {l0 : Int} {q : Nat} {v v' : Value} {t us : St} {ws : List Int} {uw : Int}
 (h : Yzo tc w wr Bc bf of B vt vf k n kc P np g s0 l0 q v t ws) (hlt : (q : Int) < kc) (hu : P (Zdr k q) (Zv k q t) = (uw, 0, us)) (pg : Yvm np g (Zv k q t) (uw, 0, us)) (hg : g <= 64)
 (own : w4.ownsRow (B + 1) 3 1 v' (ws.length + 1) (ws.map (Value.int .i64) ++ [.int .i64 uw])) (box : Zju tc w4 Bc bf of vt vf (Yd k q us)) (copy : Zie w4 B k n kc) (gr : w.grownBy w4 (some Bc)) :
 Yzo tc w w4 Bc bf of B vt vf k n kc P np g s0 l0 (q + 1) v' (Yd k q us) (ws ++ [uw]) := by
 obtain ⟨a1, a2, l, w0, w1, m, m1⟩ := pg
 have i1 := Zzj k q t
 have i2 := Zzi k q t
 have o1 := Yfn k q us
 have o2 := Yfm k q us
 have hl := h.len
 have hm0 := h.m0
 have hm1 := h.m1
 simp only [] at a1 a2 l w0 w1 m m1
 refine ⟨?_, box, copy, gr, ?_, by omega, ?_, by rw [List.length_append, List.length_singleton, h.lenq], by rw [Ywp k q t us l]; exact h.l, by omega, by omega, Zpd ws uw _ h.w ⟨w0, w1⟩, by have := h.q; omega⟩
 · rw [List.length_append, List.length_singleton, List.map_append]; exact own
 · rw [h.eq]
   have e : kc.toNat - q = (kc.toNat - (q + 1)) + 1 := by omega
   rw [e, Zdg P k _ q t ws (by rw [hu])]
   rw [hu]
 · rw [List.length_append, List.length_singleton]; omega
theorem Zlu {tc : TypeId} {w wr : World} {Bc bf of B : Nat} {vt vf : Value} {k n kc : Int} {P : Int -> St -> Int × Int × St} {np g : Nat} {s0 : St} {l0 : Int} {q : Nat} {v : Value} {t : St} {ws : List Int} {u : Int × Int × St}
 (h : Yzo tc w wr Bc bf of B vt vf k n kc P np g s0 l0 q v t ws) (hlt : (q : Int) < kc) (hu : P (Zdr k q) (Zv k q t) = u) (he : u.2.1 ≠ 0) : (Zbd P k kc.toNat 0 s0 []).2.1 = u.2.1 := by
 rw [h.eq]
 have e : kc.toNat - q = (kc.toNat - (q + 1)) + 1 := by omega
 rw [e, Zew P k _ q t ws (by rw [hu]; exact he)]
 rw [hu]
theorem Ymm {tc : TypeId} {w wr : World} {Bc bf of B : Nat} {vt vf : Value} {k n kc : Int} {P : Int -> St -> Int × Int × St} {np g : Nat} {s0 : St} {l0 : Int} {q : Nat} {v : Value} {t : St} {ws : List Int}
 (h : Yzo tc w wr Bc bf of B vt vf k n kc P np g s0 l0 q v t ws) (hlt : ¬ (q : Int) < kc) : Zbd P k kc.toNat 0 s0 [] = (ws, 0, t) := by
 rw [h.eq]
 have e : kc.toNat - q = 0 := by omega
 rw [e, Zhu]
theorem Zcd : Try.prog.underlying 47 = some (.slice 3) := by kernel_rfl
theorem Zaz : (Try.prog.info? 3).map (fun i => (i.zero, i.size, i.bytes)) = some (some (.int .i64 0), 1, 8) := by kernel_rfl
theorem Zzu (deep : Int) (tc : TypeId) (what : Int) (Bc bf of cp cf nl cl nt ct : Nat) (pt pf pl pp : Option Addr) (fs : List Int) (hfs : fs.length <= 1000000) (ps : List (Int × Int × Int)) (hnp : ps.length <= 17592186044415) (s : St) (k n kc : Int) (hp : ps[s.a]? = some (k, n, kc)) (he : Xu nl nt fs s.l k n kc what ≠ 0) (w : World)
 (hE : Env w Bc bf of (.slice pl nl cl) pp cp ps pf fs) (hB : Zju tc w Bc bf of (.slice pt nt ct) (.slice pf fs.length cf) s) :
 Calls Try.prog 54 #[.pointer (some ⟨Bc, 0, none⟩), .int .i64 what, .int .i64 deep] w fun e w' => e = .returned (.tuple #[.int .i64 0, .int .i64 (Xu nl nt fs s.l k n kc what)]) /\ w.grownBy w' none := by
 have hja : s.a < ps.length := (List.getElem?_eq_some_iff.1 hp).1
 obtain ⟨bp, op, rfl, hpB, hpc⟩ := hE.pa (by omega)
 obtain ⟨p0, p1, p2⟩ := hpc _ _ _ _ hp
 have hbp : bp < w.heap.size := Nat.lt_trans hpB hE.lt
 have A := Hq (fun w1 (g : w.grownBy w1 none) => Zok k n kc what Bc bf of nl cl nt ct cf pt pf pl fs hfs _ _ _ _ w1 (Zhx (Zdt hE hB) g) (Zjl (Zsi hE) g))
 have EE := Hq hE
 have BB := Hq hB
 obtain ⟨hlt, hltf, hne, c0, c1, c2, c3, c4, c5, f2, f3⟩ := Zdt hE hB
 clear hE hB hpc hp
 have hji : (s.a : Int) < (ps.length : Int) := by omega
 generalize hea : Xu nl nt fs s.l k n kc what = e0 at *
 go_enter Try.func54, Try.ntmps54
 go_wp2
 go_quiet (fail)
 go_wp2
 have hs : w.heap.size = (w.drewN nq).heap.size := by simp
 have g0 : w.grownBy (w.drewN nq) none := ⟨rfl, rfl, rfl, by simp, fun k hk _ => by simp⟩
 have GG := Hq g0
 replace c0 := g0.cell c0 (by simp)
 replace c1 := g0.cell c1 (by simp)
 replace c2 := g0.cell c2 (by simp)
 replace c3 := g0.cell c3 (by simp)
 replace f3 := g0.cell f3 (by simp)
 replace p0 := g0.cell p0 (by simp)
 replace p1 := g0.cell p1 (by simp)
 replace p2 := g0.cell p2 (by simp)
 have hlt' : Bc < (w.drewN nq).heap.size := by rw [<- hs]; exact hlt
 have hltf' : bf < (w.drewN nq).heap.size := by rw [<- hs]; exact hltf
 have hbp' : bp < (w.drewN nq).heap.size := by rw [<- hs]; exact hbp
 have HS := Hq hs
 clear hs g0
 generalize w.drewN nq = w0 at *
 clear c4 c5 f2
 go_region
 have g1 : w.grownBy ((w0.alloc (.cells #[.int .i64 k, .int .i64 n, .int .i64 kc] 108)).drew) none := Za GG.out (Zf (Ga w0 _ none))
 have G1 := Hq g1
 clear g1
 have b0 : (e0 != 0) = true := by simpa using he
 clear he
 go_wp2_with (go_at_call 85; refine (A.out _ G1.out).mono ?_; rintro e w1 ⟨rfl, hg⟩; have HG := Hq hg; clear hg)
 refine bodyPost_ret (v := .tuple #[.int .i64 0, .int .i64 e0]) ?_ rfl ⟨rfl, ?_⟩
 · rw [results_tmp2 rfl]
   go_simp
 · exact Za G1.out HG.out
theorem Ygl (deep : Int) (hd : 64 < deep) (tc : TypeId) (what : Int) (Bc bf of cp cf nl cl nt ct : Nat) (pt pf pl pp : Option Addr) (fs : List Int) (hfs : fs.length <= 1000000) (ps : List (Int × Int × Int)) (hnp : ps.length <= 17592186044415) (s : St) (k n kc : Int) (hp : ps[s.a]? = some (k, n, kc)) (he : Xu nl nt fs s.l k n kc what = 0) (w : World)
 (hE : Env w Bc bf of (.slice pl nl cl) pp cp ps pf fs) (hB : Zju tc w Bc bf of (.slice pt nt ct) (.slice pf fs.length cf) s) :
 Calls Try.prog 54 #[.pointer (some ⟨Bc, 0, none⟩), .int .i64 what, .int .i64 deep] w fun e w' => e = .returned (.tuple #[.int .i64 0, .int .i64 175]) /\ w.grownBy w' none := by
 have hja : s.a < ps.length := (List.getElem?_eq_some_iff.1 hp).1
 obtain ⟨bp, op, rfl, hpB, hpc⟩ := hE.pa (by omega)
 obtain ⟨p0, p1, p2⟩ := hpc _ _ _ _ hp
 have hbp : bp < w.heap.size := Nat.lt_trans hpB hE.lt
 have A := Hq (fun w1 (g : w.grownBy w1 none) => Zok k n kc what Bc bf of nl cl nt ct cf pt pf pl fs hfs _ _ _ _ w1 (Zhx (Zdt hE hB) g) (Zjl (Zsi hE) g))
 have EE := Hq hE
 have BB := Hq hB
 obtain ⟨hlt, hltf, hne, c0, c1, c2, c3, c4, c5, f2, f3⟩ := Zdt hE hB
 clear hE hB hpc hp
 have hji : (s.a : Int) < (ps.length : Int) := by omega
 generalize hea : Xu nl nt fs s.l k n kc what = e0 at *
 go_enter Try.func54, Try.ntmps54
 go_wp2
 go_quiet (fail)
 go_wp2
 have hs : w.heap.size = (w.drewN nq).heap.size := by simp
 have g0 : w.grownBy (w.drewN nq) none := ⟨rfl, rfl, rfl, by simp, fun k hk _ => by simp⟩
 have GG := Hq g0
 replace c0 := g0.cell c0 (by simp)
 replace c1 := g0.cell c1 (by simp)
 replace c2 := g0.cell c2 (by simp)
 replace c3 := g0.cell c3 (by simp)
 replace f3 := g0.cell f3 (by simp)
 replace p0 := g0.cell p0 (by simp)
 replace p1 := g0.cell p1 (by simp)
 replace p2 := g0.cell p2 (by simp)
 have hlt' : Bc < (w.drewN nq).heap.size := by rw [<- hs]; exact hlt
 have hltf' : bf < (w.drewN nq).heap.size := by rw [<- hs]; exact hltf
 have hbp' : bp < (w.drewN nq).heap.size := by rw [<- hs]; exact hbp
 have HS := Hq hs
 clear hs g0
 generalize w.drewN nq = w0 at *
 clear c4 c5 f2
 go_region
 have g1 : w.grownBy ((w0.alloc (.cells #[.int .i64 k, .int .i64 n, .int .i64 kc] 108)).drew) none := Za GG.out (Zf (Ga w0 _ none))
 have G1 := Hq g1
 clear g1
 subst he
 go_wp2_with (go_at_call 85; refine (A.out _ G1.out).mono ?_; rintro e w1 ⟨rfl, hg⟩; have HG := Hq hg; clear hg)
 refine bodyPost_ret (v := .tuple #[.int .i64 0, .int .i64 175]) ?_ rfl ⟨rfl, ?_⟩
 · rw [results_tmp2 rfl]
   go_simp
 · exact Za G1.out HG.out
theorem Ygk (g : Nat) (hg : g <= 64) (deep : Int) (hd : deep + g = 64) (tc : TypeId) (what : Int) (Bc bf of cp cf nl cl nt ct : Nat) (pt pf pl pp : Option Addr) (fs : List Int) (hfs : fs.length <= 1000000) (ps : List (Int × Int × Int)) (hnp : ps.length <= 17592186044415) (s : St) (k n kc : Int) (hp : ps[s.a]? = some (k, n, kc)) (he : Xu nl nt fs s.l k n kc what = 0)
 (hs0 : 0 <= s.l /\ s.l + g <= 66) (hs1 : 0 <= s.m /\ s.m <= 10000000000000000)
 (hI : ∀ (what : Int) (s : St) (w : World), s.a <= ps.length -> 0 <= s.l -> s.l + g <= 67 -> 0 <= s.m -> s.m <= 10000000000000000 -> Env w Bc bf of (.slice pl nl cl) pp cp ps pf fs -> Zju tc w Bc bf of (.slice pt nt ct) (.slice pf fs.length cf) s ->
   Calls Try.prog 54 #[.pointer (some ⟨Bc, 0, none⟩), .int .i64 what, .int .i64 (deep + 1)] w (Zst tc w Bc bf of (.slice pt nt ct) (.slice pf fs.length cf) (Yp nl nt fs ps g what s))) (w : World)
 (hE : Env w Bc bf of (.slice pl nl cl) pp cp ps pf fs) (hB : Zju tc w Bc bf of (.slice pt nt ct) (.slice pf fs.length cf) s) :
 Calls Try.prog 54 #[.pointer (some ⟨Bc, 0, none⟩), .int .i64 what, .int .i64 deep] w (Zst tc w Bc bf of (.slice pt nt ct) (.slice pf fs.length cf) (Yp nl nt fs ps (g + 1) what s)) := by
 have hja : s.a < ps.length := (List.getElem?_eq_some_iff.1 hp).1
 have HI := Hq hI
 have HP := Hq hp
 clear hI
 obtain ⟨bp, op, rfl, hpB, hpc⟩ := hE.pa (by omega)
 obtain ⟨p0, p1, p2⟩ := hpc _ _ _ _ hp
 have hbp : bp < w.heap.size := Nat.lt_trans hpB hE.lt
 have A := Hq (fun w1 (g : w.grownBy w1 none) => Zok k n kc what Bc bf of nl cl nt ct cf pt pf pl fs hfs _ _ _ _ w1 (Zhx (Zdt hE hB) g) (Zjl (Zsi hE) g))
 have EE := Hq hE
 have BB := Hq hB
 obtain ⟨hlt, hltf, hne, c0, c1, c2, c3, c4, c5, f2, f3⟩ := Zdt hE hB
 clear hE hB hpc hp
 have hji : (s.a : Int) < (ps.length : Int) := by omega
 generalize hea : Xu nl nt fs s.l k n kc what = e0 at *
 go_enter Try.func54, Try.ntmps54
 go_wp2
 go_quiet (fail)
 go_wp2
 have hs : w.heap.size = (w.drewN nq).heap.size := by simp
 have g0 : w.grownBy (w.drewN nq) none := ⟨rfl, rfl, rfl, by simp, fun k hk _ => by simp⟩
 have GG := Hq g0
 replace c0 := g0.cell c0 (by simp)
 replace c1 := g0.cell c1 (by simp)
 replace c2 := g0.cell c2 (by simp)
 replace c3 := g0.cell c3 (by simp)
 replace f3 := g0.cell f3 (by simp)
 replace p0 := g0.cell p0 (by simp)
 replace p1 := g0.cell p1 (by simp)
 replace p2 := g0.cell p2 (by simp)
 have hlt' : Bc < (w.drewN nq).heap.size := by rw [<- hs]; exact hlt
 have hltf' : bf < (w.drewN nq).heap.size := by rw [<- hs]; exact hltf
 have hbp' : bp < (w.drewN nq).heap.size := by rw [<- hs]; exact hbp
 have HS := Hq hs
 clear hs g0
 generalize w.drewN nq = w0 at *
 clear c4 c5 f2
 go_region
 have g1 : w.grownBy ((w0.alloc (.cells #[.int .i64 k, .int .i64 n, .int .i64 kc] 108)).drew) none := Za GG.out (Zf (Ga w0 _ none))
 have G1 := Hq g1
 clear g1
 have hea2 := Hq (hea.trans he)
 subst he
 have hs : w.heap.size = w0.heap.size := HS.out
 go_wp2_with (go_at_call 85; refine (A.out _ G1.out).mono ?_; rintro e w1 ⟨rfl, hg⟩; have HG := Hq hg; clear hg; have hB1 := Zbs (Zbs BB.out G1.out (by simp)) HG.out (by simp); have B1 := Hq hB1; have d3 := Xbz hB1; have z3 := Zdi hB1 3; have hlt1 := Yjn hB1; have hC1 := Xt (Ydh w0 k n kc) HG.out (by simp); have C1 := Hq hC1; have y2 := Zqd hC1; have x2 := Zqd (Xt hC1 (Zd w1 Bc 3 (.int .i64 ((s.a : Int) + 1))) (by simp; omega)); clear hB1 hC1)
 have B3 := Hq ((Zsn B1.out).1 ((s.a : Int) + 1) (s.a + 1) (by omega))
 have C3 := Hq (Xt C1.out (Zd w1 Bc 3 (.int .i64 ((s.a : Int) + 1))) (by simp; omega))
 have G3 := Hq (Za (Jh (Za G1.out HG.out)) (Zd w1 Bc 3 (.int .i64 ((s.a : Int) + 1))))
 obtain ⟨i0, hi, hz0, hz1, hz2⟩ := info_parts Zaz
 have PI := Hq (Zhq nl nt fs ps g what s k n kc HP.out hea2.out _ rfl)
 have ND := Hq (Yma nl nt fs s.l k n kc what hea2.out)
 have hBcB : Bc < w0.heap.size := hlt'
 clear A BB G1 HG B1 C1 d3 z3 y2 x2 hlt1 c0 c1 c2 c3 f3 p0 p1 p2 hlt' hltf' hbp' HS GG HP hea2
 generalize hw2 : w1.setCell ⟨Bc, 3, none⟩ (.int .i64 ((s.a : Int) + 1)) = w2 at *
 generalize w0.heap.size = B at *
 clear hw2
 go_loopw [10, 59] (fun v i wr => ∃ (q : Nat) (t : St) (ws : List Int), i = .int .i64 q /\ Yzo tc w wr Bc bf of B (.slice pt nt ct) (.slice pf fs.length cf) k n kc (Yp nl nt fs ps g) ps.length g ⟨s.a + 1, s.l, s.m⟩ s.l q v t ws) (fun _ i _ => kc.toNat - (intOf i).toNat)
 case atStart => exact ⟨0, _, [], rfl, ⟨World.ownsRow_nil _ _ _ _, B3.out, C3.out, G3.out, rfl, hja, by simp, rfl, rfl, hs1.1, hs1.2, fun j hj => absurd hj (by simp), Nat.zero_le _⟩⟩
 case round =>
  obtain ⟨q, t, ws, rfl, hL⟩ := hrel
  have LL := Hq hL
  have x0 := Zof hL.copy
  have x1 := Yqx hL.copy
  have x2 := Zqd hL.copy
  have hqk := hL.q
  have hta := hL.a
  have htl := hL.len
  have htb0 : 0 <= t.l := by have := hL.l; have := hs0.1; omega
  have htb1 : t.l + g <= 66 := by have := hL.l; have := hs0.2; omega
  have hlq := hL.lenq
  have e4 := Yvh hL.box
  have z4 := Zdi hL.box 4
  have hm0 := hL.m0
  have hm1 := hL.m1
  have hltr := Yjn hL.box
  have hc3 : ws.length + 1 <= maxLen := by unfold maxLen; omega
  have hc4 : (ws.length + 1) * 8 <= 140737488355328 := by omega
  clear hL
  by_cases hlt : (q : Int) < kc
  · have hsl := Ylc k q t
    have hsa := Zzj k q t
    have hsm := Zzi k q t
    have I1 := Hq (fun w' => HI.out (Zdr k q) (Zv k q t) w' (by omega) (by omega) (by omega) (by omega) (by omega))
    have KD := Hq (fun w' => Yug k n kc (q : Int) w')
    have PG := Hq (fun h0 => Zkh nl nt fs ps (by omega) g (Zdr k q) (Zv k q t) (by omega) h0)
    have hue : Yp nl nt fs ps g (Zdr k q) (Zv k q t) = Yp nl nt fs ps g (Zdr k q) (Zv k q t) := rfl
    generalize hkd : Zdr k (q : Int) = kd at *
    generalize hu : Yp nl nt fs ps g kd (Zv k q t) = u at *
    clear hue
    obtain ⟨uw, ue, us⟩ := u
    have HU := Hq (show Yp nl nt fs ps g (Zdr k (q : Int)) (Zv k q t) = (uw, ue, us) by rw [hkd]; exact hu)
    clear hu hkd
    by_cases c6 : k = 6 /\ q = 1
    · have k6 : (k == 6) = true := by simpa using c6.1
      have q1 : ((q : Int) == 1) = true := by have := c6.2; simp; omega
      have hin : Zv k q t = ⟨t.a, t.l + 1, t.m⟩ := by unfold Zv; rw [if_pos c6]
      have hout : Yd k q us = ⟨us.a, us.l - 1, us.m⟩ := by unfold Yd; rw [if_pos c6]
      have BT := Hq (show Zju tc (wr.setCell ⟨Bc, 4, none⟩ (.int .i64 (t.l + 1))) Bc bf of (.slice pt nt ct) (.slice pf fs.length cf) (Zv k q t) by rw [hin]; exact (Zsn LL.out.box).2.1 (t.l + 1))
      have GT := Hq (Zd wr Bc 4 (.int .i64 (t.l + 1)))
      have hcs := Xt LL.out.copy GT.out (by simp; omega)
      have x0' := Zof hcs
      have x1' := Yqx hcs
      have x2' := Zqd hcs
      have CS := Hq hcs
      have OS := Hq (LL.out.own.kept GT.out (Zga LL.out.own (by omega)))
      have HOUT := Hq hout
      clear c6 hin hout hcs
      by_cases h0 : ue = 0
      · subst h0
        have PG0 := Hq (PG.out rfl)
        clear PG
        have hul : us.l <= 1000000 /\ -1000000 <= us.l := by have := PG0.out.l; simp only [] at this; omega
        go_wp2_with (first
         | (go_at_call 86; refine (KD.out _).mono ?_; rintro e w2' ⟨rfl, hg2⟩; have G2 := Hq hg2; have g2 := hg2.size; clear hg2)
         | (go_at_call 54; refine (I1.out _ (Zaf (Zaf (Zaf EE.out LL.out.gr) GT.out) (Jh G2.out)) (Zbs BT.out G2.out (by simp))).mono ?_; intro e w3 hpost; obtain ⟨rfl, hg3, hb3⟩ := hpost; have G3' := Hq hg3; have B3' := Hq (hb3 rfl); have C3' := Hq (Xt (Xt CS.out G2.out (by simp)) hg3 (by simp; omega)); have y0 := Zof C3'.out; have e4' := Yvh B3'.out; have z4' := Zdi B3'.out 4; have OW := Hq ((OS.out.kept G2.out (Classical.em _)).kept hg3 (Zga LL.out.own (by omega))); have g3 := hg3.size; clear hg3 hb3)
         | (at_builtin; refine wpList_append_own _ rfl _ _ 47 rfl (B + 1) 3 i0 (.int .i64 0) 1 8 Zcd hi hz0 hz1 hz2 rfl (by decide) _ _ _ rfl ((OW.out.kept (Zd w3 Bc 4 _) (Zga LL.out.own (by omega))).alloc _) ⟨w3.heap.size, 0, none⟩ 1 1 [.int .i64 uw] rfl rfl (Zrb w3 Bc 4 _ _ _) (Zae _ _) hc3 hc4 (Zth (Zod (Xt C3'.out (Zd w3 Bc 4 (.int .i64 (us.l - 1))) (by simp; omega))) _) ?_; intro v' w4 hown' hgrow hnil; have OW4 := Hq hown'; have GR4 := Hq hgrow; clear hown' hgrow hnil)
         )
        go_roundw
        case rel => exact ⟨q + 1, Yd k q us, ws ++ [uw], by go_num, Zul LL.out hlt HU.out PG0.out (by omega) OW4.out (by rw [HOUT.out]; exact Zbs (Zbs ((Zsn B3'.out).2.1 (us.l - 1)) (Ga _ _ none) (by simp)) GR4.out (Zan LL.out.own (by omega))) (Xt (Xt (Xt C3'.out (Zd w3 Bc 4 _) (by simp; omega)) (Ga _ _ none) (by simp)) GR4.out (Zan LL.out.own (by omega))) (Zbb (Za (Za (Za (Za (Za LL.out.gr GT.out) (Jh G2.out)) G3'.out) (Zd w3 Bc 4 _)) (Ga _ _ _)) GR4.out LL.out.own (by omega))⟩
        case measure => simp [intOf]; omega
      · skip
        have HF := Hq (PI.out.trans (by rw [if_pos (by rw [Zlu LL.out hlt HU.out h0]; exact h0), Zlu LL.out hlt HU.out h0]) : Yp nl nt fs ps (g + 1) what s = (0, ue, s))
        have b0 : (ue != 0) = true := by simpa using h0
        have H0 := Hq h0
        clear h0
        go_wp2_with (first
         | (go_at_call 86; refine (KD.out _).mono ?_; rintro e w2' ⟨rfl, hg2⟩; have G2 := Hq hg2; have g2 := hg2.size; clear hg2)
         | (go_at_call 54; refine (I1.out _ (Zaf (Zaf (Zaf EE.out LL.out.gr) GT.out) (Jh G2.out)) (Zbs BT.out G2.out (by simp))).mono ?_; intro e w3 hpost; obtain ⟨rfl, hg3, hb3⟩ := hpost; have G3' := Hq hg3; clear hg3 hb3)
         )
        refine bodyPost_ret (v := .tuple #[.int .i64 0, .int .i64 ue]) ?_ rfl ?_
        · rw [results_tmp2 rfl]
          go_simp
        · rw [HF.out]
          exact ⟨rfl, Za (Za (Za LL.out.gr GT.out) (Jh G2.out)) G3'.out, fun h => absurd h H0.out⟩
    · have hpk : ((k == 6) = false) \/ ((k == 6) = true /\ ((q : Int) == 1) = false) := by
       by_cases h6 : k = 6
       · right; refine ⟨by simpa using h6, ?_⟩; have : q ≠ 1 := fun h => c6 ⟨h6, h⟩; simp; omega
       · left; simpa using h6
      have hin : Zv k q t = t := by unfold Zv; rw [if_neg c6]
      have hout : Yd k q us = us := by unfold Yd; rw [if_neg c6]
      have HOUT := Hq hout
      have BT := Hq (show Zju tc wr Bc bf of (.slice pt nt ct) (.slice pf fs.length cf) (Zv k q t) by rw [hin]; exact LL.out.box)
      clear c6 hin hout
      by_cases h0 : ue = 0
      · subst h0
        have PG0 := Hq (PG.out rfl)
        clear PG
        rcases hpk with k6 | ⟨k6, q1⟩
        all_goals
         go_wp2_with (first
          | (go_at_call 86; refine (KD.out _).mono ?_; rintro e w2' ⟨rfl, hg2⟩; have G2 := Hq hg2; have g2 := hg2.size; clear hg2)
          | (go_at_call 54; refine (I1.out _ (Zaf (Zaf EE.out LL.out.gr) (Jh G2.out)) (Zbs BT.out G2.out (by simp))).mono ?_; intro e w3 hpost; obtain ⟨rfl, hg3, hb3⟩ := hpost; have G3' := Hq hg3; have B3' := Hq (hb3 rfl); have C3' := Hq (Xt (Xt LL.out.copy G2.out (by simp)) hg3 (by simp; omega)); have y0 := Zof C3'.out; have e4' := Yvh B3'.out; have z4' := Zdi B3'.out 4; have OW := Hq ((LL.out.own.kept G2.out (Classical.em _)).kept hg3 (Zga LL.out.own (by omega))); have g3 := hg3.size; clear hg3 hb3)
          | (at_builtin; refine wpList_append_own _ rfl _ _ 47 rfl (B + 1) 3 i0 (.int .i64 0) 1 8 Zcd hi hz0 hz1 hz2 rfl (by decide) _ _ _ rfl (OW.out.alloc _) ⟨w3.heap.size, 0, none⟩ 1 1 [.int .i64 uw] rfl rfl (Zao w3 _ _) (Zae _ _) hc3 hc4 (Zth (Zod C3'.out) _) ?_; intro v' w4 hown' hgrow hnil; have OW4 := Hq hown'; have GR4 := Hq hgrow; clear hown' hgrow hnil)
          )
         go_roundw
         case rel => exact ⟨q + 1, Yd k q us, ws ++ [uw], by go_num, Zul LL.out hlt HU.out PG0.out (by omega) OW4.out (by rw [HOUT.out]; exact Zbs (Zbs B3'.out (Ga w3 _ none) (by simp)) GR4.out (Zan LL.out.own (by omega))) (Xt (Xt C3'.out (Ga w3 _ none) (by simp)) GR4.out (Zan LL.out.own (by omega))) (Zbb (Za (Za (Za LL.out.gr (Jh G2.out)) G3'.out) (Ga w3 _ _)) GR4.out LL.out.own (by omega))⟩
         case measure => simp [intOf]; omega
      · skip
        have HF := Hq (PI.out.trans (by rw [if_pos (by rw [Zlu LL.out hlt HU.out h0]; exact h0), Zlu LL.out hlt HU.out h0]) : Yp nl nt fs ps (g + 1) what s = (0, ue, s))
        have b0 : (ue != 0) = true := by simpa using h0
        have H0 := Hq h0
        clear h0
        rcases hpk with k6 | ⟨k6, q1⟩
        all_goals
         go_wp2_with (first
          | (go_at_call 86; refine (KD.out _).mono ?_; rintro e w2' ⟨rfl, hg2⟩; have G2 := Hq hg2; have g2 := hg2.size; clear hg2)
          | (go_at_call 54; refine (I1.out _ (Zaf (Zaf EE.out LL.out.gr) (Jh G2.out)) (Zbs BT.out G2.out (by simp))).mono ?_; intro e w3 hpost; obtain ⟨rfl, hg3, hb3⟩ := hpost; have G3' := Hq hg3; clear hg3 hb3)
          )
         refine bodyPost_ret (v := .tuple #[.int .i64 0, .int .i64 ue]) ?_ rfl ?_
         · rw [results_tmp2 rfl]
           go_simp
         · rw [HF.out]
           exact ⟨rfl, Za (Za LL.out.gr (Jh G2.out)) G3'.out, fun h => absurd h H0.out⟩
  · have HE := Hq (PI.out.trans (by rw [Ymm LL.out hlt]; rfl) : Yp nl nt fs ps (g + 1) what s = (Zeh k ws, 0, ⟨t.a, t.l, max t.m (Zeh k ws)⟩))
    have hq : ws.length = kc.toNat := by have := LL.out.lenq; omega
    have WB := Zmp k ws _ (by omega) LL.out.w
    have WN := Hq (fun w' (g : wr.grownBy w' none) => Ykt k n kc ND.out.2 u10 ws w' (Yhz (Yoa (cap := 0) LL.out.own) g) (by omega) (fun i hi => by have := LL.out.w i hi; omega) (by rw [hq]; exact ND.out.1))
    generalize Zeh k ws = wv at *
    have e5 := Yzf LL.out.box
    have z5 := Zdi LL.out.box 5
    go_wp2_with (first
     | (go_at_call 87; refine (WN.out _ (Ze _ _)).mono ?_; rintro e w5 ⟨rfl, hg5⟩; have G5 := Hq hg5; have hB5 := Zbs LL.out.box hg5 (by simp); have B5 := Hq hB5; have e5' := Yzf hB5; have z5' := Zdi hB5 5; have hlt5 := Yjn hB5; clear hg5 hB5)
     )
    refine bodyPost_ret (v := .tuple #[.int .i64 wv, .int .i64 0]) ?_ rfl ?_
    · rw [results_tmp2 rfl]
      go_simp
    · rw [HE.out]
      exact ⟨rfl, Za (Za LL.out.gr (Jh G5.out)) (Zd w5 Bc 5 _), fun _ => (Zsn B5.out).2.2 _⟩
theorem Yls : ∀ (g : Nat) (hg : g <= 65) (tc : TypeId) (what : Int) (Bc bf of cp cf nl cl nt ct : Nat) (pt pf pl pp : Option Addr) (fs : List Int) (hfs : fs.length <= 1000000) (ps : List (Int × Int × Int)) (hnp : ps.length <= 17592186044415) (s : St)
 (ha : s.a <= ps.length) (h0 : 0 <= s.l) (h1 : s.l + g <= 67) (h2 : 0 <= s.m) (h3 : s.m <= 10000000000000000) (w : World)
 (hE : Env w Bc bf of (.slice pl nl cl) pp cp ps pf fs) (hB : Zju tc w Bc bf of (.slice pt nt ct) (.slice pf fs.length cf) s),
 Calls Try.prog 54 #[.pointer (some ⟨Bc, 0, none⟩), .int .i64 what, .int .i64 (65 - (g : Int))] w (Zst tc w Bc bf of (.slice pt nt ct) (.slice pf fs.length cf) (Yp nl nt fs ps g what s)) := by
 intro g
 induction g with
 | zero =>
   intro hg tc what Bc bf of cp cf nl cl nt ct pt pf pl pp fs hfs ps hnp s ha h0 h1 h2 h3 w hE hB
   by_cases c1 : ps.length <= s.a
   · rw [Zgp nl nt fs ps 0 what s c1]
     exact (Zzt what _ Bc bf of ps.length cp _ _ _ pp s.a s.l s.m (by omega) w (Zdt hE hB)).mono fun e w' h => ⟨h.1, Jh h.2, fun h => absurd h (by simp)⟩
   obtain ⟨⟨k, n, kc⟩, hp⟩ : ∃ x, ps[s.a]? = some x := ⟨_, List.getElem?_eq_getElem (by omega)⟩
   by_cases c2 : Xu nl nt fs s.l k n kc what = 0
   · rw [Zph nl nt fs ps what s k n kc hp c2]
     exact (Ygl _ (by omega) tc what Bc bf of cp cf nl cl nt ct pt pf pl pp fs hfs ps hnp s k n kc hp c2 w hE hB).mono fun e w' h => ⟨h.1, Jh h.2, fun h => absurd h (by simp)⟩
   · rw [Zet nl nt fs ps 0 what s k n kc hp c2]
     exact (Zzu _ tc what Bc bf of cp cf nl cl nt ct pt pf pl pp fs hfs ps hnp s k n kc hp c2 w hE hB).mono fun e w' h => ⟨h.1, Jh h.2, fun h => absurd h c2⟩
 | succ g ih =>
   intro hg tc what Bc bf of cp cf nl cl nt ct pt pf pl pp fs hfs ps hnp s ha h0 h1 h2 h3 w hE hB
   by_cases c1 : ps.length <= s.a
   · rw [Zgp nl nt fs ps _ what s c1]
     exact (Zzt what _ Bc bf of ps.length cp _ _ _ pp s.a s.l s.m (by omega) w (Zdt hE hB)).mono fun e w' h => ⟨h.1, Jh h.2, fun h => absurd h (by simp)⟩
   obtain ⟨⟨k, n, kc⟩, hp⟩ : ∃ x, ps[s.a]? = some x := ⟨_, List.getElem?_eq_getElem (by omega)⟩
   by_cases c2 : Xu nl nt fs s.l k n kc what = 0
   · refine Ygk g (by omega) _ (by push_cast; omega) tc what Bc bf of cp cf nl cl nt ct pt pf pl pp fs hfs ps hnp s k n kc hp c2 ⟨h0, by push_cast at h1; omega⟩ ⟨h2, h3⟩ ?_ w hE hB
     intro what' s' w' a0 a1 a2 a3 a4 hE' hB'
     have e : (65 : Int) - ((g + 1 : Nat) : Int) + 1 = 65 - (g : Int) := by push_cast; omega
     rw [e]
     exact ih (by omega) tc what' Bc bf of cp cf nl cl nt ct pt pf pl pp fs hfs ps hnp s' a0 a1 a2 a3 a4 w' hE' hB'
   · rw [Zet nl nt fs ps _ what s k n kc hp c2]
     exact (Zzu _ tc what Bc bf of cp cf nl cl nt ct pt pf pl pp fs hfs ps hnp s k n kc hp c2 w hE hB).mono fun e w' h => ⟨h.1, Jh h.2, fun h => absurd h c2⟩
def Zyu (nl nt : Nat) (fs : List Int) (ps : List (Int × Int × Int)) : Int :=
 if (Yp nl nt fs ps 65 0 ⟨0, 0, 0⟩).2.1 ≠ 0 then (Yp nl nt fs ps 65 0 ⟨0, 0, 0⟩).2.1
 else if (Yp nl nt fs ps 65 0 ⟨0, 0, 0⟩).2.2.a ≠ ps.length then 171
 else if 256 < (Yp nl nt fs ps 65 0 ⟨0, 0, 0⟩).2.2.m then 175 else 0
theorem Yvj (tc : TypeId) (Bc bf of cp cf nl cl nt ct : Nat) (pt pf pl pp : Option Addr) (fs : List Int) (hfs : fs.length <= 1000000) (ps : List (Int × Int × Int)) (hnp : ps.length <= 17592186044415) (w : World)
 (hE : Env w Bc bf of (.slice pl nl cl) pp cp ps pf fs) (hB : Zju tc w Bc bf of (.slice pt nt ct) (.slice pf fs.length cf) ⟨0, 0, 0⟩) :
 Calls Try.prog 35 #[.pointer (some ⟨Bc, 0, none⟩)] w fun e w' => e = .returned (.int .i64 (Zyu nl nt fs ps)) /\ w.grownBy w' (some Bc) := by
 have P := Hq (Yls 65 (Nat.le_refl _) tc 0 Bc bf of cp cf nl cl nt ct pt pf pl pp fs hfs ps hnp ⟨0, 0, 0⟩ (Nat.zero_le _) (by decide) (by decide) (by decide) (by decide) w hE hB)
 have G := Zkh nl nt fs ps (by omega) 65 0 ⟨0, 0, 0⟩ (Nat.zero_le _)
 have EE := Hq hE
 clear hE hB
 unfold Zyu
 generalize Yp nl nt fs ps 65 0 ⟨0, 0, 0⟩ = q at *
 obtain ⟨qw, qe, qs⟩ := q
 by_cases h0 : qe = 0
 · subst h0
   have G0 := G rfl
   have ga := G0.a2
   simp only [] at ga
   clear G G0
   have hsa : (qs.a : Int) <= ps.length := by omega
   by_cases h1 : qs.a = ps.length
   · have n1 : ((qs.a : Int) != (ps.length : Int)) = false := by simp [h1]
     by_cases h2 : 256 < qs.m
     · rw [if_neg (by simp), if_neg (by simp [h1]), if_pos h2]
       clear h1
       go_enter Try.func35, Try.ntmps35
       go_wp2_with (go_at_call 54; refine P.out.mono ?_; intro e w1 hp; obtain ⟨rfl, hg, hb⟩ := hp; have HG := Hq hg; have hC := Zdt (Zaf EE.out hg) (hb rfl); obtain ⟨hlt, hltf, hne, c0, c1, c2, c3, c4, c5, f2, f3⟩ := hC; clear hg hb)
       go_quiet (fail)
       go_wp2
       go_ret
       exact ⟨rfl, Xj HG.out _⟩
     · rw [if_neg (by simp), if_neg (by simp [h1]), if_neg h2]
       clear h1
       go_enter Try.func35, Try.ntmps35
       go_wp2_with (go_at_call 54; refine P.out.mono ?_; intro e w1 hp; obtain ⟨rfl, hg, hb⟩ := hp; have HG := Hq hg; have hC := Zdt (Zaf EE.out hg) (hb rfl); obtain ⟨hlt, hltf, hne, c0, c1, c2, c3, c4, c5, f2, f3⟩ := hC; clear hg hb)
       go_quiet (fail)
       go_wp2
       go_ret
       exact ⟨rfl, Xj HG.out _⟩
   · have n1 : ((qs.a : Int) != (ps.length : Int)) = true := by simp; omega
     rw [if_neg (by simp), if_pos h1]
     clear h1
     go_enter Try.func35, Try.ntmps35
     go_wp2_with (go_at_call 54; refine P.out.mono ?_; intro e w1 hp; obtain ⟨rfl, hg, hb⟩ := hp; have HG := Hq hg; have hC := Zdt (Zaf EE.out hg) (hb rfl); obtain ⟨hlt, hltf, hne, c0, c1, c2, c3, c4, c5, f2, f3⟩ := hC; clear hg hb)
     go_quiet (fail)
     go_wp2
     go_ret
     exact ⟨rfl, Xj HG.out _⟩
 · have n0 : (qe != 0) = true := by simpa using h0
   rw [if_pos h0]
   clear G h0
   go_enter Try.func35, Try.ntmps35
   go_wp2_with (go_at_call 54; refine P.out.mono ?_; intro e w1 hp; obtain ⟨rfl, hg, hb⟩ := hp; have HG := Hq hg; clear hg hb)
   go_ret
   exact ⟨rfl, HG.out⟩
end Go.Proofs.Ytecaolkbllbokaa.TG
