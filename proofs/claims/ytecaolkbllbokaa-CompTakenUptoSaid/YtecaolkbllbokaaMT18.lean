import Derived.Test.YtecaolkbllbokaaMT17
import Derived.Laws.Closers25b
set_option linter.unusedSimpArgs false
set_option linter.unusedVariables false
set_option maxRecDepth 100000
set_option maxHeartbeats 16000000
namespace Go.Proofs.Ytecaolkbllbokaa.CK
open Go.RowKit Go.Great
def fnV (f : FuncId) (caps : Array Value) : Value := .func (.func f) #[] caps
def Zdo (b : Nat) : Value := .pointer (some ⟨b, 0, none⟩)
def Zbw (lo : Nat) (n : Int) (v : Value) (w : World) : Prop := ∃ b, v = .agg #[fnV 140 #[Zdo b], fnV 92 #[], fnV 141 #[]] /\ lo <= b /\ w.cell? ⟨b, 0, none⟩ = some (.int .i64 n)
def Yly : Value := .agg #[fnV 116 #[], fnV 117 #[], fnV 118 #[]]
def Yzz : Value := .agg #[fnV 119 #[], fnV 120 #[], fnV 121 #[]]
theorem Yjr (n : Int) (w : World) : Calls Try.prog 122 #[.int .i64 n] w fun e w' => ∃ v, e = .returned v /\ w.grownBy w' none /\ Zbw w.heap.size n v w' := by
 go_enter Try.func122, Try.ntmps122
 go_wp2
 (try simp only [Exit.inBlock, Exit.then])
 refine bodyPost_ret (v := .agg #[fnV 140 #[Zdo w.heap.size], fnV 92 #[], fnV 141 #[]]) ?_ rfl ⟨_, rfl, Za (Ga _ _ _) (Ga _ _ _), _, rfl, Nat.le_refl _, by simp⟩
 rw [Zad rfl]
 go_simp
 exact ⟨rfl, rfl, rfl⟩
def KV (lo : Nat) (k : Nat) (v : Value) (w : World) : Prop :=
 match k with
 | 0 => v = Yly
 | 1 => v = Yzz
 | 2 => Zbw lo 64 v w
 | 3 => Zbw lo 4096 v w
 | 4 => Zbw lo 64 v w
 | 5 => Zbw lo 5 v w
 | _ => Zbw lo 256 v w
theorem Zdw {lo : Nat} {n : Int} {v : Value} {w w' : World} (h : Zbw lo n v w) (g : w.grownBy w' none) : Zbw lo n v w' := by
 obtain ⟨b, e, hl, hc⟩ := h; exact ⟨b, e, hl, g.cell hc (by simp)⟩
theorem Yhx {lo k : Nat} {v : Value} {w w' : World} (h : KV lo k v w) (g : w.grownBy w' none) : KV lo k v w' := by
 match k, h with
 | 0, h => exact h
 | 1, h => exact h
 | 2, h => exact Zdw h g
 | 3, h => exact Zdw h g
 | 4, h => exact Zdw h g
 | 5, h => exact Zdw h g
 | _ + 6, h => exact Zdw h g
def Zhh (w : World) (lo S : Nat) : Prop := S < w.heap.size /\ lo <= S /\ ∀ k, k < 7 -> ∃ a b c, KV lo k (.agg #[a, b, c]) w /\ w.cell? ⟨S, k * 3, none⟩ = some a /\ w.cell? ⟨S, k * 3 + 1, none⟩ = some b /\ w.cell? ⟨S, k * 3 + 2, none⟩ = some c
theorem Zla {w w' : World} {lo S : Nat} (h : Zhh w lo S) (g : w.grownBy w' none) : Zhh w' lo S :=
 ⟨Nat.lt_of_lt_of_le h.1 g.size, h.2.1, fun k hk => by obtain ⟨a, b, c, h1, h2, h3, h4⟩ := h.2.2 k hk; exact ⟨a, b, c, Yhx h1 g, g.cell h2 (by simp), g.cell h3 (by simp), g.cell h4 (by simp)⟩⟩
theorem Zfa {lo lo' : Nat} {n : Int} {v : Value} {w : World} (h : Zbw lo n v w) (hl : lo' <= lo) : Zbw lo' n v w := by
 obtain ⟨b, e, h1, hc⟩ := h; exact ⟨b, e, Nat.le_trans hl h1, hc⟩
theorem Xbp {lo lo' k : Nat} {v : Value} {w : World} (h : KV lo k v w) (hl : lo' <= lo) : KV lo' k v w := by
 match k, h with
 | 0, h => exact h
 | 1, h => exact h
 | 2, h => exact Zfa h hl
 | 3, h => exact Zfa h hl
 | 4, h => exact Zfa h hl
 | 5, h => exact Zfa h hl
 | _ + 6, h => exact Zfa h hl
theorem Ydd {w : World} {lo lo' S : Nat} (h : Zhh w lo S) (hl : lo' <= lo) : Zhh w lo' S :=
 ⟨h.1, Nat.le_trans hl h.2.1, fun k hk => by obtain ⟨a, b, c, h1, h2⟩ := h.2.2 k hk; exact ⟨a, b, c, Xbp h1 hl, h2⟩⟩
def SlO (lo j : Nat) (v : Value) (w : World) : Prop :=
 if j < 7 then KV lo j v w else ∃ S, v = .slice (some ⟨S, 0, none⟩) 7 7 /\ Zhh w lo S
theorem Ylf {lo j : Nat} {v : Value} {w w' : World} (h : SlO lo j v w) (g : w.grownBy w' none) : SlO lo j v w' := by
 unfold SlO at *
 split
 · rename_i hj; rw [if_pos hj] at h; exact Yhx h g
 · rename_i hj; rw [if_neg hj] at h; obtain ⟨S, e, hk⟩ := h; exact ⟨S, e, Zla hk g⟩
def dO : Nat -> Nat
 | 0 => 5 | 1 => 6 | 2 => 7 | 3 => 8 | 4 => 9 | 5 => 10 | 6 => 11 | 7 => 12 | _ => 0
structure OJ (w1 : World) (b1 b2 : Nat) (l : Array Bool) (a : Act) (w : World) : Prop where
 sz : l.size = 9
 ts : a.tmps.size = 13
 df : a.defers = []
 g : w1.grownBy w none
 t1 : tm a 1 = Zdo b1
 t2 : tm a 2 = Zdo b2
 sl : ∀ j, j < 9 -> l.getD j false = true -> SlO w1.heap.size j (tm a (dO j)) w
theorem Yov : ∀ i, i < 9 -> dO i ≠ 1 /\ dO i ≠ 2 /\ dO i < 13 := by decide
theorem Yow : ∀ i, i < 9 -> ∀ j, j < 9 -> i ≠ j -> dO i ≠ dO j := by decide
theorem Zzy {w1 : World} {b1 b2 i : Nat} {l : Array Bool} {a : Act} {w w' : World} {v : Value} (h : OJ w1 b1 b2 l a w) (hi : i < 9) (g : w.grownBy w' none) (hv : SlO w1.heap.size i v w') : OJ w1 b1 b2 (l.setIfInBounds i true) (a.put (some (dO i)) v) w' := by
 obtain ⟨f1, f2, fd⟩ := Yov i hi
 have T : ∀ e, tm (a.put (some (dO i)) v) e = if e = dO i then v else tm a e := fun e => Zzh h.ts fd e
 have hgs : ∀ j, (l.setIfInBounds i true).getD j false = if j = i then true else l.getD j false := fun j => Zw l i j (by rw [h.sz]; exact hi)
 refine ⟨by simp [h.sz], Zlq h.ts, h.df, Za h.g g, by rw [T, if_neg (Ne.symm f1)]; exact h.t1, by rw [T, if_neg (Ne.symm f2)]; exact h.t2, ?_⟩
 intro j hj hl
 rw [hgs] at hl
 by_cases hji : j = i
 · subst hji
   rw [T, if_pos rfl]
   exact hv
 · rw [if_neg hji] at hl
   rw [T, if_neg (fun e => Yow i hi j hj (Ne.symm hji) e.symm)]
   exact Ylf (h.sl j hj hl) g
section
variable {ops : Array Oper} {Q : Exit -> Act -> World -> Prop} {w1 : World} {b1 b2 i : Nat} {l : Array Bool} {a : Act} {w : World}
theorem Ziy {o : Oper} {n : Int} {ts : Array TypeId} (hJ : OJ w1 b1 b2 l a w) (ho : ops[i]? = some o) (hg : o.guard = none) (hop : o.op = .call { callee := .value (.func 122), args := #[.const (.int .i64 n)], argTypes := ts }) (hdst : o.dst = some (dO i)) (hi : i < 9)
 (hv : ∀ v w, Zbw w1.heap.size n v w -> SlO w1.heap.size i v w) : wpOp Try.prog ops Q i (fun a' w' => OJ w1 b1 b2 (l.setIfInBounds i true) a' w') a w := by
 refine Zhk ho hg (f := 122) (args := #[.int .i64 n]) (by simp [execOp, hop, Act.eval, go_sem]) ?_
 refine (Yjr n w).mono fun e w' h => ?_
 obtain ⟨v, rfl, g, hb⟩ := h
 refine ⟨v, rfl, ?_⟩
 rw [hdst]
 exact Zzy hJ hi g (hv v w' (Zfa hb hJ.g.size))
theorem Yft {o : Oper} {s : Tmp} {b : Nat} {x y z : Value} (hJ : OJ w1 b1 b2 l a w) (ho : ops[i]? = some o) (hg : o.guard = none) (hop : o.op = .load 171 (.tmp s)) (hdst : o.dst = some (dO i)) (hi : i < 9) (hs : tm a s = Zdo b)
 (h0 : w1.cell? ⟨b, 0, none⟩ = some x) (h1 : w1.cell? ⟨b, 1, none⟩ = some y) (h2 : w1.cell? ⟨b, 2, none⟩ = some z) (hv : ∀ w, SlO w1.heap.size i (.agg #[x, y, z]) w) : wpOp Try.prog ops Q i (fun a' w' => OJ w1 b1 b2 (l.setIfInBounds i true) a' w') a w := by
 have c0 : w.cell? ⟨b, 0, none⟩ = some x := hJ.g.cell h0 (by simp)
 have c1 : w.cell? ⟨b, 1, none⟩ = some y := hJ.g.cell h1 (by simp)
 have c2 : w.cell? ⟨b, 2, none⟩ = some z := hJ.g.cell h2 (by simp)
 unfold tm at hs
 refine Xr ho hg (v := .agg #[x, y, z]) (w' := w) (by simp [execOp, hop, Act.eval, hs, Zdo, c0, c1, c2, go_sem]) ?_
 rw [hdst]
 exact Zzy hJ hi (Ze _ _) (hv w)
theorem Yda : (Try.prog.info? 171).map (fun i => (i.zero, i.size, i.bytes)) = some (some (.agg #[.nilFunc, .nilFunc, .nilFunc]), 3, 24) := by kernel_rfl
theorem Yhs : Try.prog.underlying 160 = some (.slice 171) := by kernel_rfl
def Zge (b : Nat) : Value := .agg #[fnV 140 #[Zdo b], fnV 92 #[], fnV 141 #[]]
def Zdq (b2 b3 b4 b5 b6 : Nat) : Array Value := #[fnV 116 #[], fnV 117 #[], fnV 118 #[], fnV 119 #[], fnV 120 #[], fnV 121 #[],
 fnV 140 #[Zdo b2], fnV 92 #[], fnV 141 #[], fnV 140 #[Zdo b3], fnV 92 #[], fnV 141 #[],
 fnV 140 #[Zdo b4], fnV 92 #[], fnV 141 #[], fnV 140 #[Zdo b5], fnV 92 #[], fnV 141 #[],
 fnV 140 #[Zdo b6], fnV 92 #[], fnV 141 #[]]
theorem Ydb (b2 b3 b4 b5 b6 : Nat) : Instr.fill (fun i => some (i * 3, 3)) ((Array.range (7 * 3)).map ((Value.agg #[.nilFunc, .nilFunc, .nilFunc]).cells[· % (Value.agg #[.nilFunc, .nilFunc, .nilFunc]).cells.size]!))
 [(0, Yly), (1, Yzz), (2, Zge b2), (3, Zge b3), (4, Zge b4), (5, Zge b5), (6, Zge b6)] = some (Zdq b2 b3 b4 b5 b6) := by kernel_rfl
theorem Yle {o : Oper} (hJ : OJ w1 b1 b2 l a w) (ho : ops[7]? = some o) (hg : o.guard = none)
 (hop : o.op = .buildSlice 160 7 #[(0, .tmp 5), (1, .tmp 6), (2, .tmp 7), (3, .tmp 8), (4, .tmp 9), (5, .tmp 10), (6, .tmp 11)]) (hdst : o.dst = some 12) (hl : ∀ j, j < 7 -> l.getD j false = true) :
 wpOp Try.prog ops Q 7 (fun a' w' => OJ w1 b1 b2 (l.setIfInBounds 7 true) a' w') a w := by
 have e0 : tm a 5 = Yly := hJ.sl 0 (by decide) (hl 0 (by decide))
 have e1 : tm a 6 = Yzz := hJ.sl 1 (by decide) (hl 1 (by decide))
 obtain ⟨c2, e2, l2, h2⟩ : Zbw w1.heap.size 64 (tm a 7) w := hJ.sl 2 (by decide) (hl 2 (by decide))
 obtain ⟨c3, e3, l3, h3⟩ : Zbw w1.heap.size 4096 (tm a 8) w := hJ.sl 3 (by decide) (hl 3 (by decide))
 obtain ⟨c4, e4, l4, h4⟩ : Zbw w1.heap.size 64 (tm a 9) w := hJ.sl 4 (by decide) (hl 4 (by decide))
 obtain ⟨c5, e5, l5, h5⟩ : Zbw w1.heap.size 5 (tm a 10) w := hJ.sl 5 (by decide) (hl 5 (by decide))
 obtain ⟨c6, e6, l6, h6⟩ : Zbw w1.heap.size 256 (tm a 11) w := hJ.sl 6 (by decide) (hl 6 (by decide))
 obtain ⟨ie, i0, i1, i2, i3⟩ := info_parts Yda
 have g : w.grownBy (w.alloc (.cells (Zdq c2 c3 c4 c5 c6) 171)) none := Ga _ _ _
 refine Xr ho hg (v := .slice (some ⟨w.heap.size, 0, none⟩) 7 7) (w' := w.alloc (.cells (Zdq c2 c3 c4 c5 c6) 171)) ?_ ?_
 · have hp : ((#[(0, .tmp 5), (1, .tmp 6), (2, .tmp 7), (3, .tmp 8), (4, .tmp 9), (5, .tmp 10), (6, .tmp 11)] : Array (Nat × Operand)).map fun (i, x) => (i, a.eval x)).toList = [(0, Yly), (1, Yzz), (2, Zge c2), (3, Zge c3), (4, Zge c4), (5, Zge c5), (6, Zge c6)] := by
    unfold tm at e0 e1 e2 e3 e4 e5 e6
    simp only [Array.getD_eq_getD_getElem?] at e0 e1 e2 e3 e4 e5 e6
    simp [Act.eval, e0, e1, e2, e3, e4, e5, e6, Zge]
   have hr := run_buildSlice (P := Try.prog) w 160 171 7 ((#[(0, .tmp 5), (1, .tmp 6), (2, .tmp 7), (3, .tmp 8), (4, .tmp 9), (5, .tmp 10), (6, .tmp 11)] : Array (Nat × Operand)).map fun (i, x) => (i, a.eval x)) (Zdq c2 c3 c4 c5 c6) ie (.agg #[.nilFunc, .nilFunc, .nilFunc]) Yhs i0 i1 (by rw [i2]; decide) (by rw [i2]; decide) (by rw [i2, hp]; exact Ydb c2 c3 c4 c5 c6)
   unfold execOp
   simp only [hop, Sem.run_bind, hr, Result.andThen_ok]
   rfl
 · rw [hdst]
   refine Zzy (i := 7) hJ (by decide) g ⟨_, rfl, by simp, hJ.g.size, fun k hk => ?_⟩
   have hc : ∀ j v, (Zdq c2 c3 c4 c5 c6)[j]? = some v -> (w.alloc (.cells (Zdq c2 c3 c4 c5 c6) 171)).cell? ⟨w.heap.size, j, none⟩ = some v := fun j v hj => by rw [World.cell?_alloc_at (hn := rfl)]; exact hj
   have hb : ∀ n c, w1.heap.size <= c -> w.cell? ⟨c, 0, none⟩ = some (.int .i64 n) -> Zbw w1.heap.size n (Zge c) (w.alloc (.cells (Zdq c2 c3 c4 c5 c6) 171)) := fun n c h1 h => ⟨c, rfl, h1, g.cell h (by simp)⟩
   rcases (by omega : k = 0 \/ k = 1 \/ k = 2 \/ k = 3 \/ k = 4 \/ k = 5 \/ k = 6) with rfl | rfl | rfl | rfl | rfl | rfl | rfl
   · exact ⟨_, _, _, rfl, hc _ _ rfl, hc _ _ rfl, hc _ _ rfl⟩
   · exact ⟨_, _, _, rfl, hc _ _ rfl, hc _ _ rfl, hc _ _ rfl⟩
   · exact ⟨_, _, _, hb _ _ l2 h2, hc _ _ rfl, hc _ _ rfl, hc _ _ rfl⟩
   · exact ⟨_, _, _, hb _ _ l3 h3, hc _ _ rfl, hc _ _ rfl, hc _ _ rfl⟩
   · exact ⟨_, _, _, hb _ _ l4 h4, hc _ _ rfl, hc _ _ rfl, hc _ _ rfl⟩
   · exact ⟨_, _, _, hb _ _ l5 h5, hc _ _ rfl, hc _ _ rfl, hc _ _ rfl⟩
   · exact ⟨_, _, _, hb _ _ l6 h6, hc _ _ rfl, hc _ _ rfl, hc _ _ rfl⟩
theorem Ysb {o : Oper} (hJ : OJ w1 b1 b2 l a w) (ho : ops[8]? = some o) (hg : o.guard = none) (hop : o.op = .assign (.tmp 12)) (hdst : o.dst = some 0) (hl : l.getD 7 false = true) : wpOp Try.prog ops Q 8 (fun a' w' => OJ w1 b1 b2 (l.setIfInBounds 8 true) a' w') a w := by
 refine Xr ho hg (v := tm a 12) (w' := w) (by simp [execOp, hop, Act.eval, tm]) ?_
 rw [hdst]
 exact Zzy (i := 8) hJ (by decide) (Ze _ _) (hJ.sl 7 (by decide) hl)
end
def Zvz (w : World) (e : Ending) (w' : World) : Prop := ∃ S, e = .returned (.slice (some ⟨S, 0, none⟩) 7 7) /\ w.grownBy w' none /\ Zhh w' w.heap.size S
theorem Zec (w : World) : Calls Try.prog 89 #[] w (Zvz w) := by
 go_enter Try.func89, Try.ntmps89
 go_wp2
 rename_i K hK
 have g1 : w.grownBy ((w.alloc (.cells #[.func (.func 116) #[] #[], .func (.func 117) #[] #[], .func (.func 118) #[] #[]] 171)).alloc (.cells #[.func (.func 119) #[] #[], .func (.func 120) #[] #[], .func (.func 121) #[] #[]] 171)) none := Za (Ga _ _ _) (Ga _ _ _)
 have hb1 := heap_alloc_new w (.cells #[.func (.func 116) #[] #[], .func (.func 117) #[] #[], .func (.func 118) #[] #[]] 171)
 have hb1' := Zc hb1 (Ga _ (.cells #[.func (.func 119) #[] #[], .func (.func 120) #[] #[], .func (.func 121) #[] #[]] 171) none) (by simp)
 have hb2 := Jp w (.cells #[.func (.func 116) #[] #[], .func (.func 117) #[] #[], .func (.func 118) #[] #[]] 171) (.cells #[.func (.func 119) #[] #[], .func (.func 120) #[] #[], .func (.func 121) #[] #[]] 171)
 clear hb1
 generalize (w.alloc (.cells #[.func (.func 116) #[] #[], .func (.func 117) #[] #[], .func (.func 118) #[] #[]] 171)).alloc (.cells #[.func (.func 119) #[] #[], .func (.func 120) #[] #[], .func (.func 121) #[] #[]] 171) = w1 at *
 refine wp_region_any (by kernel_rfl) ?_
 refine Zdj (OJ w1 w.heap.size (w.heap.size + 1)) ?step ?fin _ _ _ _ ?start (by simp)
 case start =>
  refine ⟨by simp, by simp, rfl, ⟨rfl, rfl, rfl, Nat.le_refl _, fun _ _ _ => rfl⟩, rfl, rfl, ?_⟩
  intro j hj h; exfalso; revert h; simp only [List.size_toArray]; rw [getD_replicate_false]; simp
 case fin =>
  intro l a w' hJ hr
  have hl := Zhz (Zvk (by kernel_rfl)) hr hJ.sz
  obtain ⟨S, hS, hk⟩ : ∃ S, tm a 0 = .slice (some ⟨S, 0, none⟩) 7 7 /\ Zhh w' w1.heap.size S := hJ.sl 8 (by decide) (hl 8 (by decide))
  refine hK _ _ ?_
  go_wp2
  refine bodyPost_ret (v := .slice (some ⟨S, 0, none⟩) 7 7) ?_ hJ.df ⟨S, rfl, Za g1 hJ.g, Ydd hk g1.size⟩
  rw [results_tmp rfl]
  unfold tm at hS
  rw [hS]
 case step =>
  intro l a w' i hJ hi
  have hi9 : i < 9 := by
   obtain ⟨_, o, ho, _⟩ := mem_ready.1 hi
   exact (Gs ho)
  rcases (by omega : i = 0 \/ i = 1 \/ i = 2 \/ i = 3 \/ i = 4 \/ i = 5 \/ i = 6 \/ i = 7 \/ i = 8) with rfl | rfl | rfl | rfl | rfl | rfl | rfl | rfl | rfl
  · exact Yft hJ rfl rfl rfl rfl (by decide) hJ.t1 (Cq _ _ _ _ _ _ hb1') (Cq _ _ _ _ _ _ hb1') (Cq _ _ _ _ _ _ hb1') (fun w => rfl)
  · exact Yft hJ rfl rfl rfl rfl (by decide) hJ.t2 (Cq _ _ _ _ _ _ hb2) (Cq _ _ _ _ _ _ hb2) (Cq _ _ _ _ _ _ hb2) (fun w => rfl)
  · exact Ziy hJ rfl rfl rfl rfl (by decide) (fun _ _ h => h)
  · exact Ziy hJ rfl rfl rfl rfl (by decide) (fun _ _ h => h)
  · exact Ziy hJ rfl rfl rfl rfl (by decide) (fun _ _ h => h)
  · exact Ziy hJ rfl rfl rfl rfl (by decide) (fun _ _ h => h)
  · exact Ziy hJ rfl rfl rfl rfl (by decide) (fun _ _ h => h)
  · refine Yle hJ rfl rfl rfl rfl fun j hj => ?_
    rcases (by omega : j = 0 \/ j = 1 \/ j = 2 \/ j = 3 \/ j = 4 \/ j = 5 \/ j = 6) with rfl | rfl | rfl | rfl | rfl | rfl | rfl
    · exact Zb hi 0 (by kernel_rfl)
    · exact Zb hi 1 (by kernel_rfl)
    · exact Zb hi 2 (by kernel_rfl)
    · exact Zb hi 3 (by kernel_rfl)
    · exact Zb hi 4 (by kernel_rfl)
    · exact Zb hi 5 (by kernel_rfl)
    · exact Zb hi 6 (by kernel_rfl)
  · exact Ysb hJ rfl rfl rfl rfl (Zb hi 7 (by kernel_rfl))
def Ypp (w : World) (e : Ending) (w' : World) : Prop :=
 ∃ g n c xs, e = .returned (.slice (some ⟨g, 0, none⟩) n c) /\ 1 <= n /\ n <= 9 /\ w'.ownsRow w.heap.size 5 1 (.slice (some ⟨g, 0, none⟩) n c) n xs /\ (∀ u ∈ xs, u.oneCell' = true) /\ w.grownBy w' none
theorem Yax (u : Int) (h0 : 0 <= u) (hu : u < 18446744073709551616) (w : World) :
 Calls Try.prog 126 #[.int .u64 u] w (Ypp w) := by
 by_cases h1 : u < 248
 · go_enter Try.func126, Try.ntmps126
   go_wp2
   go_ret
   refine ⟨_, 1, 1, [_], rfl, by decide, by decide, World.ownsRow_lit w #[_] 1 (Nat.le_refl _) (by decide) rfl, Zae _ _, Ga _ _ _⟩
 · go_enter Try.func126, Try.ntmps126
   go_wp2
   go_loopw [3] (fun v wr => ∃ k : Nat, 1 <= k /\ k <= 8 /\ v = .int .i64 k /\ wr = w) (fun v _ => (intOf v).toNat)
   case atStart => exact ⟨8, by decide, by decide, rfl, rfl⟩
   case round =>
    obtain ⟨k, hk1, hk8, rfl, rfl⟩ := hrel
    by_cases hz : u / 2 ^ (8 * (k - 1)) = 0
    · have hz2 : (u / 2 ^ (8 * (k - 1)) == 0) = true := by simp [hz]
      have hk2 : 2 <= k := by
       rcases Nat.lt_or_ge k 2 with h | h
       · have e : k = 1 := by omega
         subst e
         simp at hz
         omega
       · exact h
      clear hz
      go_wp2
      refine ⟨⟨k - 1, by omega, by omega, by congr 1; omega, trivial⟩, by simp [intOf]; omega⟩
    · have hz2 : (u / 2 ^ (8 * (k - 1)) == 0) = false := by simp [hz]
      clear hz
      obtain ⟨bi, bi0, bi1, bi2, bi3⟩ := info_parts Zhc
      go_wp2
      clear hz2
      have O0 := Hq (World.ownsRow_lit (base := wr.heap.size) (e := 5) (size := 1) wr #[Value.int IntKind.u8 (247 + ↑k)] 1 (Nat.le_refl _) (by decide) rfl)
      have G0 := Hq (Ga wr (.cells #[Value.int IntKind.u8 (247 + ↑k)] 5) none)
      obtain ⟨w0, hw0⟩ : ∃ w0, w0 = wr := ⟨_, rfl⟩
      subst hw0
      generalize w0.alloc (.cells #[Value.int IntKind.u8 (247 + ↑k)] 5) = w1 at *
      go_loopw [4, 5] (fun v i wr => ∃ (n : Nat) (xs : List Value) (j : Int), i = .int .i64 j /\ -1 <= j /\ (n : Int) + j = k /\ 1 <= n /\ wr.ownsRow w0.heap.size 5 1 v n xs /\ (∀ u ∈ xs, u.oneCell' = true) /\ w0.grownBy wr none) (fun _ i _ => (intOf i + 1).toNat)
      case atStart => exact ⟨1, _, (k : Int) - 1, rfl, by omega, by omega, Nat.le_refl _, O0.out, Zae _ _, G0.out⟩
      case round =>
       obtain ⟨n, xs, j, rfl, hj, hn, hn1, hown, ho1, hg⟩ := hrel
       have HO := Hq ho1
       have OW := Hq hown
       have GW := Hq hg
       obtain ⟨m, rfl⟩ : ∃ m, n = m + 1 := ⟨n - 1, by omega⟩
       obtain ⟨g, c, rfl⟩ := Yk hown
       have hc3 : m + 1 + 1 <= maxLen := by unfold maxLen; omega
       have hc4 : (m + 1 + 1) * 1 <= 140737488355328 := by omega
       have hE : ∀ o, w0.heap.size <= (wr.alloc o).heap.size := fun o => by have := hg.size; simp; omega
       clear hown hg ho1
       by_cases h2 : 0 <= j
       · go_wp2_with (at_builtin; refine wpList_append_own_at _ rfl _ _ 29 rfl w0.heap.size 5 bi (.int .u8 0) 1 1 Zeg bi0 bi1 bi2 bi3 rfl (by decide) (.slice (some ⟨g, 0, none⟩) (m + 1) c) _ _ rfl (OW.out.alloc _) ⟨wr.heap.size, 0, none⟩ 1 1 [.int .u8 _] rfl rfl (Zao wr _ _) (Zae _ _) hc3 hc4 (hE _) ?_; intro v3 w3 hown3 hgr3 hnil3 hat3; obtain ⟨p3, k3, hv3⟩ := Zm hown3; subst hv3; have OW3 := Hq hown3; have GR3 := Hq hgr3; clear hown3 hgr3 hnil3 hat3)
         refine ⟨⟨m + 1 + 1, _, j - 1, rfl, by omega, by omega, by omega, OW3.out, fun u hu => (List.mem_append.1 hu).elim (HO.out u) (Zae _ _ u), Zbb (Za GW.out (Ga _ _ none)) GR3.out fun k hk => (OW.out.lt k hk).1⟩, by simp [intOf]; omega⟩
       · go_wp2
         go_ret
         exact ⟨_, _, _, _, rfl, by omega, by omega, OW.out, HO.out, GW.out⟩
structure MwAt (w : World) (E Bw : Nat) (vb : Value) (n : Nat) (xs : List Value) : Prop where
 box : w.heap[Bw]? = some (.cells #[vb, .int .i64 0] 193 (0, 0))
 row : w.ownsRow E 5 1 vb n xs
 lt : Bw < E
 le : E <= w.heap.size
def MwP (Bw : Nat) (vb : Value) (k : Nat) : Prop := k = Bw \/ vb.ownBlock = some k
theorem Yad {w : World} {E Bw n : Nat} {vb : Value} {xs : List Value} (h : MwAt w E Bw vb n xs) (o : Obj) : MwAt (w.alloc o) E Bw vb n xs :=
 ⟨Zc h.box (Ga _ _ none) (by simp), h.row.alloc o, h.lt, Zfh h.le o⟩
structure Zow (w w' : World) (E Bw : Nat) (vb v' : Value) (n : Nat) (xs : List Value) : Prop where
 at_ : MwAt w' E Bw v' n xs
 sp : Sp (MwP Bw vb) w w'
 hat : v'.ownBlock = vb.ownBlock \/ ∃ k, v'.ownBlock = some k /\ w.heap.size <= k
theorem Yxm {w w1 : World} {E Bw n n' : Nat} {vb v1 : Value} {xs xs' : List Value} (h : MwAt w E Bw vb n xs) (own : w1.ownsRow E 5 1 v1 n' xs') (g : w.grownBy w1 vb.ownBlock) (hat : v1.ownBlock = vb.ownBlock \/ v1.ownBlock = some w.heap.size) :
 Zow w (w1.setCell ⟨Bw, 0, none⟩ v1) E Bw vb v1 n' xs' := by
 have hlt := h.lt
 have hle := h.le
 have hb := Zc h.box g (Zan h.row hlt)
 refine ⟨⟨by rw [Zh hb]; rfl, Jw own hlt, hlt, by rw [World.size_setCell]; exact Nat.le_trans hle g.size⟩, ?_, ?_⟩
 · refine Zr (Zl (P := MwP Bw vb) g fun k _ e => Or.inr e) (Zl (P := MwP Bw vb) (Zd w1 Bw 0 v1) fun k _ e => ?_) (fun _ _ h => h)
   injection e with e; exact Or.inl e.symm
 · rcases hat with h1 | h1
   · exact Or.inl h1
   · exact Or.inr ⟨_, h1, Nat.le_refl _⟩
def Yvu (w : World) (E Bw : Nat) (vb : Value) (n : Nat) (xs : List Value) (e : Ending) (w' : World) : Prop := e = .returned (.tuple #[]) /\ ∃ v', Zow w w' E Bw vb v' n xs
theorem Yjx (E Bw L g m c : Nat) (vb : Value) (n : Nat) (xs ys : List Value) (w : World) (hM : MwAt w E Bw vb n xs) (hl : w.cell? ⟨L, 0, none⟩ = some (.slice (some ⟨g, 0, none⟩) m c))
 (hy : ys.length = m) (hc : ∀ j u, ys[j]? = some u -> w.cell? ((⟨g, 0, none⟩ : Addr).add j) = some u) (hone : ∀ u ∈ ys, u.oneCell' = true) (hn : n + m <= 4194304) (hm : 1 <= m) :
 Calls Try.prog 125 #[.pointer (some ⟨Bw, 0, none⟩), .slice (some ⟨L, 0, none⟩) 1 1] w (Yvu w E Bw vb (n + m) (xs ++ ys)) := by
 obtain ⟨pb, cb, rfl⟩ := Zm hM.row
 have MW := Hq hM
 have c0 := Cq w Bw 0 _ _ _ hM.box
 have c1 := Cq w Bw 1 _ _ _ hM.box
 have z0 := frozen_of_row w Bw 0 _ _ hM.box
 have hlt : Bw < w.heap.size := by have := hM.lt; have := hM.le; omega
 have hLl := World.block_lt_of_cell? _ _ hl
 simp only [] at hLl
 have HC := Hq hc
 have HO := Hq hone
 have HY := Hq hy
 have hle := hM.le
 clear hc hone hM hy
 go_enter Try.func125, Try.ntmps125
 go_wp2
 go_loopw [4, 16] (fun v i wr => wr = w /\ ((i = .int .i64 0 /\ v = .int .i64 n) \/ (i = .int .i64 1 /\ v = .int .i64 (n + m)))) (fun _ i _ => 1 - (intOf i).toNat)
 case atStart => exact ⟨rfl, Or.inl ⟨rfl, rfl⟩⟩
 case round =>
  obtain ⟨rfl, hrel⟩ := hrel
  rcases hrel with ⟨rfl, rfl⟩ | ⟨rfl, rfl⟩
  · go_wp2
    go_roundw
    case rel => exact ⟨trivial, Or.inr ⟨rfl, rfl⟩⟩
    case measure => decide
  · go_wp2
    obtain ⟨w0, hw0⟩ : ∃ w0, w0 = wr := ⟨_, rfl⟩
    subst hw0
    go_loopw [39] (fun i wr => (i = .int .i64 0 /\ wr = w0) \/ (i = .int .i64 1 /\ ∃ v', Zow w0 wr E Bw (.slice pb n cb) v' (n + m) (xs ++ ys))) (fun i _ => 1 - (intOf i).toNat)
    case atStart => exact Or.inl ⟨rfl, rfl⟩
    case round =>
     rcases hrel with ⟨rfl, rfl⟩ | ⟨rfl, hrel⟩
     · obtain ⟨bi, bi0, bi1, bi2, bi3⟩ := info_parts Zhc
       have hc3 : n + m <= maxLen := by unfold maxLen; omega
       have hc4 : (n + m) * 1 <= 140737488355328 := by omega
       go_wp2_with (at_builtin; refine wpList_append_own_at _ rfl _ _ 29 rfl E 5 bi (.int .u8 0) 1 1 Zeg bi0 bi1 bi2 bi3 rfl (by decide) (.slice pb n cb) _ _ rfl MW.out.row ⟨g, 0, none⟩ m c ys rfl (by rw [HY.out]; omega) HC.out HO.out hc3 hc4 hle ?_; intro v3 w3 hown3 hgr3 hnil3 hat3; obtain ⟨p3, k3, hv3⟩ := Zm hown3; subst hv3; have FN := Hq (Yxm MW.out hown3 hgr3 hat3); have zz := frozen_of_row w3 Bw 0 _ _ (Zc MW.out.box hgr3 (Zan MW.out.row MW.out.lt)); have cc := Cq w3 Bw 0 _ _ _ (Zc MW.out.box hgr3 (Zan MW.out.row MW.out.lt)); clear hown3 hgr3 hnil3 hat3)
       exact ⟨Or.inr ⟨rfl, _, FN.out⟩, by decide⟩
     · go_wp2
       go_end0
       exact ⟨rfl, hrel⟩
def Zss (w : World) (E Bw : Nat) (vb : Value) (n : Nat) (e : Ending) (w' : World) : Prop := e = .returned (.tuple #[]) /\ ∃ v' m xs, 1 <= m /\ m <= 9 /\ (∀ u ∈ xs, u.oneCell' = true) /\ Zow w w' E Bw vb v' (n + m) xs
theorem Zna {w : World} {base g n c : Nat} {xs : List Value} {e : TypeId} (h : w.ownsRow base e 1 (.slice (some ⟨g, 0, none⟩) n c) n xs) : xs.length = n := by have := h.1; omega
theorem Zrm {w w1 : World} {E Bw n : Nat} {vb : Value} {xs : List Value} (h : MwAt w E Bw vb n xs) (g : w.grownBy w1 none) : MwAt w1 E Bw vb n xs :=
 ⟨Zc h.box g (by simp), h.row.kept g (Classical.em _), h.lt, Nat.le_trans h.le g.size⟩
theorem Ygv {w w1 w2 : World} {E Bw n : Nat} {vb v' : Value} {xs : List Value} (h : Zow w1 w2 E Bw vb v' n xs) (g : w.grownBy w1 none) : Zow w w2 E Bw vb v' n xs :=
 ⟨h.at_, Zr (Zl (P := MwP Bw vb) g (by simp)) h.sp (fun _ _ h => h), h.hat.imp id fun ⟨k, h1, h2⟩ => ⟨k, h1, Nat.le_trans g.size h2⟩⟩
theorem Zkj (E Bw : Nat) (vb : Value) (n : Nat) (xs : List Value) (hx : ∀ u ∈ xs, u.oneCell' = true) (a : Int) (ha : 0 <= a) (ha2 : a < 9223372036854775808) (hn : n + 9 <= 4194304) (w : World) (hM : MwAt w E Bw vb n xs) :
 Calls Try.prog 92 #[.pointer (some ⟨Bw, 0, none⟩), .int .i64 a] w (Zss w E Bw vb n) := by
 have MW := Hq hM
 have F := Hq (Yax a ha (by omega) w)
 clear hM
 go_enter Try.func92, Try.ntmps92
 go_wp2_with (first
  | (go_at_call 126; refine F.out.mono ?_; rintro e w1 ⟨g, m, c, ys, rfl, hm1, hm9, hown, ho1, hg⟩; have OW := Hq hown; have HO := Hq ho1; have GW := Hq hg; have AD := Hq (Yjx E Bw w1.heap.size g m c vb n xs ys (w1.alloc (.cells #[.slice (some ⟨g, 0, none⟩) m c] 29)) (Yad (Zrm MW.out hg) _) (by rw [World.cell?_alloc_at (hn := rfl)]; rfl) (Zna hown) (fun j u hu => ((hown.alloc _).cells rfl) j u hu) ho1 (by omega) hm1); clear hown hg ho1)
  | (go_at_call 125; refine AD.out.mono ?_; rintro e w2 ⟨rfl, v2, hf⟩; have FN := Hq (Ygv hf (Za GW.out (Ga _ _ none))); clear hf))
 go_end0
 exact ⟨rfl, _, _, _, hm1, hm9, fun u hu => (List.mem_append.1 hu).elim (hx u) (HO.out u), FN.out⟩
theorem Znr (E Bw : Nat) (vb : Value) (n : Nat) (xs : List Value) (hx : ∀ u ∈ xs, u.oneCell' = true) (a : Int) (hn : n + 9 <= 4194304) (w : World) (hM : MwAt w E Bw vb n xs) :
 Calls Try.prog 120 #[.pointer (some ⟨Bw, 0, none⟩), .int .i64 a] w (Zss w E Bw vb n) := by
 have MW := Hq hM
 have F := Hq (Yax · · · w)
 clear hM
 go_enter Try.func120, Try.ntmps120
 go_wp2_with (first
  | (go_at_call 126; refine (F.out _ (bits_lo_u64 _ _ _) (Int.lt_of_le_sub_one (bits_hi_u64 _ _ _))).mono ?_; rintro e w1 ⟨g, m, c, ys, rfl, hm1, hm9, hown, ho1, hg⟩; have OW := Hq hown; have HO := Hq ho1; have GW := Hq hg; have AD := Hq (Yjx E Bw w1.heap.size g m c vb n xs ys (w1.alloc (.cells #[.slice (some ⟨g, 0, none⟩) m c] 29)) (Yad (Zrm MW.out hg) _) (by rw [World.cell?_alloc_at (hn := rfl)]; rfl) (Zna hown) (fun j u hu => ((hown.alloc _).cells rfl) j u hu) ho1 (by omega) hm1); clear hown hg ho1)
  | (go_at_call 125; refine AD.out.mono ?_; rintro e w2 ⟨rfl, v2, hf⟩; have FN := Hq (Ygv hf (Za GW.out (Ga _ _ none))); clear hf))
 go_end0
 exact ⟨rfl, _, _, _, hm1, hm9, fun u hu => (List.mem_append.1 hu).elim (hx u) (HO.out u), FN.out⟩
theorem Ysy (w : World) : Calls Try.prog 88 #[] w fun e w' => e = .returned (.pointer (some ⟨w.heap.size, 0, none⟩)) /\ w' = w.alloc (.cells #[.slice none 0 0, .int .i64 0] 193) := by
 go_enter Try.func88, Try.ntmps88
 go_wp2
 go_ret
 exact ⟨rfl, rfl⟩
def Yps (w : World) (e : Ending) (w' : World) : Prop := ∃ v, e = .returned (.tuple #[v, .int .i64 0]) /\ w.grownBy w' none
theorem Yjg (p : Option Addr) (n c : Nat) (xs : List Value) (E : Nat) (w : World) (h : w.ownsRow E 5 1 (.slice p n c) n xs) (hx : ∀ u ∈ xs, u.oneCell' = true) (hn : n <= 4194304) :
 Calls Try.prog 127 #[.slice p n c] w fun e w' => (∃ v, e = .returned v) /\ w.grownBy w' none := by
 go_enter Try.func127, Try.ntmps127
 obtain ⟨bi, bi0, bi1, bi2, bi3⟩ := info_parts Zhc
 have hc3 : 0 + n <= maxLen := by unfold maxLen; omega
 have hc4 : (0 + n) * 1 <= 140737488355328 := by omega
 rcases h.2 with ⟨e0, rfl⟩ | ⟨g, cap, cur, e0, -⟩
 · injection e0 with e1 e2 e3
   subst e1; subst e3
   have hq := fun W => Lib.run_eql_slice_nil (P := Try.prog) W 29 5 none 0 0 0 0 Zeg
   go_wp2
   go_ret
   exact ⟨⟨_, rfl⟩, Ze _ _⟩
 · injection e0 with e1 e2 e3
   subst e1; subst e3
   have HC := Hq (h.alloc (.cells #[] 5))
   have O0 := Hq (World.ownsRow_lit (base := w.heap.size) (e := 5) (size := 1) w #[] 0 (Nat.le_refl _) (by decide) rfl)
   have hl := Zna h
   have hq := fun W => Lib.run_eql_slice_nil (P := Try.prog) W 29 5 (some ⟨g, 0, none⟩) n c 0 0 Zeg
   clear h
   go_wp2_with (at_builtin; refine wpList_append_own_at _ rfl _ _ 29 rfl w.heap.size 5 bi (.int .u8 0) 1 1 Zeg bi0 bi1 bi2 bi3 rfl (by decide) (.slice (some ⟨w.heap.size, 0, none⟩) 0 0) _ _ rfl O0.out ⟨g, 0, none⟩ n c xs rfl (by omega) (fun j u hu => (HC.out.cells rfl) j u hu) hx hc3 hc4 (by simp) ?_; intro v3 w3 hown3 hgr3 hnil3 hat3; obtain ⟨p3, k3, hv3⟩ := Zm hown3; subst hv3; have OW3 := Hq hown3; have GR3 := Hq hgr3; clear hown3 hgr3 hnil3 hat3)
   go_ret
   exact ⟨⟨_, rfl⟩, Zbb (Ga w _ none) GR3.out fun k hk => (O0.out.lt k hk).1⟩
theorem You (E Bw : Nat) (vb : Value) (n : Nat) (xs : List Value) (hx : ∀ u ∈ xs, u.oneCell' = true) (hn : n <= 4194304) (w : World) (hM : MwAt w E Bw vb n xs) :
 Calls Try.prog 93 #[.pointer (some ⟨Bw, 0, none⟩)] w (Yps w) := by
 obtain ⟨pb, cb, rfl⟩ := Zm hM.row
 have c0 := Cq w Bw 0 _ _ _ hM.box
 have c1 := Cq w Bw 1 _ _ _ hM.box
 have C := Hq (Yjg pb n cb xs E w hM.row hx hn)
 clear hM
 go_enter Try.func93, Try.ntmps93
 go_wp2_with (go_at_call 127; refine C.out.mono ?_; rintro e w1 ⟨⟨v, rfl⟩, hg⟩; have GW := Hq hg; clear hg)
 go_ret2
 exact ⟨_, rfl, GW.out⟩
def bK (k : Nat) : Int := match k with | 2 => 64 | 3 => 4096 | 4 => 64 | 5 => 5 | _ => 256
def Zop (k : Nat) (a : Int) : Bool := if k = 0 then a == 0 else if k = 1 then true else decide (0 <= a) && decide (a < bK k)
def Zsj : List (Int × Int) -> Int
 | [] => 0
 | x :: r => match Xe x.1 with
   | none => 111
   | some s => if Zop s.2.1.toNat x.2 = true then Zsj r else 112
theorem Yiy {l : List (Int × Int)} {i : Nat} {op a : Int} (h : l[i]? = some (op, a)) : Zsj (l.drop i) = match Xe op with
 | none => 111
 | some s => if Zop s.2.1.toNat a = true then Zsj (l.drop (i + 1)) else 112 := by
 obtain ⟨hi, he⟩ := List.getElem?_eq_some_iff.1 h
 rw [List.drop_eq_getElem_cons hi, he]
 rfl
def Ypt (w : World) (B : Nat) (p : Option Addr) (l : List (Int × Int)) : Prop := 0 < l.length -> ∃ b o : Nat, p = some ⟨b, o, none⟩ /\ b < B /\ ∀ i op a, l[i]? = some (op, a) -> w.cell? ⟨b, o + i * 2, none⟩ = some (.int .i64 op) /\ w.cell? ⟨b, o + i * 2 + 1, none⟩ = some (.int .i64 a)
theorem Zqe {w w' : World} {row : Option Nat} {B : Nat} {p : Option Addr} {l : List (Int × Int)} (h : Ypt w B p l) (g : w.grownBy w' row) (hr : ∀ r, row = some r -> B <= r) : Ypt w' B p l := fun h0 => by
 obtain ⟨b, o, e, hb, hc⟩ := h h0
 refine ⟨b, o, e, hb, fun i op a hi => ?_⟩
 obtain ⟨h1, h2⟩ := hc i op a hi
 exact ⟨Zx g hr hb h1, Zx g hr hb h2⟩
def KC (k : Nat) (a b c : Value) (w : World) (Bw E : Nat) : Prop :=
 (k = 0 /\ a = .func (.func 116) #[] #[] /\ b = .func (.func 117) #[] #[] /\ c = .func (.func 118) #[] #[]) \/
 (k = 1 /\ a = .func (.func 119) #[] #[] /\ b = .func (.func 120) #[] #[] /\ c = .func (.func 121) #[] #[]) \/
 (2 <= k /\ ∃ bb, a = .func (.func 140) #[] #[.pointer (some ⟨bb, 0, none⟩)] /\ b = .func (.func 92) #[] #[] /\ c = .func (.func 141) #[] #[] /\ Bw < bb /\ bb < E /\ w.cell? ⟨bb, 0, none⟩ = some (.int .i64 (bK k)))
def Zsv (w : World) (Bw E K : Nat) : Prop := Bw < K /\ K < E /\ ∀ k, k < 7 -> ∃ a b c, KC k a b c w Bw E /\ w.cell? ⟨K, k * 3, none⟩ = some a /\ w.cell? ⟨K, k * 3 + 1, none⟩ = some b /\ w.cell? ⟨K, k * 3 + 2, none⟩ = some c
theorem Zji {w : World} {lo Bw k : Nat} {n : Int} {a b c : Value} (h : Zbw lo n (.agg #[a, b, c]) w) (hB : Bw < lo) (hk : 2 <= k) (hn : n = bK k) {E : Nat} (hE : w.heap.size <= E) : KC k a b c w Bw E := by
 obtain ⟨bb, e, hl, hc⟩ := h
 injection e with e
 injection e with e
 injection e with e1 e
 injection e with e2 e
 injection e with e3 e
 subst e1; subst e2; subst e3; subst hn
 exact Or.inr (Or.inr ⟨hk, bb, rfl, rfl, rfl, by omega, Nat.lt_of_lt_of_le (World.block_lt_of_cell? _ _ hc) hE, hc⟩)
theorem Ydc {w : World} {lo Bw K : Nat} (h : Zhh w lo K) (hB : Bw < lo) {E : Nat} (hE : w.heap.size <= E) : Zsv w Bw E K := by
 refine ⟨Nat.lt_of_lt_of_le hB h.2.1, Nat.lt_of_lt_of_le h.1 hE, fun k hk => ?_⟩
 obtain ⟨a, b, c, h1, h2⟩ := h.2.2 k hk
 refine ⟨a, b, c, ?_, h2⟩
 match k, hk, h1 with
 | 0, _, h1 => injection h1 with e; injection e with e; injection e with e1 e; injection e with e2 e; injection e with e3 e; exact Or.inl ⟨rfl, e1, e2, e3⟩
 | 1, _, h1 => injection h1 with e; injection e with e; injection e with e1 e; injection e with e2 e; injection e with e3 e; exact Or.inr (Or.inl ⟨rfl, e1, e2, e3⟩)
 | 2, _, h1 => exact Zji h1 hB (by decide) rfl hE
 | 3, _, h1 => exact Zji h1 hB (by decide) rfl hE
 | 4, _, h1 => exact Zji h1 hB (by decide) rfl hE
 | 5, _, h1 => exact Zji h1 hB (by decide) rfl hE
 | 6, _, h1 => exact Zji h1 hB (by decide) rfl hE
theorem Xbo {P : Nat -> Prop} {k : Nat} {a b c : Value} {w w' : World} {Bw E : Nat} (h : KC k a b c w Bw E) (g : Sp P w w') (hp : ∀ j, Bw < j -> j < E -> ¬ P j) : KC k a b c w' Bw E := by
 rcases h with h | h | ⟨h1, bb, e1, e2, e3, h2, h3, h4⟩
 · exact Or.inl h
 · exact Or.inr (Or.inl h)
 · exact Or.inr (Or.inr ⟨h1, bb, e1, e2, e3, h2, h3, Xm h4 g (hp _ h2 h3)⟩)
theorem Zpv {P : Nat -> Prop} {w w' : World} {Bw E K : Nat} (h : Zsv w Bw E K) (g : Sp P w w') (hp : ∀ j, Bw < j -> j < E -> ¬ P j) : Zsv w' Bw E K := by
 obtain ⟨h1, h2, h3⟩ := h
 refine ⟨h1, h2, fun k hk => ?_⟩
 obtain ⟨a, b, c, q1, q2, q3, q4⟩ := h3 k hk
 exact ⟨a, b, c, Xbo q1 g hp, Xm q2 g (hp _ h1 h2), Xm q3 g (hp _ h1 h2), Xm q4 g (hp _ h1 h2)⟩
structure EncS (w0 wr : World) (E Bw S K n : Nat) (vb : Value) (xs : List Value) : Prop where
 gr : w0.grownBy wr none
 bw : w0.heap.size <= Bw
 mw : MwAt wr E Bw vb n xs
 sh : Zjs wr S
 s1 : Bw < S
 s2 : S < E
 kd : Zsv wr Bw E K
 one : ∀ u ∈ xs, u.oneCell' = true
theorem Zqa {w0 wr w' : World} {E Bw S K n : Nat} {vb : Value} {xs : List Value} (h : EncS w0 wr E Bw S K n vb xs) (g : wr.grownBy w' none) : EncS w0 w' E Bw S K n vb xs :=
 ⟨Za h.gr g, h.bw, Zrm h.mw g, Zja h.sh g (by simp), h.s1, h.s2, Zpv (P := fun _ => False) h.kd (Zl g (by simp)) (fun _ _ _ h => h), h.one⟩
theorem Zmb {w0 wr w' : World} {E Bw S K n m : Nat} {vb v' : Value} {xs ys : List Value} (h : EncS w0 wr E Bw S K n vb xs) (f : Zow wr w' E Bw vb v' m ys) (hy : ∀ u ∈ ys, u.oneCell' = true) : EncS w0 w' E Bw S K m v' ys := by
 have hbw := h.bw
 have hlt := h.mw.lt
 have hP : ∀ j, Bw < j -> j < E -> ¬ MwP Bw vb j := by
  intro j h1 h2 h3
  rcases h3 with h3 | h3
  · omega
  · have := (h.mw.row.lt j h3).1; omega
 refine ⟨⟨f.sp.os.trans h.gr.os, f.sp.tape.trans h.gr.tape, f.sp.output.trans h.gr.output, Nat.le_trans h.gr.size f.sp.size, fun k hk hn => ?_⟩, hbw, f.at_, ⟨Nat.lt_of_lt_of_le h.sh.1 f.sp.size, fun i v hi => Xm (h.sh.2 i v hi) f.sp (hP _ h.s1 h.s2)⟩, h.s1, h.s2, Zpv h.kd f.sp hP, hy⟩
 rw [f.sp.block k (Nat.lt_of_lt_of_le hk h.gr.size) ?_]
 · exact h.gr.block k hk hn
 · rintro (e | e)
   · omega
   · have := (h.mw.row.lt k e).1; omega
theorem Ybx : ∀ x ∈ shapeT, 0 <= x.2.1 /\ x.2.1 < 7 := by
 intro x hx
 simp only [shapeT, List.mem_cons, List.not_mem_nil, or_false] at hx
 rcases hx with rfl | rfl | rfl | rfl | rfl | rfl | rfl | rfl | rfl | rfl | rfl | rfl | rfl | rfl | rfl | rfl | rfl | rfl | rfl | rfl | rfl | rfl | rfl | rfl | rfl | rfl | rfl | rfl | rfl | rfl | rfl | rfl | rfl | rfl | rfl | rfl | rfl | rfl | rfl | rfl | rfl | rfl | rfl | rfl | rfl | rfl <;> exact ⟨by decide, by decide⟩
theorem Zjg (a : Int) (w : World) : Calls Try.prog 116 #[.int .i64 a] w fun e w' => e = .returned (.bool (a == 0)) /\ w' = w := by
 go_enter Try.func116, Try.ntmps116
 go_wp2
 go_ret
 exact ⟨rfl, rfl⟩
theorem Znf (a : Int) (w : World) : Calls Try.prog 119 #[.int .i64 a] w fun e w' => e = .returned (.bool true) /\ w' = w := by
 go_enter Try.func119, Try.ntmps119
 go_wp2
 go_ret
 exact ⟨rfl, rfl⟩
theorem Zgt (a n : Int) (bb : Nat) (w : World) (h : w.cell? ⟨bb, 0, none⟩ = some (.int .i64 n)) : Calls Try.prog 140 #[.int .i64 a, .pointer (some ⟨bb, 0, none⟩)] w fun e w' => e = .returned (.bool (decide (0 <= a) && decide (a < n))) /\ w' = w := by
 by_cases h1 : 0 <= a
 · go_enter Try.func140, Try.ntmps140
   go_wp2
   go_ret
   exact ⟨by simp [h1], rfl⟩
 · go_enter Try.func140, Try.ntmps140
   go_wp2
   go_ret
   exact ⟨by simp [h1]; omega, rfl⟩
theorem Zjd (p : Option Addr) (a : Int) (w : World) : Calls Try.prog 117 #[.pointer p, .int .i64 a] w fun e w' => e = .returned (.tuple #[]) /\ w' = w := by
 go_enter Try.func117, Try.ntmps117
 go_wp2
 go_end0
 exact ⟨rfl, rfl⟩
theorem Ztj {op : Int} {nm : ByteArray} {o t g : Int} (h : Xe op = some (nm, o, t, g)) : ∃ k : Nat, o = k /\ k < 7 /\ 0 <= op /\ op < 46 := by
 by_cases hop : 0 <= op /\ op < 46
 · obtain ⟨n, x, rfl, hn, hx, hs⟩ := Zgk hop
   rw [h] at hs
   injection hs with hs
   subst hs
   obtain ⟨h0, h7⟩ := Ybx _ (List.mem_of_getElem? hx)
   obtain ⟨k, hk⟩ := Int.eq_ofNat_of_zero_le h0
   simp only [] at hk h7
   exact ⟨k, hk, by omega, hop.1, hop.2⟩
 · rw [Zgl hop] at h; cases h
def Xco (w : World) (E Bw : Nat) (vb : Value) (n : Nat) (e : Ending) (w' : World) : Prop := e = .returned (.tuple #[]) /\ ∃ v' m xs, m <= 9 /\ (∀ u ∈ xs, u.oneCell' = true) /\ Zow w w' E Bw vb v' (n + m) xs
theorem Zej {w w' : World} {E Bw n : Nat} {vb : Value} {e : Ending} (h : Zss w E Bw vb n e w') : Xco w E Bw vb n e w' := by
 obtain ⟨h1, v', m, xs, _, h3, h4, h5⟩ := h; exact ⟨h1, v', m, xs, h3, h4, h5⟩
theorem Zgn {w : World} {E Bw n : Nat} {vb : Value} {xs : List Value} (h : MwAt w E Bw vb n xs) (hx : ∀ u ∈ xs, u.oneCell' = true) : Xco w E Bw vb n (.returned (.tuple #[])) w :=
 ⟨rfl, vb, 0, xs, by omega, hx, h, Zim _ _, Or.inl rfl⟩
theorem Yac {w w' : World} {E Bw n m : Nat} {vb v' : Value} {xs ys : List Value} (h : MwAt w E Bw vb n xs) (f : Zow w w' E Bw vb v' m ys) {b : Nat} {ob : Obj} (hb : w.heap[b]? = some ob) (hE : E <= b) (hv : ∀ k, vb.ownBlock = some k -> k < b) : w'.heap[b]? = some ob := by
 rw [f.sp.block b (Gs hb) ?_]
 · exact hb
 · rintro (e | e)
   · have := h.lt; omega
   · have := hv b e; omega
theorem Zoa {w wr w4 w6 : World} {E Bw S K n m : Nat} {vb v6 : Value} {xs ys : List Value} {ob8 o9 o11 : Obj} (h : EncS w wr E Bw S K n vb xs) (g : wr.grownBy w4 none) (hx : w4.heap[wr.heap.size]? = some ob8)
 (f : Zow ((w4.alloc o9).alloc o11) w6 E Bw vb v6 m ys) (hy : ∀ u ∈ ys, u.oneCell' = true) : EncS w w6 E Bw S K m v6 ys /\ w6.heap[wr.heap.size]? = some ob8 /\ w6.heap[w4.heap.size + 1]? = some o11 := by
 have g2 := Za g (Za (Ga w4 o9 none) (Ga _ o11 none))
 have h2 := Zqa h g2
 have hle := h.mw.le
 have hsz := g.size
 refine ⟨Zmb h2 f hy, Yac h2.mw f (Zc (Zc hx (Ga w4 o9 none) (by simp)) (Ga _ o11 none) (by simp)) hle (fun k hk => (h.mw.row.lt k hk).2), Yac h2.mw f (Jp w4 o9 o11) (by omega) (fun k hk => by have := (h.mw.row.lt k hk).2; omega)⟩
end Go.Proofs.Ytecaolkbllbokaa.CK
