import Derived.Test.YtecaolkbllbokaaMT20
set_option linter.unusedSimpArgs false
set_option linter.unusedVariables false
set_option maxRecDepth 100000
set_option maxHeartbeats 16000000
namespace Go.Proofs.Ytecaolkbllbokaa.CK
open Go.RowKit Go.Great
def Zdy (fs : List FnP) (fn : FnP) (pl : Nat) (op a h : Int) : Int × Int :=
 if op = 18 then (if h = fn.2.2.1 then (0, 0) else (138, 0))
 else if h < (if op = 5 then a + 1 else (Yq fs fn.2.2.1 op a).1) then (134, 0)
 else if 256 < h - (Yq fs fn.2.2.1 op a).1 + (Yq fs fn.2.2.1 op a).2 then (135, 0)
 else if (Ji op a pl).any (fun n => decide ((fn.2.2.2.length : Int) <= n)) = true then (137, 0)
 else (0, h - (Yq fs fn.2.2.1 op a).1 + (Yq fs fn.2.2.1 op a).2)
def sd : Nat -> Nat
 | 0 => 16
 | 1 => 17
 | 2 => 18
 | 3 => 19
 | 4 => 20
 | 5 => 21
 | 6 => 22
 | 7 => 23
 | 8 => 24
 | 9 => 25
 | 10 => 26
 | 11 => 27
 | 12 => 28
 | 13 => 29
 | 14 => 30
 | 15 => 31
 | 16 => 32
 | 17 => 8
 | 18 => 9
 | 19 => 1019
 | 20 => 1020
 | _ => 5000
theorem Zeq : ∀ i, i < 21 -> ∀ j, j < 21 -> j ≠ i -> sd j ≠ sd i := by decide
theorem Ysd (i : Nat) (h : i < 21) : i = 0 \/ i = 1 \/ i = 2 \/ i = 3 \/ i = 4 \/ i = 5 \/ i = 6 \/ i = 7 \/ i = 8 \/ i = 9 \/ i = 10 \/ i = 11 \/ i = 12 \/ i = 13 \/ i = 14 \/ i = 15 \/ i = 16 \/ i = 17 \/ i = 18 \/ i = 19 \/ i = 20 := by omega
theorem Ztk (j : Nat) (hj : j ∈ [3, 4]) : ∀ i, i < 21 -> sd i ≠ j := by revert j; decide
def sdv (n0 f at_ b o n cF : Nat) (b' o' nc cc b8 b9 : Nat) (op a ar lo r : Int) : Nat -> Value
 | 0 => .pointer (some ⟨n0, 2, none⟩)
 | 1 => .slice (some ⟨b, o, none⟩) n cF
 | 2 => .pointer (some ⟨(n0 + 1), 0, none⟩)
 | 3 => .int .i64 f
 | 4 => .pointer (some ⟨b, o + f * 4, none⟩)
 | 5 => .pointer (some ⟨b, o + f * 4 + 3, none⟩)
 | 6 => .slice (some ⟨b', o', none⟩) nc cc
 | 7 => .pointer (some ⟨(n0 + 1), 1, none⟩)
 | 8 => .int .i64 at_
 | 9 => .pointer (some ⟨b', o' + at_ * 2, none⟩)
 | 10 => .agg #[.int .i64 op, .int .i64 a]
 | 11 => .pointer (some ⟨n0, 2, none⟩)
 | 12 => .slice (some ⟨b, o, none⟩) n cF
 | 13 => .pointer (some ⟨(n0 + 1), 0, none⟩)
 | 14 => .int .i64 f
 | 15 => .pointer (some ⟨b, o + f * 4, none⟩)
 | 16 => .agg #[.int .i64 ar, .int .i64 lo, .int .i64 r, .slice (some ⟨b', o', none⟩) nc cc]
 | 17 => .pointer (some ⟨b8, 0, none⟩)
 | 18 => .pointer (some ⟨b9, 0, none⟩)
 | 19 => undef
 | 20 => undef
 | _ => undef
theorem Xau {n0 f at_ b o n cF b' o' nc cc b8 b8' b9 : Nat} {op a ar lo r : Int} (l : Array Bool) (hun : l.getD 17 false = false) : ∀ i, i < 21 -> l.getD i false = true -> sd i < 81 -> sdv n0 f at_ b o n cF b' o' nc cc b8' b9 op a ar lo r i = sdv n0 f at_ b o n cF b' o' nc cc b8 b9 op a ar lo r i := by
 intro i hi hl _
 rcases Ysd i hi with rfl | rfl | rfl | rfl | rfl | rfl | rfl | rfl | rfl | rfl | rfl | rfl | rfl | rfl | rfl | rfl | rfl | rfl | rfl | rfl | rfl <;> first | rfl | (rw [hun] at hl; cases hl)
theorem Xat {n0 f at_ b o n cF b' o' nc cc b8 b9 b9' : Nat} {op a ar lo r : Int} (l : Array Bool) (hun : l.getD 18 false = false) : ∀ i, i < 21 -> l.getD i false = true -> sd i < 81 -> sdv n0 f at_ b o n cF b' o' nc cc b8 b9' op a ar lo r i = sdv n0 f at_ b o n cF b' o' nc cc b8 b9 op a ar lo r i := by
 intro i hi hl _
 rcases Ysd i hi with rfl | rfl | rfl | rfl | rfl | rfl | rfl | rfl | rfl | rfl | rfl | rfl | rfl | rfl | rfl | rfl | rfl | rfl | rfl | rfl | rfl <;> first | rfl | (rw [hun] at hl; cases hl)
def zI : Array Value := #[.int .i64 0, .int .i64 0]
def sI (op a : Int) : Array Value := #[.int .i64 op, .int .i64 a]
def zF : Array Value := #[.int .i64 0, .int .i64 0, .int .i64 0, .slice none 0 0]
def sF (ar lo r : Int) (p : Option Addr) (n c : Nat) : Array Value := #[.int .i64 ar, .int .i64 lo, .int .i64 r, .slice p n c]
structure SW (W : World) (x8 x9 : Array Value) (b8 b9 : Nat) (l : Array Bool) (w : World) : Prop where
 sz : l.size = 21
 g : W.grownBy w none
 n8 : l.getD 17 false = true -> W.heap.size <= b8 /\ w.heap[b8]? = some (.cells (if l.getD 19 false = true then x8 else zI) 75 (0, 0))
 n9 : l.getD 18 false = true -> W.heap.size <= b9 /\ w.heap[b9]? = some (.cells (if l.getD 20 false = true then x9 else zF) 73 (0, 0))
 ne : l.getD 17 false = true -> l.getD 18 false = true -> b8 ≠ b9
 no19 : l.getD 17 false = false -> l.getD 19 false = false
 no20 : l.getD 18 false = false -> l.getD 20 false = false
theorem Zmu {l : Array Bool} {i j : Nat} (h : l.size = 21) (hi : i < 21) : (l.setIfInBounds i true).getD j false = if j = i then true else l.getD j false := Zw l i j (by omega)
theorem Ju {W w : World} {x8 x9 : Array Value} {b8 b9 i : Nat} {l : Array Bool} (h : SW W x8 x9 b8 b9 l w) (hi : i < 17) : SW W x8 x9 b8 b9 (l.setIfInBounds i true) w := by
 have G : ∀ j, 17 <= j -> (l.setIfInBounds i true).getD j false = l.getD j false := fun j hj => by rw [Zmu h.sz (by omega), if_neg (by omega)]
 refine ⟨by simp [h.sz], h.g, fun e => ?_, fun e => ?_, fun e e' => ?_, fun e => by rw [G 19 (by omega)]; exact h.no19 (by rw [<- G 17 (by omega)]; exact e), fun e => by rw [G 20 (by omega)]; exact h.no20 (by rw [<- G 18 (by omega)]; exact e)⟩
 · rw [G 19 (by omega)]; exact h.n8 (by rw [<- G 17 (by omega)]; exact e)
 · rw [G 20 (by omega)]; exact h.n9 (by rw [<- G 18 (by omega)]; exact e)
 · exact h.ne (by rw [<- G 17 (by omega)]; exact e) (by rw [<- G 18 (by omega)]; exact e')
theorem Xcr {W w : World} {x8 x9 : Array Value} {b8 b9 : Nat} {l : Array Bool} (h : SW W x8 x9 b8 b9 l w) (h19 : l.getD 19 false = false) : SW W x8 x9 w.heap.size b9 (l.setIfInBounds 17 true) (w.alloc (.cells zI 75)) := by
 have gA : w.grownBy (w.alloc (.cells zI 75)) none := Ga _ _ _
 have G : ∀ j, j ≠ 17 -> (l.setIfInBounds 17 true).getD j false = l.getD j false := fun j hj => by rw [Zmu h.sz (by omega), if_neg hj]
 refine ⟨by simp [h.sz], Za h.g gA, fun _ => ⟨h.g.size, ?_⟩, fun e => ?_, fun _ e' => ?_, fun e => by rw [G 19 (by omega)]; exact h19, fun e => by rw [G 20 (by omega)]; exact h.no20 (by rw [<- G 18 (by omega)]; exact e)⟩
 · rw [G 19 (by omega), h19, if_neg (by decide)]; exact heap_alloc_new _ _
 · rw [G 20 (by omega)]
   obtain ⟨h1, h2⟩ := h.n9 (by rw [<- G 18 (by omega)]; exact e)
   exact ⟨h1, Zc h2 gA (by simp)⟩
 · obtain ⟨h1, h2⟩ := h.n9 (by rw [<- G 18 (by omega)]; exact e')
   have := (Gs h2)
   omega
theorem Xcq {W w : World} {x8 x9 : Array Value} {b8 b9 : Nat} {l : Array Bool} (h : SW W x8 x9 b8 b9 l w) (h20 : l.getD 20 false = false) : SW W x8 x9 b8 w.heap.size (l.setIfInBounds 18 true) (w.alloc (.cells zF 73)) := by
 have gA : w.grownBy (w.alloc (.cells zF 73)) none := Ga _ _ _
 have G : ∀ j, j ≠ 18 -> (l.setIfInBounds 18 true).getD j false = l.getD j false := fun j hj => by rw [Zmu h.sz (by omega), if_neg hj]
 refine ⟨by simp [h.sz], Za h.g gA, fun e => ?_, fun _ => ⟨h.g.size, ?_⟩, fun e _ => ?_, fun e => by rw [G 19 (by omega)]; exact h.no19 (by rw [<- G 17 (by omega)]; exact e), fun e => by rw [G 20 (by omega)]; exact h20⟩
 · rw [G 19 (by omega)]
   obtain ⟨h1, h2⟩ := h.n8 (by rw [<- G 17 (by omega)]; exact e)
   exact ⟨h1, Zc h2 gA (by simp)⟩
 · rw [G 20 (by omega), h20, if_neg (by decide)]; exact heap_alloc_new _ _
 · obtain ⟨h1, h2⟩ := h.n8 (by rw [<- G 17 (by omega)]; exact e)
   have := (Gs h2)
   omega
theorem Xaq {W w w' : World} {x8 x9 : Array Value} {b8 b9 : Nat} {l : Array Bool} (h : SW W x8 x9 b8 b9 l w) (h17 : l.getD 17 false = true) (g : w.grownBy w' (some b8)) (hb : w'.heap[b8]? = some (.cells x8 75 (0, 0))) : SW W x8 x9 b8 b9 (l.setIfInBounds 19 true) w' := by
 have G : ∀ j, j ≠ 19 -> (l.setIfInBounds 19 true).getD j false = l.getD j false := fun j hj => by rw [Zmu h.sz (by omega), if_neg hj]
 refine ⟨by simp [h.sz], Zbb h.g g (fun k hk => by injection hk with hk; rw [<- hk]; exact (h.n8 h17).1), fun _ => ⟨(h.n8 h17).1, ?_⟩, fun e => ?_, fun e e' => ?_, fun e => (by rw [G 17 (by omega), h17] at e; cases e), fun e => by rw [G 20 (by omega)]; exact h.no20 (by rw [<- G 18 (by omega)]; exact e)⟩
 · rw [Zmu h.sz (by omega), if_pos rfl, if_pos rfl]; exact hb
 · rw [G 20 (by omega)]
   have e2 : l.getD 18 false = true := by rw [<- G 18 (by omega)]; exact e
   obtain ⟨h1, h2⟩ := h.n9 e2
   exact ⟨h1, Zc h2 g (by intro e3; injection e3 with e3; exact h.ne h17 e2 e3)⟩
 · exact h.ne h17 (by rw [<- G 18 (by omega)]; exact e')
theorem Xap {W w w' : World} {x8 x9 : Array Value} {b8 b9 : Nat} {l : Array Bool} (h : SW W x8 x9 b8 b9 l w) (h18 : l.getD 18 false = true) (g : w.grownBy w' (some b9)) (hb : w'.heap[b9]? = some (.cells x9 73 (0, 0))) : SW W x8 x9 b8 b9 (l.setIfInBounds 20 true) w' := by
 have G : ∀ j, j ≠ 20 -> (l.setIfInBounds 20 true).getD j false = l.getD j false := fun j hj => by rw [Zmu h.sz (by omega), if_neg hj]
 refine ⟨by simp [h.sz], Zbb h.g g (fun k hk => by injection hk with hk; rw [<- hk]; exact (h.n9 h18).1), fun e => ?_, fun _ => ⟨(h.n9 h18).1, ?_⟩, fun e e' => ?_, fun e => by rw [G 19 (by omega)]; exact h.no19 (by rw [<- G 17 (by omega)]; exact e), fun e => (by rw [G 18 (by omega), h18] at e; cases e)⟩
 · rw [G 19 (by omega)]
   have e2 : l.getD 17 false = true := by rw [<- G 17 (by omega)]; exact e
   obtain ⟨h1, h2⟩ := h.n8 e2
   exact ⟨h1, Zc h2 g (by intro e3; injection e3 with e3; exact h.ne e2 h18 e3.symm)⟩
 · rw [Zmu h.sz (by omega), if_pos rfl, if_pos rfl]; exact hb
 · exact h.ne (by rw [<- G 17 (by omega)]; exact e) h18
theorem Zyr {L : List Int} {m : Int} (h : ∀ j : Nat, j < L.length -> ∀ n, L[j]? = some n -> n < m) : L.any (fun n => decide (m <= n)) = false := by
 rw [List.any_eq_false]
 intro x hx
 obtain ⟨j, hj, rfl⟩ := List.getElem_of_mem hx
 have := h j hj _ (List.getElem?_eq_getElem hj)
 simp; omega
theorem Zyq {L : List Int} {m n : Int} {j : Nat} (h : L[j]? = some n) (hn : m <= n) : L.any (fun n => decide (m <= n)) = true := by
 rw [List.any_eq_true]
 exact ⟨n, List.mem_of_getElem? h, by simpa using hn⟩
theorem Yfp (mem : Int) (vd : Value) (fs : List FnP) (pF : Option Addr) (cF B f at_ : Nat) (fn : FnP) (op a h : Int) (w : World) (hvd : ∃ p n c, vd = .slice p n c) (hB : B <= w.heap.size) (hF : Zam w B pF fs) (hS : Zon fs f at_ fn op a) (hO : Xcc fs op a)
 (hh : 0 <= h /\ h <= 256) (ht : 0 <= (Yq fs fn.2.2.1 op a).1 /\ (Yq fs fn.2.2.1 op a).1 <= 64 /\ 0 <= (Yq fs fn.2.2.1 op a).2 /\ (Yq fs fn.2.2.1 op a).2 <= 64) (ha5 : op = 5 -> 0 <= a /\ a < 256) :
 Calls Try.prog 56 #[.agg #[.int .i64 mem, vd, .slice pF fs.length cF], .agg #[.int .i64 f, .int .i64 at_], .int .i64 h] w (Zvx w (Zdy fs fn at_ op a h)) := by
 obtain ⟨pd, nd, cd, rfl⟩ := hvd
 have T := Hq (fun (W : World) (g : w.grownBy W none) => Yfg mem (.slice pd nd cd) fs pF cF B f at_ fn op a W ⟨_, _, _, rfl⟩ (Nat.le_trans hB g.size) (Yb hF g (by simp)) hS hO)
 obtain ⟨ar, lo, r, c⟩ := fn
 have hf1 := (List.getElem?_eq_some_iff.1 hS.isf).1
 have ha1 := (List.getElem?_eq_some_iff.1 hS.ins).1
 have hnf := hS.nf
 have hnc := hS.nc
 simp only [] at ha1 hnc ht T
 obtain ⟨b, o, rfl, hb, hc⟩ := hF (by omega)
 obtain ⟨c0, c1, c2, pc, cc, c3, hcode⟩ := hc f ar lo r c hS.isf
 obtain ⟨b', o', rfl, hb', hc'⟩ := hcode (by omega)
 obtain ⟨d0, d1⟩ := hc' at_ op a hS.ins
 have hb2 : b < w.heap.size := by omega
 have hb2' : b' < w.heap.size := by omega
 have q1 : (f : Int) < (fs.length : Int) := by omega
 have q2 : (at_ : Int) < (c.length : Int) := by omega
 have hgo := Hq (fun (W : World) => Zsc op a at_ W (by omega) (by omega))
 obtain ⟨tk, gk, htk⟩ : ∃ tk gk, Yq fs r op a = (tk, gk) := ⟨_, _, rfl⟩
 rw [htk] at ht T
 simp only [] at ht
 clear hF hc hcode hc' hS hO
 go_enter Try.func56, Try.ntmps56
 go_wp2
 rename_i K hK
 have hb0 := Zct w (.cells #[.int .i64 mem, .slice pd nd cd, .slice (some ⟨b, o, none⟩) fs.length cF] 32) (.cells #[.int .i64 f, .int .i64 at_] 59)
 have hb1 := Jp w (.cells #[.int .i64 mem, .slice pd nd cd, .slice (some ⟨b, o, none⟩) fs.length cF] 32) (.cells #[.int .i64 f, .int .i64 at_] 59)
 have g2 := Za (Ga w (.cells #[.int .i64 mem, .slice pd nd cd, .slice (some ⟨b, o, none⟩) fs.length cF] 32) none) (Ga _ (.cells #[.int .i64 f, .int .i64 at_] 59) none)
 generalize (w.alloc (.cells #[.int .i64 mem, .slice pd nd cd, .slice (some ⟨b, o, none⟩) fs.length cF] 32)).alloc (.cells #[.int .i64 f, .int .i64 at_] 59) = W at *
 have x2 := Cq _ _ 2 _ _ _ hb0
 have y0 := Cq _ _ 0 _ _ _ hb1
 have y1 := Cq _ _ 1 _ _ _ hb1
 replace c0 := g2.cell c0 (by simp)
 replace c1 := g2.cell c1 (by simp)
 replace c2 := g2.cell c2 (by simp)
 replace c3 := g2.cell c3 (by simp)
 replace d0 := g2.cell d0 (by simp)
 replace d1 := g2.cell d1 (by simp)
 have G2 := Hq g2
 have HB0 := Hq hb0
 have HB1 := Hq hb1
 have hft : f < fs.length := hf1
 have hat : at_ < c.length := ha1
 clear hb0 hb1 g2
 generalize hn0 : w.heap.size = n0 at *
 refine Zck (n := 21) (J := fun a0 l a1 w1 => ∃ b8 b9, RJ a0 81 21 sd (sdv n0 f at_ b o fs.length cF b' o' c.length cc b8 b9 op a ar lo r) l a1 /\ SW W (sI op a) (sF ar lo r (some ⟨b', o', none⟩) c.length cc) b8 b9 l w1) (by kernel_rfl) rfl (Zen (by kernel_rfl)) (fun l a1 w1 h => by obtain ⟨b8, b9, h1, h2⟩ := h; exact h2.sz) ?start ?step ?fin
 case start => exact ⟨0, 0, Zax rfl, ⟨by simp, ⟨rfl, rfl, rfl, Nat.le_refl _, fun _ _ _ => rfl⟩, (fun h => by rw [getD_replicate_false] at h; cases h), (fun h => by rw [getD_replicate_false] at h; cases h), (fun h => by rw [getD_replicate_false] at h; cases h), (fun _ => getD_replicate_false _ _), (fun _ => getD_replicate_false _ _)⟩⟩
 case step =>
  intro l a1 w' i hJJ hi hin
  obtain ⟨b8, b9, hJ, hW⟩ := hJJ
  have hun : l.getD i false = false := getD_both (mem_ready.1 hi).1
  rcases Ysd i hin with rfl | rfl | rfl | rfl | rfl | rfl | rfl | rfl | rfl | rfl | rfl | rfl | rfl | rfl | rfl | rfl | rfl | rfl | rfl | rfl | rfl
  · have e3 : a1.tmps.getD 3 undef = .pointer (some ⟨n0, 0, none⟩) := hJ.un 3 (fun i hi _ => Ztk 3 (by decide) i hi)
    exact Zj (Zq hJ rfl (by rfl) rfl (by decide) (by decide) (Zeq _ (by decide)) (w' := w') (by simp [execOp, resolve, invoke, builtin, Act.eval, e3, hft, hat, go_sem, sdv]) (Ju hW (by decide))) (fun a9 w9 h9 => ⟨b8, b9, h9⟩)
  · have e16 : a1.tmps.getD 16 undef = .pointer (some ⟨n0, 2, none⟩) := (hJ.sl 0 (by decide) (Zb hi 0 (by kernel_rfl)) (by decide))
    have h0 := hW.g.cell x2 (by simp)
    exact Zj (Zq hJ rfl (by rfl) rfl (by decide) (by decide) (Zeq _ (by decide)) (w' := w') (by simp [execOp, resolve, invoke, builtin, Act.eval, e16, h0, hft, hat, go_sem, sdv]) (Ju hW (by decide))) (fun a9 w9 h9 => ⟨b8, b9, h9⟩)
  · have e4 : a1.tmps.getD 4 undef = .pointer (some ⟨(n0 + 1), 0, none⟩) := hJ.un 4 (fun i hi _ => Ztk 4 (by decide) i hi)
    exact Zj (Zq hJ rfl (by rfl) rfl (by decide) (by decide) (Zeq _ (by decide)) (w' := w') (by simp [execOp, resolve, invoke, builtin, Act.eval, e4, hft, hat, go_sem, sdv]) (Ju hW (by decide))) (fun a9 w9 h9 => ⟨b8, b9, h9⟩)
  · have e18 : a1.tmps.getD 18 undef = .pointer (some ⟨(n0 + 1), 0, none⟩) := (hJ.sl 2 (by decide) (Zb hi 2 (by kernel_rfl)) (by decide))
    have h0 := hW.g.cell y0 (by simp)
    exact Zj (Zq hJ rfl (by rfl) rfl (by decide) (by decide) (Zeq _ (by decide)) (w' := w') (by simp [execOp, resolve, invoke, builtin, Act.eval, e18, h0, hft, hat, go_sem, sdv]) (Ju hW (by decide))) (fun a9 w9 h9 => ⟨b8, b9, h9⟩)
  · have e17 : a1.tmps.getD 17 undef = .slice (some ⟨b, o, none⟩) fs.length cF := (hJ.sl 1 (by decide) (Zb hi 1 (by kernel_rfl)) (by decide))
    have e19 : a1.tmps.getD 19 undef = .int .i64 f := (hJ.sl 3 (by decide) (Zb hi 3 (by kernel_rfl)) (by decide))
    exact Zj (Zq hJ rfl (by rfl) rfl (by decide) (by decide) (Zeq _ (by decide)) (w' := w') (by first | (simp [execOp, resolve, invoke, builtin, Act.eval, e17, e19, hft, hat, go_sem, sdv]; done) | (simp [execOp, resolve, invoke, builtin, Act.eval, e17, e19, hft, hat, go_sem, sdv]; omega) | (simp [execOp, resolve, invoke, builtin, Act.eval, e17, e19, hft, hat, go_sem, sdv]; intro h; omega) | (simp [execOp, resolve, invoke, builtin, Act.eval, e17, e19, hft, hat, go_sem, sdv]; intros; omega)) (Ju hW (by decide))) (fun a9 w9 h9 => ⟨b8, b9, h9⟩)
  · have e20 : a1.tmps.getD 20 undef = .pointer (some ⟨b, o + f * 4, none⟩) := (hJ.sl 4 (by decide) (Zb hi 4 (by kernel_rfl)) (by decide))
    exact Zj (Zq hJ rfl (by rfl) rfl (by decide) (by decide) (Zeq _ (by decide)) (w' := w') (by simp [execOp, resolve, invoke, builtin, Act.eval, e20, hft, hat, go_sem, sdv]) (Ju hW (by decide))) (fun a9 w9 h9 => ⟨b8, b9, h9⟩)
  · have e21 : a1.tmps.getD 21 undef = .pointer (some ⟨b, o + f * 4 + 3, none⟩) := (hJ.sl 5 (by decide) (Zb hi 5 (by kernel_rfl)) (by decide))
    have h0 := hW.g.cell c3 (by simp)
    exact Zj (Zq hJ rfl (by rfl) rfl (by decide) (by decide) (Zeq _ (by decide)) (w' := w') (by simp [execOp, resolve, invoke, builtin, Act.eval, e21, h0, hft, hat, go_sem, sdv]) (Ju hW (by decide))) (fun a9 w9 h9 => ⟨b8, b9, h9⟩)
  · have e4 : a1.tmps.getD 4 undef = .pointer (some ⟨(n0 + 1), 0, none⟩) := hJ.un 4 (fun i hi _ => Ztk 4 (by decide) i hi)
    exact Zj (Zq hJ rfl (by rfl) rfl (by decide) (by decide) (Zeq _ (by decide)) (w' := w') (by simp [execOp, resolve, invoke, builtin, Act.eval, e4, hft, hat, go_sem, sdv]) (Ju hW (by decide))) (fun a9 w9 h9 => ⟨b8, b9, h9⟩)
  · have e23 : a1.tmps.getD 23 undef = .pointer (some ⟨(n0 + 1), 1, none⟩) := (hJ.sl 7 (by decide) (Zb hi 7 (by kernel_rfl)) (by decide))
    have h0 := hW.g.cell y1 (by simp)
    exact Zj (Zq hJ rfl (by rfl) rfl (by decide) (by decide) (Zeq _ (by decide)) (w' := w') (by simp [execOp, resolve, invoke, builtin, Act.eval, e23, h0, hft, hat, go_sem, sdv]) (Ju hW (by decide))) (fun a9 w9 h9 => ⟨b8, b9, h9⟩)
  · have e22 : a1.tmps.getD 22 undef = .slice (some ⟨b', o', none⟩) c.length cc := (hJ.sl 6 (by decide) (Zb hi 6 (by kernel_rfl)) (by decide))
    have e24 : a1.tmps.getD 24 undef = .int .i64 at_ := (hJ.sl 8 (by decide) (Zb hi 8 (by kernel_rfl)) (by decide))
    exact Zj (Zq hJ rfl (by rfl) rfl (by decide) (by decide) (Zeq _ (by decide)) (w' := w') (by first | (simp [execOp, resolve, invoke, builtin, Act.eval, e22, e24, hft, hat, go_sem, sdv]; done) | (simp [execOp, resolve, invoke, builtin, Act.eval, e22, e24, hft, hat, go_sem, sdv]; omega) | (simp [execOp, resolve, invoke, builtin, Act.eval, e22, e24, hft, hat, go_sem, sdv]; intro h; omega) | (simp [execOp, resolve, invoke, builtin, Act.eval, e22, e24, hft, hat, go_sem, sdv]; intros; omega)) (Ju hW (by decide))) (fun a9 w9 h9 => ⟨b8, b9, h9⟩)
  · have e25 : a1.tmps.getD 25 undef = .pointer (some ⟨b', o' + at_ * 2, none⟩) := (hJ.sl 9 (by decide) (Zb hi 9 (by kernel_rfl)) (by decide))
    have h0 := hW.g.cell d0 (by simp)
    have h1 := hW.g.cell d1 (by simp)
    exact Zj (Zq hJ rfl (by rfl) rfl (by decide) (by decide) (Zeq _ (by decide)) (w' := w') (by simp [execOp, resolve, invoke, builtin, Act.eval, e25, h0, h1, hft, hat, go_sem, sdv]) (Ju hW (by decide))) (fun a9 w9 h9 => ⟨b8, b9, h9⟩)
  · have e3 : a1.tmps.getD 3 undef = .pointer (some ⟨n0, 0, none⟩) := hJ.un 3 (fun i hi _ => Ztk 3 (by decide) i hi)
    exact Zj (Zq hJ rfl (by rfl) rfl (by decide) (by decide) (Zeq _ (by decide)) (w' := w') (by simp [execOp, resolve, invoke, builtin, Act.eval, e3, hft, hat, go_sem, sdv]) (Ju hW (by decide))) (fun a9 w9 h9 => ⟨b8, b9, h9⟩)
  · have e27 : a1.tmps.getD 27 undef = .pointer (some ⟨n0, 2, none⟩) := (hJ.sl 11 (by decide) (Zb hi 11 (by kernel_rfl)) (by decide))
    have h0 := hW.g.cell x2 (by simp)
    exact Zj (Zq hJ rfl (by rfl) rfl (by decide) (by decide) (Zeq _ (by decide)) (w' := w') (by simp [execOp, resolve, invoke, builtin, Act.eval, e27, h0, hft, hat, go_sem, sdv]) (Ju hW (by decide))) (fun a9 w9 h9 => ⟨b8, b9, h9⟩)
  · have e4 : a1.tmps.getD 4 undef = .pointer (some ⟨(n0 + 1), 0, none⟩) := hJ.un 4 (fun i hi _ => Ztk 4 (by decide) i hi)
    exact Zj (Zq hJ rfl (by rfl) rfl (by decide) (by decide) (Zeq _ (by decide)) (w' := w') (by simp [execOp, resolve, invoke, builtin, Act.eval, e4, hft, hat, go_sem, sdv]) (Ju hW (by decide))) (fun a9 w9 h9 => ⟨b8, b9, h9⟩)
  · have e29 : a1.tmps.getD 29 undef = .pointer (some ⟨(n0 + 1), 0, none⟩) := (hJ.sl 13 (by decide) (Zb hi 13 (by kernel_rfl)) (by decide))
    have h0 := hW.g.cell y0 (by simp)
    exact Zj (Zq hJ rfl (by rfl) rfl (by decide) (by decide) (Zeq _ (by decide)) (w' := w') (by simp [execOp, resolve, invoke, builtin, Act.eval, e29, h0, hft, hat, go_sem, sdv]) (Ju hW (by decide))) (fun a9 w9 h9 => ⟨b8, b9, h9⟩)
  · have e28 : a1.tmps.getD 28 undef = .slice (some ⟨b, o, none⟩) fs.length cF := (hJ.sl 12 (by decide) (Zb hi 12 (by kernel_rfl)) (by decide))
    have e30 : a1.tmps.getD 30 undef = .int .i64 f := (hJ.sl 14 (by decide) (Zb hi 14 (by kernel_rfl)) (by decide))
    exact Zj (Zq hJ rfl (by rfl) rfl (by decide) (by decide) (Zeq _ (by decide)) (w' := w') (by first | (simp [execOp, resolve, invoke, builtin, Act.eval, e28, e30, hft, hat, go_sem, sdv]; done) | (simp [execOp, resolve, invoke, builtin, Act.eval, e28, e30, hft, hat, go_sem, sdv]; omega) | (simp [execOp, resolve, invoke, builtin, Act.eval, e28, e30, hft, hat, go_sem, sdv]; intro h; omega) | (simp [execOp, resolve, invoke, builtin, Act.eval, e28, e30, hft, hat, go_sem, sdv]; intros; omega)) (Ju hW (by decide))) (fun a9 w9 h9 => ⟨b8, b9, h9⟩)
  · have e31 : a1.tmps.getD 31 undef = .pointer (some ⟨b, o + f * 4, none⟩) := (hJ.sl 15 (by decide) (Zb hi 15 (by kernel_rfl)) (by decide))
    have h0 := hW.g.cell c0 (by simp)
    have h1 := hW.g.cell c1 (by simp)
    have h2 := hW.g.cell c2 (by simp)
    have h3 := hW.g.cell c3 (by simp)
    exact Zj (Zq hJ rfl (by rfl) rfl (by decide) (by decide) (Zeq _ (by decide)) (w' := w') (by simp [execOp, resolve, invoke, builtin, Act.eval, e31, h0, h1, h2, h3, hft, hat, go_sem, sdv]) (Ju hW (by decide))) (fun a9 w9 h9 => ⟨b8, b9, h9⟩)
  · have hnl : l.getD 19 false = false := hW.no19 hun
    refine Xr rfl rfl (v := .pointer (some ⟨w'.heap.size, 0, none⟩)) (w' := w'.alloc (.cells zI 75)) (by simp [execOp, go_sem, zI]) ?_
    exact ⟨w'.heap.size, b9, Zfz (val := sdv n0 f at_ b o fs.length cF b' o' c.length cc w'.heap.size b9 op a ar lo r) (Zfy hJ (Xau l hun)) (by decide) (by decide) (Zeq _ (by decide)), Xcr hW hnl⟩
  · have hnl : l.getD 20 false = false := hW.no20 hun
    refine Xr rfl rfl (v := .pointer (some ⟨w'.heap.size, 0, none⟩)) (w' := w'.alloc (.cells zF 73)) (by simp [execOp, go_sem, zF]) ?_
    exact ⟨b8, w'.heap.size, Zfz (val := sdv n0 f at_ b o fs.length cF b' o' c.length cc b8 w'.heap.size op a ar lo r) (Zfy hJ (Xat l hun)) (by decide) (by decide) (Zeq _ (by decide)), Xcq hW hnl⟩
  · have h17 : l.getD 17 false = true := Zb hi 17 (by kernel_rfl)
    have e8 : a1.tmps.getD 8 undef = .pointer (some ⟨b8, 0, none⟩) := (hJ.sl 17 (by decide) h17 (by decide))
    have e26 : a1.tmps.getD 26 undef = .agg #[.int .i64 op, .int .i64 a] := (hJ.sl 10 (by decide) (Zb hi 10 (by kernel_rfl)) (by decide))
    have hbx := (hW.n8 h17).2
    rw [hun, if_neg (by decide)] at hbx
    have k0 := Cq _ _ 0 _ _ _ hbx
    have k1 := Cq _ _ 1 _ _ _ hbx
    have z0 := frozen_of_row _ _ 0 _ _ hbx
    have z1 := frozen_of_row _ _ 1 _ _ hbx
    refine Zcn rfl rfl rfl (w' := (w'.setCell ⟨b8, 0, none⟩ (.int .i64 op)).setCell ⟨b8, 1, none⟩ (.int .i64 a)) (by simp [execOp, Act.eval, e8, e26, k0, k1, z0, z1, go_sem, zI]) ?_
    exact ⟨b8, b9, Zin hJ (by decide) (by decide), Xaq hW h17 (Za (Zd _ _ _ _) (Zd _ _ _ _)) (by rw [Zh (Zh hbx)]; rfl)⟩
  · have h18 : l.getD 18 false = true := Zb hi 18 (by kernel_rfl)
    have e9 : a1.tmps.getD 9 undef = .pointer (some ⟨b9, 0, none⟩) := (hJ.sl 18 (by decide) h18 (by decide))
    have e32 : a1.tmps.getD 32 undef = .agg #[.int .i64 ar, .int .i64 lo, .int .i64 r, .slice (some ⟨b', o', none⟩) c.length cc] := (hJ.sl 16 (by decide) (Zb hi 16 (by kernel_rfl)) (by decide))
    have hbx := (hW.n9 h18).2
    rw [hun, if_neg (by decide)] at hbx
    have k0 := Cq _ _ 0 _ _ _ hbx
    have k1 := Cq _ _ 1 _ _ _ hbx
    have k2 := Cq _ _ 2 _ _ _ hbx
    have k3 := Cq _ _ 3 _ _ _ hbx
    have z0 := frozen_of_row _ _ 0 _ _ hbx
    have z1 := frozen_of_row _ _ 1 _ _ hbx
    have z2 := frozen_of_row _ _ 2 _ _ hbx
    have z3 := frozen_of_row _ _ 3 _ _ hbx
    refine Zcn rfl rfl rfl (w' := (((w'.setCell ⟨b9, 0, none⟩ (.int .i64 ar)).setCell ⟨b9, 1, none⟩ (.int .i64 lo)).setCell ⟨b9, 2, none⟩ (.int .i64 r)).setCell ⟨b9, 3, none⟩ (.slice (some ⟨b', o', none⟩) c.length cc)) (by simp [execOp, Act.eval, e9, e32, k0, k1, k2, k3, z0, z1, z2, z3, go_sem, zF]) ?_
    exact ⟨b8, b9, Zin hJ (by decide) (by decide), Xap hW h18 (Za (Za (Za (Zd _ _ _ _) (Zd _ _ _ _)) (Zd _ _ _ _)) (Zd _ _ _ _)) (by rw [Zh (Zh (Zh (Zh hbx)))]; rfl)⟩
 case fin =>
  intro l a1 w' hJJ hl
  obtain ⟨b8, b9, hJ, hW⟩ := hJJ
  have hput := Zei hJ rfl hl (fun i j h1 h2 h3 => Zeq j h2 i h1 h3)
  subst hput
  refine hK _ _ ?_
  simp only [Ja, sd, sdv, Act.put, List.setIfInBounds_toArray, List.set_cons_zero, List.set_cons_succ]
  clear hJ
  have g5 := hW.g
  have h8 := (hW.n8 (hl 17 (by decide))).2
  have h9 := (hW.n9 (hl 18 (by decide))).2
  rw [hl 19 (by decide), if_pos rfl] at h8
  rw [hl 20 (by decide), if_pos rfl] at h9
  unfold sI at h8
  unfold sF at h9
  clear hW hl
  have hb0 := Zc HB0.out g5 (by simp)
  have hb1 := Zc HB1.out g5 (by simp)
  have G5 := Hq (Za G2.out g5)
  have TT := Hq (T.out w' G5.out)
  clear c0 c1 c2 c3 d0 d1 x2 y0 y1 g5 hb2 hb2'
  have x0 := Cq _ _ 0 _ _ _ hb0
  have x1 := Cq _ _ 1 _ _ _ hb0
  have x2 := Cq _ _ 2 _ _ _ hb0
  have y0 := Cq _ _ 0 _ _ _ hb1
  have y1 := Cq _ _ 1 _ _ _ hb1
  have s0 := (Gs hb0)
  have s1 := (Gs hb1)
  have H8 := Hq h8
  have H9 := Hq h9
  have HB1' := Hq hb1
  clear hb0 hb1 h8 h9 HB0 HB1
  have hE0 : Zdy fs (ar, lo, r, c) at_ op a h = if op = 18 then (if h = r then (0, 0) else (138, 0)) else if h < (if op = 5 then a + 1 else tk) then (134, 0) else if 256 < h - tk + gk then (135, 0) else if (Ji op a at_).any (fun n => decide ((c.length : Int) <= n)) = true then (137, 0) else (0, h - tk + gk) := by unfold Zdy; rw [htk]
  have hret : op = 18 -> tk = r /\ gk = 0 := fun e => by
   have h1 := htk
   unfold Yq at h1
   rw [if_neg (by omega), if_pos e] at h1
   injection h1 with h1 h2
   exact ⟨h1.symm, h2.symm⟩
  have hgr : op = 18 -> Ji op a at_ = [] := fun e => by unfold Ji; rw [if_pos (Or.inr (Or.inr e))]
  have HE := Hq hE0
  have HR := Hq hret
  have HG := Hq hgr
  have HA := Hq ha5
  clear hE0 hret hgr htk T ha5
  have hL2 : ((Ji op a at_).length : Int) <= 2 := by have := Zgw op a at_; omega
  generalize Ji op a at_ = L at *
  by_cases h18 : op = 18
  · obtain ⟨rfl, rfl⟩ := HR.out h18
    have hE := HE.out
    rw [if_pos h18] at hE
    have hg0 := HG.out h18
    subst h18
    by_cases hr : h = tk
    · subst hr
      have hE2 : Zdy fs (ar, lo, h, c) at_ 18 a h = if L.any (fun n => decide ((c.length : Int) <= n)) = true then (137, 0) else (0, 0) := by rw [hE, if_pos rfl, hg0]; rfl
      clear hE hg0
      have hE := hE2
      clear hE2
      (
        have HEE := Hq hE
        clear hE
        (
          go_wp2_with (first
           | (go_at_call 94; refine TT.out.mono ?_; rintro e w3 ⟨rfl, hg3⟩; have G3 := Hq (Za G5.out hg3); have k8 := Zc H8.out hg3 (by simp); have k9 := Zc H9.out hg3 (by simp); have k1 := Zc HB1'.out hg3 (by simp); have p0 := Cq _ _ 0 _ _ _ k8; have p1 := Cq _ _ 1 _ _ _ k8; have r2 := Cq _ _ 2 _ _ _ k9; have r3 := Cq _ _ 3 _ _ _ k9; have t1 := Cq _ _ 1 _ _ _ k1; have sp8 := (Gs k8); have sp9 := (Gs k9); have sp1 := (Gs k1); clear x0 x1 x2 y0 y1 s0 s1 hg3 k8 k9 k1)
           | (go_at_call 57; refine (hgo.out _).mono ?_; rintro e w4 ⟨v4, rfl, hg4, ho4⟩; obtain ⟨p4, c4, hv4⟩ := Zm ho4; subst hv4; have G4 := Hq (Za G3.out hg4); have O4 := Hq ho4; replace r3 := hg4.cell r3 (by simp); replace sp9 : b9 < w4.heap.size := Nat.lt_of_lt_of_le sp9 hg4.size; clear p0 p1 r2 t1 sp8 sp1 hg4 ho4)))
        clear TT H8 H9 HB1' HR HG HE
        go_loopw [70] (fun i wr => wr = w4 /\ ∃ k : Nat, i = .int .i64 k /\ k <= L.length /\ ∀ j : Nat, j < k -> ∀ n, L[j]? = some n -> n < (c.length : Int)) (fun i _ => L.length - (intOf i).toNat)
        case atStart => exact ⟨rfl, 0, rfl, Nat.zero_le _, fun j hj => by omega⟩
        case round =>
         obtain ⟨rfl, k, rfl, hk, hno⟩ := hrel
         by_cases hlt : (k : Int) < (L.length : Int)
         · obtain ⟨n, hn⟩ : ∃ n, L[k]? = some n := ⟨_, List.getElem?_eq_getElem (by omega)⟩
           obtain ⟨g4, k4, e4, l4, cc4⟩ := Xa O4.out (by omega)
           injection e4 with e41 e42 e43
           subst e41
           have cn := cc4 k (.int .i64 n) (by rw [List.getElem?_map, hn]; rfl) (by omega)
           have HN := Hq hn
           have HO := Hq hno
           clear cc4 hn hno
           by_cases hge : (c.length : Int) <= n
           · have hy := Zyq HN.out hge
             have hE := HEE.out
             rw [if_pos hy] at hE
             have H2 := Hq hE
             clear hy hE
             go_wp2
             go_ret2
             rw [H2.out]
             exact ⟨rfl, G4.out⟩
           · go_wp2
             go_roundw
             case rel => exact ⟨(by first | rfl | trivial), k + 1, by go_num, by omega, fun j hj m hm => by
              by_cases e : j = k
              · subst e; rw [HN.out] at hm; injection hm with hm; omega
              · exact HO.out j (by omega) m hm⟩
             case measure => simp [intOf]; omega
         · have hn := Zyr (L := L) (m := (c.length : Int)) fun j hj => hno j (by omega)
           have hE := HEE.out
           rw [if_neg (by rw [hn]; exact Bool.false_ne_true)] at hE
           have H2 := Hq hE
           clear hn hno hE
           go_wp2
           go_ret2
           rw [H2.out]
           exact ⟨rfl, G4.out⟩)
    · have b1 : (h != tk) = true := by simpa using hr
      rw [if_neg hr] at hE
      clear hr
      (
        (
          go_wp2_with (first
           | (go_at_call 94; refine TT.out.mono ?_; rintro e w3 ⟨rfl, hg3⟩; have G3 := Hq (Za G5.out hg3); have k8 := Zc H8.out hg3 (by simp); have k9 := Zc H9.out hg3 (by simp); have k1 := Zc HB1'.out hg3 (by simp); have p0 := Cq _ _ 0 _ _ _ k8; have p1 := Cq _ _ 1 _ _ _ k8; have r2 := Cq _ _ 2 _ _ _ k9; have r3 := Cq _ _ 3 _ _ _ k9; have t1 := Cq _ _ 1 _ _ _ k1; have sp8 := (Gs k8); have sp9 := (Gs k9); have sp1 := (Gs k1); clear x0 x1 x2 y0 y1 s0 s1 hg3 k8 k9 k1)
           | (go_at_call 57; refine (hgo.out _).mono ?_; rintro e w4 ⟨v4, rfl, hg4, ho4⟩; obtain ⟨p4, c4, hv4⟩ := Zm ho4; subst hv4; have G4 := Hq (Za G3.out hg4); have O4 := Hq ho4; replace r3 := hg4.cell r3 (by simp); replace sp9 : b9 < w4.heap.size := Nat.lt_of_lt_of_le sp9 hg4.size; clear p0 p1 r2 t1 sp8 sp1 hg4 ho4)))
        go_ret2
        rw [hE]
        exact ⟨rfl, G3.out⟩)
  · have hE := HE.out
    rw [if_neg h18] at hE
    have b18 : (op == 18) = false := beq_eq_false_iff_ne.2 h18
    by_cases h5 : op = 5
    · obtain ⟨a50, a51⟩ := HA.out h5
      rw [if_pos h5] at hE
      subst h5
      clear h18
      by_cases hw : h < a + 1
      · rw [if_pos hw] at hE
        (
          (
            go_wp2_with (first
             | (go_at_call 94; refine TT.out.mono ?_; rintro e w3 ⟨rfl, hg3⟩; have G3 := Hq (Za G5.out hg3); have k8 := Zc H8.out hg3 (by simp); have k9 := Zc H9.out hg3 (by simp); have k1 := Zc HB1'.out hg3 (by simp); have p0 := Cq _ _ 0 _ _ _ k8; have p1 := Cq _ _ 1 _ _ _ k8; have r2 := Cq _ _ 2 _ _ _ k9; have r3 := Cq _ _ 3 _ _ _ k9; have t1 := Cq _ _ 1 _ _ _ k1; have sp8 := (Gs k8); have sp9 := (Gs k9); have sp1 := (Gs k1); clear x0 x1 x2 y0 y1 s0 s1 hg3 k8 k9 k1)
             | (go_at_call 57; refine (hgo.out _).mono ?_; rintro e w4 ⟨v4, rfl, hg4, ho4⟩; obtain ⟨p4, c4, hv4⟩ := Zm ho4; subst hv4; have G4 := Hq (Za G3.out hg4); have O4 := Hq ho4; replace r3 := hg4.cell r3 (by simp); replace sp9 : b9 < w4.heap.size := Nat.lt_of_lt_of_le sp9 hg4.size; clear p0 p1 r2 t1 sp8 sp1 hg4 ho4)))
          go_ret2
          rw [hE]
          exact ⟨rfl, G3.out⟩)
      · rw [if_neg hw] at hE
        by_cases hb : 256 < h - tk + gk
        · rw [if_pos hb] at hE
          (
            (
              go_wp2_with (first
               | (go_at_call 94; refine TT.out.mono ?_; rintro e w3 ⟨rfl, hg3⟩; have G3 := Hq (Za G5.out hg3); have k8 := Zc H8.out hg3 (by simp); have k9 := Zc H9.out hg3 (by simp); have k1 := Zc HB1'.out hg3 (by simp); have p0 := Cq _ _ 0 _ _ _ k8; have p1 := Cq _ _ 1 _ _ _ k8; have r2 := Cq _ _ 2 _ _ _ k9; have r3 := Cq _ _ 3 _ _ _ k9; have t1 := Cq _ _ 1 _ _ _ k1; have sp8 := (Gs k8); have sp9 := (Gs k9); have sp1 := (Gs k1); clear x0 x1 x2 y0 y1 s0 s1 hg3 k8 k9 k1)
               | (go_at_call 57; refine (hgo.out _).mono ?_; rintro e w4 ⟨v4, rfl, hg4, ho4⟩; obtain ⟨p4, c4, hv4⟩ := Zm ho4; subst hv4; have G4 := Hq (Za G3.out hg4); have O4 := Hq ho4; replace r3 := hg4.cell r3 (by simp); replace sp9 : b9 < w4.heap.size := Nat.lt_of_lt_of_le sp9 hg4.size; clear p0 p1 r2 t1 sp8 sp1 hg4 ho4)))
            go_ret2
            rw [hE]
            exact ⟨rfl, G3.out⟩)
        · rw [if_neg hb] at hE
          (
            have HEE := Hq hE
            clear hE
            (
              go_wp2_with (first
               | (go_at_call 94; refine TT.out.mono ?_; rintro e w3 ⟨rfl, hg3⟩; have G3 := Hq (Za G5.out hg3); have k8 := Zc H8.out hg3 (by simp); have k9 := Zc H9.out hg3 (by simp); have k1 := Zc HB1'.out hg3 (by simp); have p0 := Cq _ _ 0 _ _ _ k8; have p1 := Cq _ _ 1 _ _ _ k8; have r2 := Cq _ _ 2 _ _ _ k9; have r3 := Cq _ _ 3 _ _ _ k9; have t1 := Cq _ _ 1 _ _ _ k1; have sp8 := (Gs k8); have sp9 := (Gs k9); have sp1 := (Gs k1); clear x0 x1 x2 y0 y1 s0 s1 hg3 k8 k9 k1)
               | (go_at_call 57; refine (hgo.out _).mono ?_; rintro e w4 ⟨v4, rfl, hg4, ho4⟩; obtain ⟨p4, c4, hv4⟩ := Zm ho4; subst hv4; have G4 := Hq (Za G3.out hg4); have O4 := Hq ho4; replace r3 := hg4.cell r3 (by simp); replace sp9 : b9 < w4.heap.size := Nat.lt_of_lt_of_le sp9 hg4.size; clear p0 p1 r2 t1 sp8 sp1 hg4 ho4)))
            clear TT H8 H9 HB1' HR HG HE
            go_loopw [70] (fun i wr => wr = w4 /\ ∃ k : Nat, i = .int .i64 k /\ k <= L.length /\ ∀ j : Nat, j < k -> ∀ n, L[j]? = some n -> n < (c.length : Int)) (fun i _ => L.length - (intOf i).toNat)
            case atStart => exact ⟨rfl, 0, rfl, Nat.zero_le _, fun j hj => by omega⟩
            case round =>
             obtain ⟨rfl, k, rfl, hk, hno⟩ := hrel
             by_cases hlt : (k : Int) < (L.length : Int)
             · obtain ⟨n, hn⟩ : ∃ n, L[k]? = some n := ⟨_, List.getElem?_eq_getElem (by omega)⟩
               obtain ⟨g4, k4, e4, l4, cc4⟩ := Xa O4.out (by omega)
               injection e4 with e41 e42 e43
               subst e41
               have cn := cc4 k (.int .i64 n) (by rw [List.getElem?_map, hn]; rfl) (by omega)
               have HN := Hq hn
               have HO := Hq hno
               clear cc4 hn hno
               by_cases hge : (c.length : Int) <= n
               · have hy := Zyq HN.out hge
                 have hE := HEE.out
                 rw [if_pos hy] at hE
                 have H2 := Hq hE
                 clear hy hE
                 go_wp2
                 go_ret2
                 rw [H2.out]
                 exact ⟨rfl, G4.out⟩
               · go_wp2
                 go_roundw
                 case rel => exact ⟨(by first | rfl | trivial), k + 1, by go_num, by omega, fun j hj m hm => by
                  by_cases e : j = k
                  · subst e; rw [HN.out] at hm; injection hm with hm; omega
                  · exact HO.out j (by omega) m hm⟩
                 case measure => simp [intOf]; omega
             · have hn := Zyr (L := L) (m := (c.length : Int)) fun j hj => hno j (by omega)
               have hE := HEE.out
               rw [if_neg (by rw [hn]; exact Bool.false_ne_true)] at hE
               have H2 := Hq hE
               clear hn hno hE
               go_wp2
               go_ret2
               rw [H2.out]
               exact ⟨rfl, G4.out⟩)
    · have b5 : (op == 5) = false := beq_eq_false_iff_ne.2 h5
      rw [if_neg h5] at hE
      clear h18 h5
      by_cases hw : h < tk
      · rw [if_pos hw] at hE
        (
          (
            go_wp2_with (first
             | (go_at_call 94; refine TT.out.mono ?_; rintro e w3 ⟨rfl, hg3⟩; have G3 := Hq (Za G5.out hg3); have k8 := Zc H8.out hg3 (by simp); have k9 := Zc H9.out hg3 (by simp); have k1 := Zc HB1'.out hg3 (by simp); have p0 := Cq _ _ 0 _ _ _ k8; have p1 := Cq _ _ 1 _ _ _ k8; have r2 := Cq _ _ 2 _ _ _ k9; have r3 := Cq _ _ 3 _ _ _ k9; have t1 := Cq _ _ 1 _ _ _ k1; have sp8 := (Gs k8); have sp9 := (Gs k9); have sp1 := (Gs k1); clear x0 x1 x2 y0 y1 s0 s1 hg3 k8 k9 k1)
             | (go_at_call 57; refine (hgo.out _).mono ?_; rintro e w4 ⟨v4, rfl, hg4, ho4⟩; obtain ⟨p4, c4, hv4⟩ := Zm ho4; subst hv4; have G4 := Hq (Za G3.out hg4); have O4 := Hq ho4; replace r3 := hg4.cell r3 (by simp); replace sp9 : b9 < w4.heap.size := Nat.lt_of_lt_of_le sp9 hg4.size; clear p0 p1 r2 t1 sp8 sp1 hg4 ho4)))
          go_ret2
          rw [hE]
          exact ⟨rfl, G3.out⟩)
      · rw [if_neg hw] at hE
        by_cases hb : 256 < h - tk + gk
        · rw [if_pos hb] at hE
          (
            (
              go_wp2_with (first
               | (go_at_call 94; refine TT.out.mono ?_; rintro e w3 ⟨rfl, hg3⟩; have G3 := Hq (Za G5.out hg3); have k8 := Zc H8.out hg3 (by simp); have k9 := Zc H9.out hg3 (by simp); have k1 := Zc HB1'.out hg3 (by simp); have p0 := Cq _ _ 0 _ _ _ k8; have p1 := Cq _ _ 1 _ _ _ k8; have r2 := Cq _ _ 2 _ _ _ k9; have r3 := Cq _ _ 3 _ _ _ k9; have t1 := Cq _ _ 1 _ _ _ k1; have sp8 := (Gs k8); have sp9 := (Gs k9); have sp1 := (Gs k1); clear x0 x1 x2 y0 y1 s0 s1 hg3 k8 k9 k1)
               | (go_at_call 57; refine (hgo.out _).mono ?_; rintro e w4 ⟨v4, rfl, hg4, ho4⟩; obtain ⟨p4, c4, hv4⟩ := Zm ho4; subst hv4; have G4 := Hq (Za G3.out hg4); have O4 := Hq ho4; replace r3 := hg4.cell r3 (by simp); replace sp9 : b9 < w4.heap.size := Nat.lt_of_lt_of_le sp9 hg4.size; clear p0 p1 r2 t1 sp8 sp1 hg4 ho4)))
            go_ret2
            rw [hE]
            exact ⟨rfl, G3.out⟩)
        · rw [if_neg hb] at hE
          (
            have HEE := Hq hE
            clear hE
            (
              go_wp2_with (first
               | (go_at_call 94; refine TT.out.mono ?_; rintro e w3 ⟨rfl, hg3⟩; have G3 := Hq (Za G5.out hg3); have k8 := Zc H8.out hg3 (by simp); have k9 := Zc H9.out hg3 (by simp); have k1 := Zc HB1'.out hg3 (by simp); have p0 := Cq _ _ 0 _ _ _ k8; have p1 := Cq _ _ 1 _ _ _ k8; have r2 := Cq _ _ 2 _ _ _ k9; have r3 := Cq _ _ 3 _ _ _ k9; have t1 := Cq _ _ 1 _ _ _ k1; have sp8 := (Gs k8); have sp9 := (Gs k9); have sp1 := (Gs k1); clear x0 x1 x2 y0 y1 s0 s1 hg3 k8 k9 k1)
               | (go_at_call 57; refine (hgo.out _).mono ?_; rintro e w4 ⟨v4, rfl, hg4, ho4⟩; obtain ⟨p4, c4, hv4⟩ := Zm ho4; subst hv4; have G4 := Hq (Za G3.out hg4); have O4 := Hq ho4; replace r3 := hg4.cell r3 (by simp); replace sp9 : b9 < w4.heap.size := Nat.lt_of_lt_of_le sp9 hg4.size; clear p0 p1 r2 t1 sp8 sp1 hg4 ho4)))
            clear TT H8 H9 HB1' HR HG HE
            go_loopw [70] (fun i wr => wr = w4 /\ ∃ k : Nat, i = .int .i64 k /\ k <= L.length /\ ∀ j : Nat, j < k -> ∀ n, L[j]? = some n -> n < (c.length : Int)) (fun i _ => L.length - (intOf i).toNat)
            case atStart => exact ⟨rfl, 0, rfl, Nat.zero_le _, fun j hj => by omega⟩
            case round =>
             obtain ⟨rfl, k, rfl, hk, hno⟩ := hrel
             by_cases hlt : (k : Int) < (L.length : Int)
             · obtain ⟨n, hn⟩ : ∃ n, L[k]? = some n := ⟨_, List.getElem?_eq_getElem (by omega)⟩
               obtain ⟨g4, k4, e4, l4, cc4⟩ := Xa O4.out (by omega)
               injection e4 with e41 e42 e43
               subst e41
               have cn := cc4 k (.int .i64 n) (by rw [List.getElem?_map, hn]; rfl) (by omega)
               have HN := Hq hn
               have HO := Hq hno
               clear cc4 hn hno
               by_cases hge : (c.length : Int) <= n
               · have hy := Zyq HN.out hge
                 have hE := HEE.out
                 rw [if_pos hy] at hE
                 have H2 := Hq hE
                 clear hy hE
                 go_wp2
                 go_ret2
                 rw [H2.out]
                 exact ⟨rfl, G4.out⟩
               · go_wp2
                 go_roundw
                 case rel => exact ⟨(by first | rfl | trivial), k + 1, by go_num, by omega, fun j hj m hm => by
                  by_cases e : j = k
                  · subst e; rw [HN.out] at hm; injection hm with hm; omega
                  · exact HO.out j (by omega) m hm⟩
                 case measure => simp [intOf]; omega
             · have hn := Zyr (L := L) (m := (c.length : Int)) fun j hj => hno j (by omega)
               have hE := HEE.out
               rw [if_neg (by rw [hn]; exact Bool.false_ne_true)] at hE
               have H2 := Hq hE
               clear hn hno hE
               go_wp2
               go_ret2
               rw [H2.out]
               exact ⟨rfl, G4.out⟩)
end Go.Proofs.Ytecaolkbllbokaa.CK
