import Derived.Test.YtecaolkbllbokaaMT29
import Derived.Test.YtecaolkbllbokaaMT26
import Derived.Test.YtecaolkbllbokaaMT30
import Derived.Deep.OwnRows
import Derived.Test.YtecaolkbllbokaaMT23
import Derived.Maps.AppendAt
import Derived.Deep.Cut
import Derived.Outline
set_option linter.unusedSimpArgs false
set_option linter.unusedVariables false
set_option maxRecDepth 100000
set_option maxHeartbeats 16000000
namespace Go.Proofs.Ytecaolkbllbokaa.CK
open Go.RowKit Go.Great
def lm : Nat -> Nat
 | 0 => 27
 | 1 => 28
 | 2 => 29
 | 3 => 30
 | 4 => 31
 | 5 => 32
 | 6 => 8
 | 7 => 9
 | 8 => 1008
 | 9 => 1009
 | _ => 5000
theorem Zrv : ∀ i, i < 10 -> ∀ j, j < 10 -> j ≠ i -> lm j ≠ lm i := by decide
theorem Yyh (i : Nat) (h : i < 10) : i = 0 \/ i = 1 \/ i = 2 \/ i = 3 \/ i = 4 \/ i = 5 \/ i = 6 \/ i = 7 \/ i = 8 \/ i = 9 := by omega
theorem Yyi (j : Nat) (hj : j ∈ [5]) : ∀ i, i < 10 -> lm i ≠ j := by revert j; decide
def lmv (gh n : Nat) (blk : Nat -> Nat) : Nat -> Value
 | 0 => .slice (some ⟨gh, 0, none⟩) n n
 | 1 => .int .i64 n
 | 2 => .slice (some ⟨blk 2, 0, none⟩) n n
 | 3 => .slice (some ⟨gh, 0, none⟩) n n
 | 4 => .int .i64 n
 | 5 => .slice (some ⟨blk 5, 0, none⟩) n n
 | 6 => .pointer (some ⟨blk 6, 0, none⟩)
 | 7 => .pointer (some ⟨blk 7, 0, none⟩)
 | _ => undef
def lmo (n : Nat) (blk : Nat -> Nat) (l : Array Bool) : Nat -> Obj
 | 6 => .cells (if l.getD 8 false = true then #[.slice (some ⟨blk 2, 0, none⟩) n n] else #[.slice none 0 0]) 47
 | 7 => .cells (if l.getD 9 false = true then #[.slice (some ⟨blk 5, 0, none⟩) n n] else #[.slice none 0 0]) 47
 | _ => .cells (madeCells #[.int .i64 0] n) 3
abbrev LMB (gh n : Nat) (W : World) (blk : Nat -> Nat) (l : Array Bool) (w : World) : Prop := MB 10 [2, 5, 6, 7] [(8, 2), (8, 6), (9, 5), (9, 7)] W blk (lmo n) l w
theorem Xcm {l : Array Bool} {i : Nat} (h8 : i ≠ 8) (h9 : i ≠ 9) : ∀ p ∈ [(8, 2), (8, 6), (9, 5), (9, 7)], p.1 = i -> l.getD p.2 false = true := by
 intro p hp e
 simp at hp
 rcases hp with rfl | rfl | rfl | rfl <;> simp at e <;> omega
theorem Xbm {l : Array Bool} (h2 : l.getD 2 false = true) (h6 : l.getD 6 false = true) : ∀ p ∈ [(8, 2), (8, 6), (9, 5), (9, 7)], p.1 = 8 -> l.getD p.2 false = true := by
 intro p hp e
 simp only [List.mem_cons, List.not_mem_nil, or_false] at hp
 rcases hp with rfl | rfl | rfl | rfl <;> simp only [] at e ⊢
 · exact h2
 · exact h6
 · omega
 · omega
theorem Xbl {l : Array Bool} (h2 : l.getD 5 false = true) (h6 : l.getD 7 false = true) : ∀ p ∈ [(8, 2), (8, 6), (9, 5), (9, 7)], p.1 = 9 -> l.getD p.2 false = true := by
 intro p hp e
 simp only [List.mem_cons, List.not_mem_nil, or_false] at hp
 rcases hp with rfl | rfl | rfl | rfl <;> simp only [] at e ⊢
 · omega
 · omega
 · exact h2
 · exact h6
theorem Zrt {n i k : Nat} {blk : Nat -> Nat} {l : Array Bool} (hs : l.size = 10) (hi : i < 10) (h8 : i ≠ 8) (h9 : i ≠ 9) : lmo n blk (l.setIfInBounds i true) k = lmo n blk l k := by
 unfold lmo
 rw [Zw l i 8 (by omega), if_neg (Ne.symm h8), Zw l i 9 (by omega), if_neg (Ne.symm h9)]
theorem Yhi {n i k v : Nat} {blk : Nat -> Nat} {l : Array Bool} (h8 : l.getD 8 false = true -> i ≠ 2) (h9 : l.getD 9 false = true -> i ≠ 5) : lmo n (Yei blk i v) l k = lmo n blk l k := by
 unfold lmo
 split
 · by_cases e : l.getD 8 false = true
   · rw [if_pos e, if_pos e, Zbh (Ne.symm (h8 e))]
   · rw [if_neg e, if_neg e]
 · by_cases e : l.getD 9 false = true
   · rw [if_pos e, if_pos e, Zbh (Ne.symm (h9 e))]
   · rw [if_neg e, if_neg e]
 · rfl
theorem Ymv {gh n : Nat} {W w : World} {blk : Nat -> Nat} {l : Array Bool} (h : LMB gh n W blk l w) : (l.getD 8 false = true -> l.getD 2 false = true /\ l.getD 6 false = true) /\ (l.getD 9 false = true -> l.getD 5 false = true /\ l.getD 7 false = true) :=
 ⟨fun e => ⟨h.x (8, 2) (by simp) e, h.x (8, 6) (by simp) e⟩, fun e => ⟨h.x (9, 5) (by simp) e, h.x (9, 7) (by simp) e⟩⟩
theorem Zlw {gh n i : Nat} {W w : World} {blk : Nat -> Nat} {l : Array Bool} (h : LMB gh n W blk l w) (hi : i < 10) (hk : i ∉ [2, 5, 6, 7]) (h8 : i ≠ 8) (h9 : i ≠ 9) : LMB gh n W blk (l.setIfInBounds i true) w :=
 Yta h hi hk (Xcm h8 h9) fun k _ _ => Zrt h.sz hi h8 h9
theorem Yyg {gh n i : Nat} {W w : World} {blk : Nat -> Nat} {l : Array Bool} (h : LMB gh n W blk l w) (hun : l.getD i false = false) : (l.getD 8 false = true -> i ≠ 2) /\ (l.getD 9 false = true -> i ≠ 5) := by
 refine ⟨fun e e2 => ?_, fun e e2 => ?_⟩
 · subst e2; rw [((Ymv h).1 e).1] at hun; cases hun
 · subst e2; rw [((Ymv h).2 e).1] at hun; cases hun
theorem Zru {gh n i : Nat} {W w : World} {blk : Nat -> Nat} {l : Array Bool} {o : Obj} (h : LMB gh n W blk l w) (hi : i < 10) (hk : i ∈ [2, 5, 6, 7]) (hun : l.getD i false = false) (h8 : i ≠ 8) (h9 : i ≠ 9) (ho : lmo n blk l i = o) : LMB gh n W (Yei blk i w.heap.size) (l.setIfInBounds i true) (w.alloc o) := by
 have hne := Yyg h hun
 refine Yxo h hi hk (Xcm h8 h9) ?_ fun k _ _ _ => ?_
 · rw [Zrt h.sz hi h8 h9, Yhi hne.1 hne.2]; exact ho
 · rw [Zrt h.sz hi h8 h9, Yhi hne.1 hne.2]
theorem Xbk {gh n : Nat} {W w : World} {blk : Nat -> Nat} {l : Array Bool} (h : LMB gh n W blk l w) (hun : l.getD 6 false = false) : lmo n blk l 6 = .cells #[.slice none 0 0] 47 := by
 have : l.getD 8 false ≠ true := fun e => by rw [((Ymv h).1 e).2] at hun; cases hun
 unfold lmo; simp only []; rw [if_neg this]
theorem Xbj {gh n : Nat} {W w : World} {blk : Nat -> Nat} {l : Array Bool} (h : LMB gh n W blk l w) (hun : l.getD 7 false = false) : lmo n blk l 7 = .cells #[.slice none 0 0] 47 := by
 have : l.getD 9 false ≠ true := fun e => by rw [((Ymv h).2 e).2] at hun; cases hun
 unfold lmo; simp only []; rw [if_neg this]
theorem Zrs {gh n i v : Nat} {blk : Nat -> Nat} {l : Array Bool} (hun : l.getD i false = false) : ∀ k, k < 10 -> l.getD k false = true -> lm k < 211 -> lmv gh n (Yei blk i v) k = lmv gh n blk k := by
 intro k hk hl _
 have hki : k ≠ i := fun e => by subst e; rw [hun] at hl; cases hl
 rcases Yyh k hk with rfl | rfl | rfl | rfl | rfl | rfl | rfl | rfl | rfl | rfl <;> first | rfl | (unfold lmv; simp only []; rw [Zbh hki])
theorem Yal (n : Nat) (blk : Nat -> Nat) (l : Array Bool) : ∃ v, lmo n blk l 6 = .cells #[v] 47 := by
 unfold lmo; simp only []; split <;> exact ⟨_, rfl⟩
theorem Yak (n : Nat) (blk : Nat -> Nat) (l : Array Bool) : ∃ v, lmo n blk l 7 = .cells #[v] 47 := by
 unfold lmo; simp only []; split <;> exact ⟨_, rfl⟩
theorem Ytm {gh n : Nat} {W w : World} {blk : Nat -> Nat} {l : Array Bool} (h : LMB gh n W blk l w) (h2 : l.getD 2 false = true) (h6 : l.getD 6 false = true) :
 LMB gh n W blk (l.setIfInBounds 8 true) (w.setCell ⟨blk 6, 0, none⟩ (.slice (some ⟨blk 2, 0, none⟩) n n)) := by
 refine Yae (k := 6) h (by decide) (by decide) (by decide) h6 (Xbm h2 h6) (Zd _ _ _ _) ?_ fun j hj hne _ => ?_
 · obtain ⟨v, hv⟩ := Yal n blk l
   have hb := (h.b 6 (by decide) h6).2
   rw [hv] at hb
   rw [Zh hb]
   unfold lmo
   simp only []
   rw [Zw l 8 8 (by rw [h.sz]; decide), if_pos rfl, if_pos rfl]
   rfl
 · unfold lmo
   split
   · exact absurd rfl hne
   · rw [Zw l 8 9 (by rw [h.sz]; decide), if_neg (show ¬ 9 = 8 by decide)]
   · rfl
theorem Ytl {gh n : Nat} {W w : World} {blk : Nat -> Nat} {l : Array Bool} (h : LMB gh n W blk l w) (h2 : l.getD 5 false = true) (h6 : l.getD 7 false = true) :
 LMB gh n W blk (l.setIfInBounds 9 true) (w.setCell ⟨blk 7, 0, none⟩ (.slice (some ⟨blk 5, 0, none⟩) n n)) := by
 refine Yae (k := 7) h (by decide) (by decide) (by decide) h6 (Xbl h2 h6) (Zd _ _ _ _) ?_ fun j hj hne _ => ?_
 · obtain ⟨v, hv⟩ := Yak n blk l
   have hb := (h.b 7 (by decide) h6).2
   rw [hv] at hb
   rw [Zh hb]
   unfold lmo
   simp only []
   rw [Zw l 9 9 (by rw [h.sz]; decide), if_pos rfl, if_pos rfl]
   rfl
 · unfold lmo
   split
   · rw [Zw l 9 8 (by rw [h.sz]; decide), if_neg (show ¬ 8 = 9 by decide)]
   · exact absurd rfl hne
   · rfl
structure Yzp (n : Nat) (W w : World) (gn gb bn bb : Nat) : Prop where
 g : W.grownBy w none
 l1 : W.heap.size <= gn /\ gn < w.heap.size
 l2 : W.heap.size <= gb /\ gb < w.heap.size
 l3 : W.heap.size <= bn /\ bn < w.heap.size
 l4 : W.heap.size <= bb /\ bb < w.heap.size
 n1 : gn ≠ gb
 n2 : gn ≠ bn
 n3 : gn ≠ bb
 n4 : gb ≠ bn
 n5 : gb ≠ bb
 n6 : bn ≠ bb
 rn : w.ownsRow W.heap.size 3 1 (.slice (some ⟨gn, 0, none⟩) n n) n (Zfc (List.replicate n 0))
 rb : w.ownsRow W.heap.size 3 1 (.slice (some ⟨gb, 0, none⟩) n n) n (Zfc (List.replicate n 0))
 bn : Bx w bn 47 (.slice (some ⟨gn, 0, none⟩) n n)
 bb : Bx w bb 47 (.slice (some ⟨gb, 0, none⟩) n n)
theorem Zml {w : World} {g B n : Nat} (h : w.heap[g]? = some (.cells (madeCells #[.int .i64 0] n) 3)) (hb : B <= g) (hn : n <= maxLen) : w.ownsRow B 3 1 (.slice (some ⟨g, 0, none⟩) n n) n (Zfc (List.replicate n 0)) := by
 refine ⟨by simp [Zfc], .inr ⟨g, n, _, rfl, hb, h, Nat.le_refl _, hn, by simp [madeCells], ?_⟩⟩
 have e : (madeCells #[.int .i64 0] n).toList = List.replicate n (.int .i64 0) := by
  refine List.ext_getElem (by simp [madeCells]) fun i h1 h2 => ?_
  simp [madeCells, Nat.mod_one]
 rw [e]
 simp [Zfc]
theorem Ytn {gh n : Nat} {W w : World} {blk : Nat -> Nat} {l : Array Bool} (h : LMB gh n W blk l w) (hl : ∀ j, j < 10 -> l.getD j false = true) (hn : n <= maxLen) : Yzp n W w (blk 2) (blk 5) (blk 6) (blk 7) := by
 have b2 := h.b 2 (by decide) (hl 2 (by decide))
 have b5 := h.b 5 (by decide) (hl 5 (by decide))
 have b6 := h.b 6 (by decide) (hl 6 (by decide))
 have b7 := h.b 7 (by decide) (hl 7 (by decide))
 have lt : ∀ {b : Nat} {o : Obj}, w.heap[b]? = some o -> b < w.heap.size := fun h => (Gs h)
 have nn : ∀ i ∈ [2, 5, 6, 7], ∀ j ∈ [2, 5, 6, 7], i < 10 -> j < 10 -> i ≠ j -> blk i ≠ blk j := fun i hi j hj h1 h2 hij => h.d i hi j hj hij (hl i h1) (hl j h2)
 refine ⟨h.g, ⟨b2.1, lt b2.2⟩, ⟨b5.1, lt b5.2⟩, ⟨b6.1, lt b6.2⟩, ⟨b7.1, lt b7.2⟩, nn 2 (by decide) 5 (by decide) (by decide) (by decide) (by decide), nn 2 (by decide) 6 (by decide) (by decide) (by decide) (by decide),
  nn 2 (by decide) 7 (by decide) (by decide) (by decide) (by decide), nn 5 (by decide) 6 (by decide) (by decide) (by decide) (by decide), nn 5 (by decide) 7 (by decide) (by decide) (by decide) (by decide), nn 6 (by decide) 7 (by decide) (by decide) (by decide) (by decide),
  Zml b2.2 b2.1 hn, Zml b5.2 b5.1 hn, ?_, ?_⟩
 · have := b6.2
   unfold lmo at this
   simp only [] at this
   rw [if_pos (hl 8 (by decide))] at this
   exact this
 · have := b7.2
   unfold lmo at this
   simp only [] at this
   rw [if_pos (hl 9 (by decide))] at this
   exact this
def ls0 (n : Nat) : LS := ⟨List.replicate n 0, List.replicate n 0, List.replicate n false, List.replicate n false, [], [], 0⟩
def la0 (n0 gn gb bn bb s2 s3 s4 : Nat) : LA := ⟨n0, n0 + 1, n0 + 1 + 1, bn, bb, s3, s4, s4 + 1, s4 + 1 + 1, gn, gb, s2, s3 + 1⟩
def we0 (w4 : World) : World := ((w4.alloc (.cells #[.slice none 0 0] 47)).alloc (.cells #[.slice none 0 0] 137)).alloc (.cells #[.int .i64 0] 3)
theorem Ymn {w W w2 w3 w4 : World} {n gn gb bn bb f : Nat} {mem : Int} {vd vF vh : Value} (g3 : w.grownBy W none) (z3 : W.heap.size = w.heap.size + 3)
 (t1 : W.heap[w.heap.size]? = some (.cells #[.int .i64 mem, vd, vF] 32 (0, 0))) (t2 : W.heap[w.heap.size + 1]? = some (.cells #[.int .i64 f] 3 (0, 0))) (t3 : W.heap[w.heap.size + 1 + 1]? = some (.cells #[vh] 47 (0, 0)))
 (M : Yzp n W.drew w2 gn gb bn bb) (h3 : w2.grownBy w3 none) (h4 : (w3.alloc (.cells #[.slice (some ⟨w2.heap.size, 0, none⟩) n n] 55)).grownBy w4 none) (hs3 : w2.heap.size < w3.heap.size) (hs4 : w3.heap.size + 1 < w4.heap.size)
 (r3 : w3.ownsRow w.heap.size 4 1 (.slice (some ⟨w2.heap.size, 0, none⟩) n n) n (madeCells (Value.bool false).cells (n * 1)).toList)
 (r4 : w4.ownsRow w.heap.size 4 1 (.slice (some ⟨w3.heap.size + 1, 0, none⟩) n n) n (madeCells (Value.bool false).cells (n * 1)).toList) :
 LpW w (we0 w4).heap.size (la0 w.heap.size gn gb bn bb w2.heap.size w3.heap.size w4.heap.size) ⟨mem, vd, vF, f, vh, n⟩ (.slice none 0 0) (.slice none 0 0) (ls0 n) (we0 w4) := by
 have e1 : (madeCells (Value.bool false).cells (n * 1)).toList = (List.replicate n false).map Value.bool := by rw [Nat.mul_one]; exact (toList_madeCells_one _ _).trans (by rw [List.map_replicate])
 rw [e1] at r3 r4
 obtain ⟨mg, l1, l2, l3, l4, n1, n2, n3, n4, n5, n6, rn, rb, xn, xb⟩ := M
 have zd : W.drew.heap.size = w.heap.size + 3 := z3
 rw [zd] at l1 l2 l3 l4 rn rb
 have gWd : W.grownBy W.drew none := Zf (Ze W none)
 have gW2 := Za gWd mg
 have g33 := Ga w3 (.cells #[.slice (some ⟨w2.heap.size, 0, none⟩) n n] 55) none
 have g24 := Za h3 (Za g33 h4)
 have g4E : w4.grownBy (we0 w4) none := Zcf w4 _ _ _
 have g2E := Za g24 g4E
 have gWE := Za gW2 g2E
 have g3E := Za h4 g4E
 have hE : (we0 w4).heap.size = w4.heap.size + 3 := by simp [we0]
 have s4 := h4.size
 simp at s4
 have T := Zce w4 (.cells #[.slice none 0 0] 47) (.cells #[.slice none 0 0] 137) (.cells #[.int .i64 0] 3)
 have zs2 := mg.size
 rw [zd] at zs2
 refine ⟨Za g3 gWE, ?_, ?_, ?_, by rw [hE]; omega, Zc t1 gWE (by simp), Zc t2 gWE (by simp), Zc t3 gWE (by simp), Zc xn g2E (by simp), Zc xb g2E (by simp), ?_, T.1, T.2.1, T.2.2, ?_, ?_, ?_, ?_, World.ownsRow_nil _ _ _ _, World.ownsRow_nil _ _ _ _⟩
 · simp only [LA.all, la0, List.nodup_cons, List.mem_cons, List.not_mem_nil, or_false, not_or, List.nodup_nil, not_false_eq_true, and_true]
   omega
 · intro a ha
   simp only [LA.all, la0, List.mem_cons, List.not_mem_nil, or_false] at ha
   omega
 · intro a ha
   rw [hE]
   simp only [LA.all, la0, List.mem_cons, List.not_mem_nil, or_false] at ha
   omega
 · exact Zc (Zc (heap_alloc_new w3 _) h4 (by simp)) g4E (by simp)
 · exact Yr (rn.kept g2E (Classical.em _)) (by omega)
 · exact Yr (rb.kept g2E (Classical.em _)) (by omega)
 · exact r3.kept (Za g33 g3E) (Classical.em _)
 · exact r4.kept g4E (Classical.em _)
open Go.Maps
def Zwb (fs : List FnP) (cl : Nat -> List Nat) (V : List Bool) : Prop := V.length = fs.length /\ ∀ x, x < fs.length -> (V.getD x false = true ↔ CRe (Xw fs cl) 0 x)
theorem Yjo : Try.prog.underlying 55 = some (.slice 4) := by kernel_rfl
theorem Ydy : (Try.prog.info? 4).map (fun i => (i.zero, i.size, i.bytes)) = some (some (.bool false), 1, 1) := by kernel_rfl
theorem Ydk {w : World} {g B n : Nat} (h : w.heap[g]? = some (.cells (madeCells #[.bool false] n) 4 (0, 0))) (hb : B <= g) (hn : n <= maxLen) : w.ownsRow B 4 1 (.slice (some ⟨g, 0, none⟩) n n) n ((List.replicate n false).map Value.bool) := by
 refine ⟨by simp, .inr ⟨g, n, _, rfl, hb, h, Nat.le_refl _, hn, by simp [madeCells], ?_⟩⟩
 have e : (madeCells #[.bool false] n).toList = List.replicate n (.bool false) := by
  refine List.ext_getElem (by simp [madeCells]) fun i h1 h2 => ?_
  simp [madeCells, Nat.mod_one]
 rw [e]
 simp
theorem Yhk {n : Nat} (x : Nat) : (List.replicate n false).getD x false = false := by
 rw [List.getD_eq_getElem?_getD, List.getElem?_replicate]; split <;> rfl
theorem Yhf {w : World} {bx nf gH gT gL cH cT cL : Nat} (hx : w.heap[bx]? = some (.cells #[.slice (some ⟨gH, 0, none⟩) nf cH, .slice (some ⟨gT, 0, none⟩) nf cT, .slice (some ⟨gL, 0, none⟩) nf cL, .slice none 0 0, .int .i64 0, .int .i64 0] 57 (0, 0))) (hl : bx < w.heap.size) (hn : nf <= 64) :
 LvW w ((w.setCell ⟨bx, 3, none⟩ (.slice (some ⟨w.heap.size, 0, none⟩) nf nf)).alloc (.cells (madeCells #[.bool false] nf) 4)).drew bx w.heap.size nf (.slice (some ⟨gH, 0, none⟩) nf cH) (.slice (some ⟨gT, 0, none⟩) nf cT) (.slice (some ⟨gL, 0, none⟩) nf cL) (.int .i64 0) (.int .i64 0) (List.replicate nf false) := by
 have h1 := Zh (o := 3) (v := .slice (some ⟨w.heap.size, 0, none⟩) nf nf) hx
 have h2 := heap_alloc_new (w.setCell ⟨bx, 3, none⟩ (.slice (some ⟨w.heap.size, 0, none⟩) nf nf)) (.cells (madeCells #[.bool false] nf) 4)
 rw [World.size_setCell] at h2
 refine ⟨Zf (Za (Zd w bx 3 _) (Ga _ _ _)), Zc h1 (Zf (Ga _ _ none)) (by simp), ?_⟩
 exact Ydk (w := ((w.setCell ⟨bx, 3, none⟩ (.slice (some ⟨w.heap.size, 0, none⟩) nf nf)).alloc (.cells (madeCells #[.bool false] nf) 4)).drew) h2 (Nat.le_refl _) (by unfold maxLen; omega)
theorem Ycx {w0 w : World} {bx gV n : Nat} {x0 x1 x2 x4 x5 : Value} {V : List Bool} (H : LvW w0 w bx gV n x0 x1 x2 x4 x5 V) (hx : bx < w0.heap.size) (y4 y5 : Value) :
 LvW w0 ((w.setCell ⟨bx, 4, none⟩ y4).setCell ⟨bx, 5, none⟩ y5).drew bx gV n x0 x1 x2 y4 y5 V /\ LvW w0 ((w.setCell ⟨bx, 5, none⟩ y5).setCell ⟨bx, 4, none⟩ y4).drew bx gV n x0 x1 x2 y4 y5 V := by
 have hl := Yai H
 have nn : (Value.slice (some ⟨gV, 0, none⟩) n n).ownBlock = none \/ (Value.slice (some ⟨gV, 0, none⟩) n n).ownBlock ≠ some bx := Or.inr (fun e => by simp only [Value.ownBlock] at e; injection e with e; omega)
 exact ⟨⟨Zf (Za H.g (Za (Zd w bx 4 y4) (Zd _ bx 5 y5))), Zh (Zh H.xc), (H.r.kept (Zd w bx 4 y4) nn).kept (Zf (Zd _ bx 5 y5)) nn⟩,
  ⟨Zf (Za H.g (Za (Zd w bx 5 y5) (Zd _ bx 4 y4))), Zh (Zh H.xc), (H.r.kept (Zd w bx 5 y5) nn).kept (Zf (Zd _ bx 4 y4)) nn⟩⟩
theorem Zpu {w0 : World} {bw bx bm B : Nat} {mem : Int} {pd : Option Addr} {nd cd : Nat} {pF : Option Addr} {cF : Nat} {fs : List FnP} {cl : Nat -> List Nat} {V : List Bool} (hl : V.length = fs.length) (h0 : V.getD 0 false = true)
 (hc : ∀ x, x < fs.length -> V.getD x false = true -> (List.replicate fs.length false).getD x false = false -> ∀ y ∈ Xw fs cl x, V.getD y false = true) (hr : ∀ x, x < fs.length -> V.getD x false = true -> (List.replicate fs.length false).getD x false = false -> CRe (Xw fs cl) 0 x) (S : St w0 bw bx bm B mem pd nd cd pF cF fs cl) : Zwb fs cl V := by
 have key : ∀ x, CRe (Xw fs cl) 0 x -> V.getD x false = true := by
  intro x h
  induction h with
  | refl => exact h0
  | step _ hy ih =>
    rename_i x y hx
    have hxl : x < fs.length := by
     rcases Nat.lt_or_ge x fs.length with h | h
     · exact h
     · unfold Xw at hy
       rw [List.getElem?_eq_none h] at hy
       cases hy
    exact hc x hxl ih (Yhk x) y hy
 exact ⟨hl, fun x hx => ⟨fun h => hr x hx h (Yhk x), key x⟩⟩
theorem Yon {fs : List FnP} {cl : Nat -> List Nat} {V : List Bool} {U : List Int} {fin : List Nat} (hc : ∀ x, x < fs.length -> V.getD x false = true -> (List.replicate fs.length false).getD x false = false -> ∀ y ∈ Xw fs cl x, V.getD y false = true)
 (h0 : V.getD 0 false = true) (hd : ∀ f : Nat, f < fs.length -> V.getD f false = true -> f ∈ fin) (hI : Yeh fs cl U fin) (hn : 1 <= fs.length) :
 Zsw (Xw fs cl) (fin.filter fun x => V.getD x false) /\ 0 ∈ fin.filter (fun x => V.getD x false) /\ (∀ x ∈ fin.filter (fun x => V.getD x false), x < fs.length /\ V.getD x false = true) /\ (fin.filter fun x => V.getD x false).length <= fs.length := by
 refine ⟨Zle hI.1 fun x hx hv y hy => hc x (hI.2.2.1 x hx) hv (Yhk x) y hy, List.mem_filter.2 ⟨hd 0 (by omega) h0, h0⟩, fun x hx => ⟨hI.2.2.1 x (List.mem_filter.1 hx).1, (List.mem_filter.1 hx).2⟩, ?_⟩
 exact Nat.le_trans (List.length_filter_le _ _) (Zrl _ _ hI.2.2.2 hI.2.2.1)
theorem Yhj {n : Nat} (x : Nat) : (List.replicate n (0 : Int)).getD x 0 = 0 := by
 rw [List.getD_eq_getElem?_getD, List.getElem?_replicate]; split <;> rfl
theorem Yyf (w : World) (bw bx bm B : Nat) (mem : Int) (pd : Option Addr) (nd cd : Nat) (pF : Option Addr) (cF : Nat) (fs : List FnP) (cl : Nat -> List Nat) (S : St w bw bx bm B mem pd nd cd pF cF fs cl) (hok : Zvy fs) (gH gT gL cH cT cL : Nat) (hs : Nat -> List Int) (tops : Nat -> Int) (ln : Nat -> Nat)
 (S2 : St2 w bx gH gT fs hs tops) (HL : Zsu w bx gL fs.length ln) (HO : Yvq fs hs cl ln)
 (hx : w.heap[bx]? = some (.cells #[.slice (some ⟨gH, 0, none⟩) fs.length cH, .slice (some ⟨gT, 0, none⟩) fs.length cT, .slice (some ⟨gL, 0, none⟩) fs.length cL, .slice none 0 0, .int .i64 0, .int .i64 0] 57 (0, 0)))
 (a : Act) (ha : Xaa bw fs.length a) (K : Act -> World -> Prop) (hK : ∀ a w', Code.wp Try.prog (Zzo Try.f40 11) (bodyPost Try.prog Try.f40 (Zdd w bx fs.length (.slice (some ⟨gH, 0, none⟩) fs.length cH) (.slice (some ⟨gT, 0, none⟩) fs.length cT) (.slice (some ⟨gL, 0, none⟩) fs.length cL) (Zwb fs cl))) a w' -> K a w') :
 Code.wp Try.prog (Ycb Try.f40 11) (Exit.then K (bodyPost Try.prog Try.f40 (Zdd w bx fs.length (.slice (some ⟨gH, 0, none⟩) fs.length cH) (.slice (some ⟨gT, 0, none⟩) fs.length cT) (.slice (some ⟨gL, 0, none⟩) fs.length cL) (Zwb fs cl)))) a w := by
 rw [Yhn ha]
 generalize (fun i => a.tmps.getD i undef) = t
 clear ha
 have SS := Hq S
 have SS2 := Hq S2
 have HLL := Hq HL
 have HOO := Hq HO
 have OK := Hq hok
 have HX := Hq hx
 have hlx := S.lx
 have hne := S.ne1
 have b3 := Cq _ _ 3 _ _ _ S.bwc
 have s1 := (Gs S.bwc)
 have j3 := Cq _ _ 3 _ _ _ hx
 have z3 := frozen_of_row _ _ 3 _ _ hx
 have h64 := S.nf
 have hn1 := hok.n1
 have hmk := run_make_row' (P := Try.prog) 55 4 (.bool false) 1 Yjo Ydy rfl .i64 .i64 fs.length (by omega) (by omega)
 have m1 := World.new_ne w ⟨bw, 3, none⟩ b3
 have m2 := World.new_ne w ⟨bx, 3, none⟩ j3
 have LV := Yhf hx hlx h64
 have c3b := Cq _ _ 3 _ _ _ (Zc SS.out.bwc LV.g (by intro e; injection e with e; exact hne e.symm))
 have HLV := Hq LV
 clear S S2 HL HO hok hx LV
 unfold lkF
 generalize t 1 = u, t 3 = u, t 4 = u, t 5 = u, t 6 = u, t 7 = u, t 8 = u, t 9 = u, t 10 = u, t 11 = u, t 12 = u, t 13 = u, t 14 = u, t 15 = u, t 16 = u, t 17 = u, t 18 = u, t 19 = u, t 20 = u, t 21 = u, t 22 = u, t 23 = u, t 24 = u, t 25 = u, t 26 = u, t 27 = u, t 28 = u, t 29 = u, t 30 = u, t 31 = u, t 32 = u, t 33 = u, t 34 = u, t 35 = u, t 36 = u, t 37 = u, t 38 = u, t 39 = u, t 40 = u, t 41 = u, t 42 = u, t 43 = u, t 44 = u, t 45 = u, t 46 = u, t 47 = u, t 48 = u, t 49 = u, t 50 = u, t 51 = u, t 52 = u, t 53 = u, t 54 = u, t 55 = u, t 56 = u, t 57 = u, t 58 = u, t 59 = u, t 60 = u, t 61 = u, t 62 = u, t 63 = u, t 64 = u, t 65 = u, t 66 = u, t 67 = u, t 68 = u, t 69 = u, t 70 = u, t 71 = u, t 72 = u, t 73 = u, t 74 = u, t 75 = u, t 76 = u, t 77 = u, t 78 = u, t 79 = u, t 80 = u, t 81 = u, t 82 = u, t 83 = u, t 84 = u, t 85 = u, t 86 = u, t 87 = u, t 88 = u, t 89 = u, t 90 = u, t 91 = u, t 92 = u, t 93 = u, t 94 = u, t 95 = u, t 96 = u, t 97 = u, t 98 = u, t 99 = u, t 100 = u, t 101 = u, t 102 = u, t 103 = u, t 104 = u, t 105 = u, t 106 = u, t 107 = u, t 108 = u, t 109 = u, t 110 = u, t 111 = u, t 112 = u, t 113 = u, t 114 = u, t 115 = u, t 116 = u, t 117 = u, t 118 = u, t 119 = u, t 120 = u, t 121 = u, t 122 = u, t 123 = u, t 124 = u, t 125 = u, t 126 = u, t 127 = u, t 128 = u, t 129 = u, t 130 = u, t 131 = u, t 132 = u, t 133 = u, t 134 = u, t 135 = u, t 136 = u, t 137 = u, t 138 = u, t 139 = u, t 140 = u, t 141 = u, t 142 = u, t 143 = u, t 144 = u, t 145 = u, t 146 = u, t 147 = u, t 148 = u, t 149 = u, t 150 = u, t 151 = u, t 152 = u, t 153 = u, t 154 = u, t 155 = u, t 156 = u, t 157 = u, t 158 = u, t 159 = u, t 160 = u, t 161 = u, t 162 = u, t 163 = u, t 164 = u, t 165 = u, t 166 = u, t 167 = u, t 168 = u, t 169 = u, t 170 = u, t 171 = u, t 172 = u, t 173 = u, t 174 = u, t 175 = u, t 176 = u, t 177 = u
 clear t
 conv => arg 2; whnf
 go_region_held3 (fun W' => W'.cell? ⟨bw, 3, none⟩ = some (.pointer (some ⟨bx, 0, none⟩))) (go_keep) (fail)
 clear b3 s1 j3 z3 hmk m1 m2
 have hq := (Yai HLV.out).2
 generalize ((w.setCell ⟨bx, 3, none⟩ (.slice (some ⟨w.heap.size, 0, none⟩) fs.length fs.length)).alloc (.cells (madeCells #[.bool false] fs.length) 4)).drew = W1 at *
 have LIV := Hq (Ymy (Yem (List.replicate fs.length false) + 1) w W1 bw bx bm B mem pd nd cd pF cF fs cl w.heap.size _ _ _ _ _ (List.replicate fs.length false) 0 SS.out HLV.out (by omega) (Nat.lt_succ_self _))
 go_wp2
 try clear K
 conv => arg 2; whnf
 go_upto_region 13 with (go_at_call 61; refine LIV.out.mono ?_; rintro e w2 ⟨⟨v2, rfl⟩, g2, V, H2, hin, h0, hclo, hre⟩; have HV2 := Hq H2; have HIN := Hq h0; have HCLO := Hq hclo; have HRE := Hq hre; clear g2 H2 hin h0 hclo hre)
 have kb := Zc SS.out.bwc HV2.out.g (by intro e; injection e with e; exact hne e.symm)
 have b3 := Cq _ _ 3 _ _ _ kb
 have s1 := (Gs kb)
 have hx2 := HV2.out.xc
 have j4 := Cq _ _ 4 _ _ _ hx2
 have z4 := frozen_of_row _ _ 4 _ _ hx2
 have j5 := Cq _ _ 5 _ _ _ hx2
 have z5 := frozen_of_row _ _ 5 _ _ hx2
 have s2 := (Gs hx2)
 have LA := Hq (Ycx HV2.out hlx (.int .i64 (-1)) (.int .i64 (-1)))
 have nn : ∀ k : Nat, (some bx : Option Nat) ≠ some bw := fun _ e => by injection e with e; exact hne e.symm
 have c4 := Cq _ _ 3 _ _ _ (Zc kb (Zd w2 bx 4 (.int .i64 (-1))) (nn 0))
 have c5 := Cq _ _ 3 _ _ _ (Zc kb (Zd w2 bx 5 (.int .i64 (-1))) (nn 0))
 have c45 := Cq _ _ 3 _ _ _ (Zc (Zc kb (Zd w2 bx 4 (.int .i64 (-1))) (nn 0)) (Zd _ bx 5 (.int .i64 (-1))) (nn 0))
 have c54 := Cq _ _ 3 _ _ _ (Zc (Zc kb (Zd w2 bx 5 (.int .i64 (-1))) (nn 0)) (Zd _ bx 4 (.int .i64 (-1))) (nn 0))
 clear kb hx2 nn
 go_region_held3 (fun W' => W'.cell? ⟨bw, 3, none⟩ = some (.pointer (some ⟨bx, 0, none⟩))) (first | assumption | exact c4 | exact c5 | exact c45 | exact c54) (fail)
 clear c4 c5 c45 c54 b3 s1 j4 z4 j5 z5 s2
 have L1 := LA.out.1
 have LK := Hq (show LkW w _ bw bx bm fs.length w.heap.size mem pd nd cd pF cF (.slice (some ⟨gH, 0, none⟩) fs.length cH) (.slice (some ⟨gT, 0, none⟩) fs.length cT) (.slice (some ⟨gL, 0, none⟩) fs.length cL) (-1) (-1) V from ⟨L1.g, L1.xc, L1.r, SS.out.bwc, hne, hlx⟩)
 clear L1 LA HLV LIV
 have HLN := Hq (Zfn HV2.out)
 clear HV2 hq
 generalize ((w2.setCell ⟨bx, 4, none⟩ (.int .i64 (-1))).setCell ⟨bx, 5, none⟩ (.int .i64 (-1))).drew = W3 at *
 have hmk := run_make_row' (P := Try.prog) 47 3 (.int .i64 0) 8 Zcd Zaz rfl .i64 .i64 fs.length (by omega) (by omega)
 have hq3 := LK.out.g.size
 have hqv := (Zps LK.out).2
 have ru := Zml (heap_alloc_new W3 (.cells (madeCells #[.int .i64 0] fs.length) 3)) hq3 (by unfold maxLen; omega)
 have AG0 : AgW w (W3.alloc (.cells (madeCells #[.int .i64 0] fs.length) 3)) bx W3.heap.size fs.length (List.replicate fs.length 0) :=
  ⟨Za LK.out.g (Ga _ _ _), by have e : Zfc (List.replicate fs.length 0) = (List.replicate fs.length (0 : Int)).map (Value.int .i64) := by simp [Zfc]
                              rw [<- e]; exact ru, fun x => Or.inl (Yhj x)⟩
 have HAG0 := Hq AG0
 have LK0 := Hq (Zar LK.out (Ga W3 (.cells (madeCells #[.int .i64 0] fs.length) 3) none) (fun k e => by cases e))
 clear ru AG0
 go_wp2
 clear hmk
 generalize hgU : W3.heap.size = gU at *
 have hgv : gU ≠ w.heap.size := by omega
 clear hgU
 generalize W3.alloc (.cells (madeCells #[.int .i64 0] fs.length) 3) = W4 at *
 go_loopw [100] (fun i wr => ∃ (k : Nat) (U : List Int) (fin : List Nat), i = .int .i64 k /\ k <= fs.length /\ LkW w wr bw bx bm fs.length w.heap.size mem pd nd cd pF cF (.slice (some ⟨gH, 0, none⟩) fs.length cH) (.slice (some ⟨gT, 0, none⟩) fs.length cT) (.slice (some ⟨gL, 0, none⟩) fs.length cL) (-1) (-1) V /\ AgW w wr bx gU fs.length U /\ Yeh fs cl U fin /\ (∀ f : Nat, f < k -> V.getD f false = true -> f ∈ fin)) (fun i _ => fs.length - (intOf i).toNat)
 case atStart => exact ⟨0, _, [], rfl, Nat.zero_le _, LK0.out, HAG0.out, ⟨trivial, fun x _ => ⟨fun h => by rw [Yhj] at h; omega, fun h => by cases h⟩, (fun x h => by cases h), List.nodup_nil⟩, fun f hf => absurd hf (Nat.not_lt_zero _)⟩
 case round =>
  obtain ⟨k, U, fin, rfl, hk, hW, hA, hI, hdone⟩ := hrel
  have HW := Hq hW
  have HA := Hq hA
  have HI := Hq hI
  have HDN := Hq hdone
  clear LK0 HAG0 LK
  by_cases hlt : (k : Int) < (fs.length : Int)
  · have hkn : k < fs.length := by omega
    have kb := Zpt hW
    have b3 := Cq _ _ 3 _ _ _ kb
    have s1 := (Gs kb)
    have j3 := Cq _ _ 3 _ _ _ hW.xc
    have s2 := (Gs hW.xc)
    have vk : wr.cell? ⟨w.heap.size, k, none⟩ = some (.bool (V.getD k false)) := by
     have := HLN.out
     rw [hW.r.cellAt k (by omega), List.getElem?_map, List.getD_eq_getElem?_getD, List.getElem?_eq_getElem (by omega : k < V.length)]
     rfl
    have s3 := (Zps hW).2
    have AG := Hq (Yjv (zer U + 1) w wr bw bx bm B mem pd nd cd pF cF fs cl gU U fin k SS.out hA hI hkn (Nat.lt_succ_self _))
    clear hW hA hI hdone kb
    cases hb : V.getD k false with
    | false =>
      rw [hb] at vk
      have HB := Hq hb
      clear hb
      go_wp2
      go_roundw
      case rel => exact ⟨k + 1, U, fin, by go_num, by omega, HW.out, HA.out, HI.out, fun f hf hv => by
       by_cases e : f = k
       · subst e; rw [HB.out] at hv; cases hv
       · exact HDN.out f (by omega) hv⟩
      case measure => simp [intOf]; omega
    | true =>
      rw [hb] at vk
      clear hb
      go_wp2_with (go_at_call 62; refine AG.out.mono ?_; rintro e w5 ⟨b5, rfl, g5, h5⟩; have HG5 := Hq g5; have HH5 := Hq h5; clear g5 h5; cases b5)
      · obtain ⟨U5, fin5, hw5, hi5, hs5, hin5, ho5, hz5⟩ := HH5.out (by trivial)
        have HW5 := Hq (Zar HW.out HG5.out (fun q e => by injection e with e; subst e; exact ⟨(Zvv HA.out).1, hgv⟩))
        go_roundw
        case rel => exact ⟨k + 1, U5, fin5, by go_num, by omega, HW5.out, hw5, hi5, fun f hf hv => by
         by_cases e : f = k
         · subst e; exact hin5
         · exact hs5 f (HDN.out f (by omega) hv)⟩
        case measure => simp [intOf]; omega
      · have HW5 := Hq (Zar HW.out HG5.out (fun q e => by injection e with e; subst e; exact ⟨(Zvv HA.out).1, hgv⟩))
        refine bodyPost_end0 rfl rfl ?_
        exact Zlx HW5.out (Zpu HLN.out HIN.out HCLO.out HRE.out SS.out) _
  · have hkn : k = fs.length := by omega
    subst hkn
    clear hW hA hI hdone
    have LE := Hq (Zpu HLN.out HIN.out HCLO.out HRE.out SS.out)
    have FO := Hq (Yon HCLO.out HIN.out HDN.out HI.out hn1)
    go_upto_region 20 with fail
    rename_i K hK
    obtain ⟨f1, f2, f3, f4⟩ := FO.out
    refine Yye w wr bw bx bm fs.length w.heap.size mem pd nd cd pF cF _ _ gL cL ln (-1) (-1) V (Zwb fs cl) LE.out HW.out HLL.out h64 (fun wc bk h1 h2 h3 h4 => ?_) (fun hl wc bk ce h1 h2 h3 h4 => ?_) _ ⟨rfl, rfl, rfl, rfl⟩ K hK
    · refine (Yjh (rk (fin.filter fun x => V.getD x false) 0 + 1) w wc bw bx bm B mem pd nd cd pF cF fs cl gH gT cH cT bk _ _ _ _ hs tops (fun _ => none) _ 0 SS.out SS2.out ⟨h1.g, h1.xc, h3, h2⟩ (fun f _ v hv => by cases hv) f1 (fun x hx => (f3 x hx).1) (by omega) f2 (Nat.lt_succ_self _)).mono ?_
      intro e w' he
      obtain ⟨v, kn', h5, h6, h7, -⟩ := he
      exact ⟨v, kn', h5, h6, h7⟩
    · refine (Yoy w bw bx bm B mem pd nd cd pF cF fs cl SS.out OK.out gH gT cH cT bk _ _ _ _ (fin.filter fun x => V.getD x false) (fun x hx => (f3 x hx).1) (fun f hf ar lo r c hfn => Yzd OK.out HOO.out f1 hf hfn (hl f (f3 f hf).1 (f3 f hf).2)) (rk (fin.filter fun x => V.getD x false) 0 + 1) wc (fun _ => none) 0 ⟨h1.g, h1.xc, h3, h2⟩ (fun f _ v hv => by cases hv) f2 (Nat.lt_succ_self _)).mono ?_
      intro e w' he
      obtain ⟨v, kn', h5, h6, h7, -⟩ := he
      exact ⟨v, kn', h5, h6, h7⟩
def Yyp (v : Value) : Option (DataW Value × List MemPlace) := some (.held v, [])
def Ylz : Value := .slice none 0 0
theorem Xao (w : World) : (zeroValue 47).run Try.prog w = .ok Ylz w := by kernel_rfl
def Zyx (w : World) (bm n nf : Nat) (g : Nat -> Value) : Prop := nf <= 64 /\ n <= 1000000 /\ ∃ (D : DataW Value), w.ownsMap Try.prog 3 Yyp bm n D /\ IsMap D /\ ∀ f : Nat, f < nf -> D.atKey (.int .i64 (f : Int)) (.held Ylz) = .held (g f)
def Ywl (g : Nat -> Value) (f : Nat) (v : Value) : Nat -> Value := fun x => if x = f then v else g x
theorem Zmq (g : Nat -> Value) (f : Nat) (v : Value) : Ywl g f v f = v := if_pos rfl
theorem Zhm {g : Nat -> Value} {f x : Nat} {v : Value} (h : x ≠ f) : Ywl g f v x = g x := if_neg h
theorem Ygw (w : World) {nf : Nat} (h : nf <= 64) : Zyx (w.alloc (.map #[] 0)) w.heap.size 0 nf fun _ => Ylz :=
 ⟨h, by decide, .map [], World.ownsMap_made _ _ _ _, ⟨[], rfl⟩, fun f _ => rfl⟩
theorem Zeu {w w' : World} {bm n nf : Nat} {g : Nat -> Value} {r : Option Nat} (h : Zyx w bm n nf g) (hg : w.grownBy w' r) (hr : some bm ≠ r) : Zyx w' bm n nf g := by
 obtain ⟨h0, hn, D, h1, h2⟩ := h
 exact ⟨h0, hn, D, h1.kept hg hr, h2⟩
theorem Ygx {w : World} {bm n nf : Nat} {g : Nat -> Value} (h : Zyx w bm n nf g) : bm < w.heap.size := by
 obtain ⟨_, _, D, h1, _⟩ := h
 exact h1.lt
theorem Ytc {w w' : World} {bm n nf : Nat} {g : Nat -> Value} (h : Zyx w bm n nf g) (e : w'.heap[bm]? = w.heap[bm]?) : Zyx w' bm n nf g := by
 obtain ⟨h0, hn, D, ⟨es, clock, hb, r⟩, h2⟩ := h
 exact ⟨h0, hn, D, ⟨es, clock, e.trans hb, r⟩, h2⟩
theorem Zxj {w : World} {bm n nf f : Nat} {g : Nat -> Value} (h : Zyx w bm n nf g) (hf : f < nf) : (Instr.lookup 104 (.map (some bm)) (.int .i64 f) false).run Try.prog w = .ok (g f) w := by
 obtain ⟨h0, hn, D, h1, h2, h3⟩ := h
 obtain ⟨v, ps, hrun, hv⟩ := h1.lookup Yul Try.underlying104 (Xao w) (zd := .held Ylz) (zp := []) rfl (Zut (f := f) (by omega))
 rw [h3 f hf] at hv
 have hv2 : v = g f := by
  simp only [Yyp, Option.some.injEq, Prod.mk.injEq, DataW.held.injEq] at hv
  exact hv.1
 rw [hrun, hv2]
theorem Ymf {w : World} {bm n nf f : Nat} {g : Nat -> Value} {v : Value} (h : Zyx w bm n nf g) (hf : f < nf) (hn : n < 1000000) :
 ∃ w', (Instr.mapUpdate 104 (.map (some bm)) (.int .i64 f) v).run Try.prog w = .ok () w' /\ Zyx w' bm (n + 1) nf (Ywl g f v) /\ w.grownBy w' (some bm) := by
 obtain ⟨h0, _, D, h1, h2, h3⟩ := h
 obtain ⟨w', hrun, h5, h6⟩ := h1.update Yul Try.underlying104 (by unfold maxLen; omega) (Zut (f := f) (by omega)) (val := v) (d := .held v) (ps := []) rfl
 refine ⟨w', hrun, ⟨h0, by omega, _, h5, h2.put _ _, fun x hx => ?_⟩, h6⟩
 by_cases e : x = f
 · subst e
   rw [atKey_put_same h2 (by trivial), Zmq]
 · have hne : (Lit.int .i64 (x : Int)) ≠ .int .i64 (f : Int) := fun h => by injection h with _ h; omega
   rw [atKey_put_other hne, Zhm e]
   exact h3 x hx
def lq : Nat -> Nat
 | 0 => 59
 | 1 => 60
 | 2 => 61
 | 3 => 62
 | 4 => 63
 | 5 => 64
 | 6 => 65
 | 7 => 66
 | 8 => 67
 | 9 => 68
 | 10 => 69
 | 11 => 70
 | 12 => 71
 | 13 => 72
 | 14 => 1014
 | _ => 5000
theorem Zib : ∀ i, i < 15 -> ∀ j, j < 15 -> j ≠ i -> lq j ≠ lq i := by decide
theorem Xbi (i : Nat) (h : i < 15) : i = 0 \/ i = 1 \/ i = 2 \/ i = 3 \/ i = 4 \/ i = 5 \/ i = 6 \/ i = 7 \/ i = 8 \/ i = 9 \/ i = 10 \/ i = 11 \/ i = 12 \/ i = 13 \/ i = 14 := by omega
theorem Zum (j : Nat) (hj : j ∈ [0, 3, 5]) : ∀ i, i < 15 -> lq i ≠ j := by revert j; decide
def lqv (bw f at_ bm N : Nat) (v v' : Value) : Nat -> Value
 | 0 => .pointer (some ⟨bw, 0, none⟩)
 | 1 => .pointer (some ⟨bw, 0, none⟩)
 | 2 => .pointer (some ⟨bw, 4, none⟩)
 | 3 => .map (some bm)
 | 4 => .int .i64 f
 | 5 => .pointer (some ⟨bw, 0, none⟩)
 | 6 => .pointer (some ⟨bw, 0, none⟩)
 | 7 => .pointer (some ⟨bw, 4, none⟩)
 | 8 => .map (some bm)
 | 9 => .int .i64 f
 | 10 => v
 | 11 => .int .i64 at_
 | 12 => .slice (some ⟨N, 0, none⟩) 1 1
 | 13 => v'
 | 14 => undef
 | _ => undef
structure WQ (W0 W1 W2 W3 : World) (l : Array Bool) (w : World) : Prop where
 sz : l.size = 15
 e0 : l.getD 12 false = false -> w = W0
 e1 : l.getD 12 false = true -> l.getD 13 false = false -> w = W1
 e2 : l.getD 13 false = true -> l.getD 14 false = false -> w = W2
 e3 : l.getD 14 false = true -> w = W3
 x1 : l.getD 13 false = true -> l.getD 12 false = true /\ l.getD 10 false = true
 x2 : l.getD 14 false = true -> l.getD 13 false = true
section
variable {W0 W1 W2 W3 w : World} {l : Array Bool}
theorem Ykm (W0 W1 W2 W3 : World) : WQ W0 W1 W2 W3 (Array.replicate 15 false) W0 :=
 ⟨by simp, fun _ => rfl, fun h => (by rw [getD_replicate_false] at h; cases h), fun h => (by rw [getD_replicate_false] at h; cases h), fun h => (by rw [getD_replicate_false] at h; cases h), fun h => (by rw [getD_replicate_false] at h; cases h), fun h => (by rw [getD_replicate_false] at h; cases h)⟩
theorem Zbx {i : Nat} (h : WQ W0 W1 W2 W3 l w) (hi : i < 15) (n1 : i ≠ 12) (n2 : i ≠ 13) (n3 : i ≠ 14) : WQ W0 W1 W2 W3 (l.setIfInBounds i true) w := by
 have g : ∀ j, j ≠ i -> (l.setIfInBounds i true).getD j false = l.getD j false := fun j hj => by rw [Zw l i j (by rw [h.sz]; exact hi), if_neg hj]
 have g12 := g 12 (Ne.symm n1)
 have g13 := g 13 (Ne.symm n2)
 have g14 := g 14 (Ne.symm n3)
 refine ⟨by simp [h.sz], fun e => h.e0 (by rw [<- g12]; exact e), fun e e' => h.e1 (by rw [<- g12]; exact e) (by rw [<- g13]; exact e'), fun e e' => h.e2 (by rw [<- g13]; exact e) (by rw [<- g14]; exact e'), fun e => h.e3 (by rw [<- g14]; exact e), fun e => ?_, fun e => by rw [g13]; exact h.x2 (by rw [<- g14]; exact e)⟩
 rw [g13] at e
 obtain ⟨a, b⟩ := h.x1 e
 refine ⟨by rw [g12]; exact a, ?_⟩
 rw [Zw l i 10 (by rw [h.sz]; exact hi)]
 split
 · rfl
 · exact b
theorem Ykn (h : WQ W0 W1 W2 W3 l w) (hun : l.getD 10 false = false) : w = W0 \/ w = W1 := by
 rcases Bool.eq_false_or_eq_true (l.getD 12 false) with e | e
 · refine Or.inr (h.e1 e ?_)
   rcases Bool.eq_false_or_eq_true (l.getD 13 false) with e' | e'
   · rw [(h.x1 e').2] at hun; cases hun
   · exact e'
 · exact Or.inl (h.e0 e)
theorem Yes {bw bm : Nat} (h : WQ W0 W1 W2 W3 l w) (c0 : W0.cell? ⟨bw, 4, none⟩ = some (.map (some bm))) (c1 : W1.cell? ⟨bw, 4, none⟩ = some (.map (some bm))) (c2 : W2.cell? ⟨bw, 4, none⟩ = some (.map (some bm))) (c3 : W3.cell? ⟨bw, 4, none⟩ = some (.map (some bm))) : w.cell? ⟨bw, 4, none⟩ = some (.map (some bm)) := by
 rcases Bool.eq_false_or_eq_true (l.getD 12 false) with e | e
 · rcases Bool.eq_false_or_eq_true (l.getD 13 false) with e' | e'
   · rcases Bool.eq_false_or_eq_true (l.getD 14 false) with e2 | e2
     · rw [h.e3 e2]; exact c3
     · rw [h.e2 e' e2]; exact c2
   · rw [h.e1 e e']; exact c1
 · rw [h.e0 e]; exact c0
theorem Xam (h : WQ W0 W1 W2 W3 l W0) : l.getD 12 false = false -> WQ W0 W1 W2 W3 (l.setIfInBounds 12 true) W1 := fun hun => by
 have g : ∀ j, j ≠ 12 -> (l.setIfInBounds 12 true).getD j false = l.getD j false := fun j hj => by rw [Zw l 12 j (by rw [h.sz]; decide), if_neg hj]
 have s : (l.setIfInBounds 12 true).getD 12 false = true := by rw [Zw l 12 12 (by rw [h.sz]; decide), if_pos rfl]
 have n13 : l.getD 13 false = false := by
  rcases Bool.eq_false_or_eq_true (l.getD 13 false) with e | e
  · rw [(h.x1 e).1] at hun; cases hun
  · exact e
 have n14 : l.getD 14 false = false := by
  rcases Bool.eq_false_or_eq_true (l.getD 14 false) with e | e
  · rw [h.x2 e] at n13; cases n13
  · exact e
 refine ⟨by simp [h.sz], fun e => (by rw [s] at e; cases e), fun _ _ => rfl, fun e => (by rw [g 13 (by decide), n13] at e; cases e), fun e => (by rw [g 14 (by decide), n14] at e; cases e), fun e => (by rw [g 13 (by decide), n13] at e; cases e), fun e => (by rw [g 14 (by decide), n14] at e; cases e)⟩
theorem Xal (h : WQ W0 W1 W2 W3 l W1) (l12 : l.getD 12 false = true) (l10 : l.getD 10 false = true) (hun : l.getD 13 false = false) : WQ W0 W1 W2 W3 (l.setIfInBounds 13 true) W2 := by
 have g : ∀ j, j ≠ 13 -> (l.setIfInBounds 13 true).getD j false = l.getD j false := fun j hj => by rw [Zw l 13 j (by rw [h.sz]; decide), if_neg hj]
 have s : (l.setIfInBounds 13 true).getD 13 false = true := by rw [Zw l 13 13 (by rw [h.sz]; decide), if_pos rfl]
 have n14 : l.getD 14 false = false := by
  rcases Bool.eq_false_or_eq_true (l.getD 14 false) with e | e
  · rw [h.x2 e] at hun; cases hun
  · exact e
 exact ⟨by simp [h.sz], fun e => (by rw [g 12 (by decide), l12] at e; cases e), fun _ e => (by rw [s] at e; cases e), fun _ _ => rfl, fun e => (by rw [g 14 (by decide), n14] at e; cases e), fun _ => ⟨by rw [g 12 (by decide)]; exact l12, by rw [g 10 (by decide)]; exact l10⟩, fun e => (by rw [g 14 (by decide), n14] at e; cases e)⟩
theorem Xak (h : WQ W0 W1 W2 W3 l W2) (l13 : l.getD 13 false = true) : WQ W0 W1 W2 W3 (l.setIfInBounds 14 true) W3 := by
 have g : ∀ j, j ≠ 14 -> (l.setIfInBounds 14 true).getD j false = l.getD j false := fun j hj => by rw [Zw l 14 j (by rw [h.sz]; decide), if_neg hj]
 have s : (l.setIfInBounds 14 true).getD 14 false = true := by rw [Zw l 14 14 (by rw [h.sz]; decide), if_pos rfl]
 obtain ⟨l12, l10⟩ := h.x1 l13
 exact ⟨by simp [h.sz], fun e => (by rw [g 12 (by decide), l12] at e; cases e), fun _ e => (by rw [g 13 (by decide), l13] at e; cases e), fun _ e => (by rw [s] at e; cases e), fun _ => rfl, fun _ => ⟨by rw [g 12 (by decide)]; exact l12, by rw [g 10 (by decide)]; exact l10⟩, fun _ => by rw [g 13 (by decide)]; exact l13⟩
end
theorem Yhg (W0 W1 W2 W3 : World) (bw f at_ bm N : Nat) (v v' : Value) (hl0 : (Instr.lookup 104 (.map (some bm)) (.int .i64 f) false).run Try.prog W0 = .ok v W0) (hl1 : (Instr.lookup 104 (.map (some bm)) (.int .i64 f) false).run Try.prog W1 = .ok v W1)
 (hbs : (Instr.buildSlice 47 1 #[(0, .int .i64 at_)]).run Try.prog W0 = .ok (.slice (some ⟨N, 0, none⟩) 1 1) W1)
 (hap : (Builtin.append_ #[47, 47] 47 #[v, .slice (some ⟨N, 0, none⟩) 1 1]).run Try.prog W1 = .ok v' W2) (hput : (Instr.mapUpdate 104 (.map (some bm)) (.int .i64 f) v').run Try.prog W2 = .ok () W3)
 (c0 : W0.cell? ⟨bw, 4, none⟩ = some (.map (some bm))) (c1 : W1.cell? ⟨bw, 4, none⟩ = some (.map (some bm))) (c2 : W2.cell? ⟨bw, 4, none⟩ = some (.map (some bm))) (c3 : W3.cell? ⟨bw, 4, none⟩ = some (.map (some bm)))
 (W : World) (hW0 : W0 = W.drew) (a : Act) (hs : a.tmps.size = 178) (a0 : a.tmps.getD 0 undef = .pointer (some ⟨bw, 0, none⟩)) (a3 : a.tmps.getD 3 undef = .int .i64 f) (a5 : a.tmps.getD 5 undef = .int .i64 at_) (Q : Exit -> Act -> World -> Prop) (hQ : Q .normal (Ja a lq (lqv bw f at_ bm N v v') 15) W3) :
 Code.wp Try.prog (Ycb Try.f40 8) Q a W := by
 conv => arg 2; whnf
 refine Zck (n := 15) (J := fun a0 l a1 w1 => RJ a0 178 15 lq (lqv bw f at_ bm N v v') l a1 /\ WQ W0 W1 W2 W3 l w1) (by kernel_rfl) rfl (Zen (by kernel_rfl)) (fun l a1 w1 h => h.2.sz) ⟨Zax hs, by rw [<- hW0]; exact Ykm _ _ _ _⟩ ?step ?fin
 case step =>
  intro l a1 w' i hJJ hi hin
  obtain ⟨hJ, hW⟩ := hJJ
  have hun : l.getD i false = false := getD_both (mem_ready.1 hi).1
  rcases Xbi i hin with rfl | rfl | rfl | rfl | rfl | rfl | rfl | rfl | rfl | rfl | rfl | rfl | rfl | rfl | rfl
  · have e0 : a1.tmps.getD 0 undef = .pointer (some ⟨bw, 0, none⟩) := (hJ.un 0 (fun i hi _ => Zum 0 (by decide) i hi)).trans a0
    exact Zq (WS := fun l w => WQ W0 W1 W2 W3 l w) hJ rfl (by rfl) rfl (by decide) (by decide) (Zib _ (by decide)) (w' := w') (by simp [execOp, resolve, invoke, builtin, Act.eval, e0, go_sem, lqv]) (Zbx hW (by decide) (by decide) (by decide) (by decide))
  · have e59 : a1.tmps.getD 59 undef = .pointer (some ⟨bw, 0, none⟩) := (hJ.sl 0 (by decide) (Zb hi 0 (by kernel_rfl)) (by decide))
    exact Zq (WS := fun l w => WQ W0 W1 W2 W3 l w) hJ rfl (by rfl) rfl (by decide) (by decide) (Zib _ (by decide)) (w' := w') (by simp [execOp, resolve, invoke, builtin, Act.eval, e59, go_sem, lqv]) (Zbx hW (by decide) (by decide) (by decide) (by decide))
  · have e60 : a1.tmps.getD 60 undef = .pointer (some ⟨bw, 0, none⟩) := (hJ.sl 1 (by decide) (Zb hi 1 (by kernel_rfl)) (by decide))
    exact Zq (WS := fun l w => WQ W0 W1 W2 W3 l w) hJ rfl (by rfl) rfl (by decide) (by decide) (Zib _ (by decide)) (w' := w') (by simp [execOp, resolve, invoke, builtin, Act.eval, e60, go_sem, lqv]) (Zbx hW (by decide) (by decide) (by decide) (by decide))
  · have e61 : a1.tmps.getD 61 undef = .pointer (some ⟨bw, 4, none⟩) := (hJ.sl 2 (by decide) (Zb hi 2 (by kernel_rfl)) (by decide))
    have h0 := Yes hW c0 c1 c2 c3
    exact Zq (WS := fun l w => WQ W0 W1 W2 W3 l w) hJ rfl (by rfl) rfl (by decide) (by decide) (Zib _ (by decide)) (w' := w') (by simp [execOp, resolve, invoke, builtin, Act.eval, e61, h0, go_sem, lqv]) (Zbx hW (by decide) (by decide) (by decide) (by decide))
  · have e3 : a1.tmps.getD 3 undef = .int .i64 f := (hJ.un 3 (fun i hi _ => Zum 3 (by decide) i hi)).trans a3
    exact Zq (WS := fun l w => WQ W0 W1 W2 W3 l w) hJ rfl (by rfl) rfl (by decide) (by decide) (Zib _ (by decide)) (w' := w') (by simp [execOp, resolve, invoke, builtin, Act.eval, e3, go_sem, lqv]) (Zbx hW (by decide) (by decide) (by decide) (by decide))
  · have e0 : a1.tmps.getD 0 undef = .pointer (some ⟨bw, 0, none⟩) := (hJ.un 0 (fun i hi _ => Zum 0 (by decide) i hi)).trans a0
    exact Zq (WS := fun l w => WQ W0 W1 W2 W3 l w) hJ rfl (by rfl) rfl (by decide) (by decide) (Zib _ (by decide)) (w' := w') (by simp [execOp, resolve, invoke, builtin, Act.eval, e0, go_sem, lqv]) (Zbx hW (by decide) (by decide) (by decide) (by decide))
  · have e64 : a1.tmps.getD 64 undef = .pointer (some ⟨bw, 0, none⟩) := (hJ.sl 5 (by decide) (Zb hi 5 (by kernel_rfl)) (by decide))
    exact Zq (WS := fun l w => WQ W0 W1 W2 W3 l w) hJ rfl (by rfl) rfl (by decide) (by decide) (Zib _ (by decide)) (w' := w') (by simp [execOp, resolve, invoke, builtin, Act.eval, e64, go_sem, lqv]) (Zbx hW (by decide) (by decide) (by decide) (by decide))
  · have e65 : a1.tmps.getD 65 undef = .pointer (some ⟨bw, 0, none⟩) := (hJ.sl 6 (by decide) (Zb hi 6 (by kernel_rfl)) (by decide))
    exact Zq (WS := fun l w => WQ W0 W1 W2 W3 l w) hJ rfl (by rfl) rfl (by decide) (by decide) (Zib _ (by decide)) (w' := w') (by simp [execOp, resolve, invoke, builtin, Act.eval, e65, go_sem, lqv]) (Zbx hW (by decide) (by decide) (by decide) (by decide))
  · have e66 : a1.tmps.getD 66 undef = .pointer (some ⟨bw, 4, none⟩) := (hJ.sl 7 (by decide) (Zb hi 7 (by kernel_rfl)) (by decide))
    have h0 := Yes hW c0 c1 c2 c3
    exact Zq (WS := fun l w => WQ W0 W1 W2 W3 l w) hJ rfl (by rfl) rfl (by decide) (by decide) (Zib _ (by decide)) (w' := w') (by simp [execOp, resolve, invoke, builtin, Act.eval, e66, h0, go_sem, lqv]) (Zbx hW (by decide) (by decide) (by decide) (by decide))
  · have e3 : a1.tmps.getD 3 undef = .int .i64 f := (hJ.un 3 (fun i hi _ => Zum 3 (by decide) i hi)).trans a3
    exact Zq (WS := fun l w => WQ W0 W1 W2 W3 l w) hJ rfl (by rfl) rfl (by decide) (by decide) (Zib _ (by decide)) (w' := w') (by simp [execOp, resolve, invoke, builtin, Act.eval, e3, go_sem, lqv]) (Zbx hW (by decide) (by decide) (by decide) (by decide))
  · have e67 : a1.tmps.getD 67 undef = .map (some bm) := (hJ.sl 8 (by decide) (Zb hi 8 (by kernel_rfl)) (by decide))
    have e68 : a1.tmps.getD 68 undef = .int .i64 f := (hJ.sl 9 (by decide) (Zb hi 9 (by kernel_rfl)) (by decide))
    rcases Ykn hW hun with hw | hw
    · rw [hw] at hW ⊢; exact Zq (WS := fun l w => WQ W0 W1 W2 W3 l w) hJ rfl (by rfl) rfl (by decide) (by decide) (Zib _ (by decide)) (w' := W0) (by simp [execOp, Act.eval, e67, e68, hl0, go_sem, lqv]) (Zbx hW (by decide) (by decide) (by decide) (by decide))
    · rw [hw] at hW ⊢; exact Zq (WS := fun l w => WQ W0 W1 W2 W3 l w) hJ rfl (by rfl) rfl (by decide) (by decide) (Zib _ (by decide)) (w' := W1) (by simp [execOp, Act.eval, e67, e68, hl1, go_sem, lqv]) (Zbx hW (by decide) (by decide) (by decide) (by decide))
  · have e5 : a1.tmps.getD 5 undef = .int .i64 at_ := (hJ.un 5 (fun i hi _ => Zum 5 (by decide) i hi)).trans a5
    exact Zq (WS := fun l w => WQ W0 W1 W2 W3 l w) hJ rfl (by rfl) rfl (by decide) (by decide) (Zib _ (by decide)) (w' := w') (by simp [execOp, resolve, invoke, builtin, Act.eval, e5, go_sem, lqv]) (Zbx hW (by decide) (by decide) (by decide) (by decide))
  · have e70 : a1.tmps.getD 70 undef = .int .i64 at_ := (hJ.sl 11 (by decide) (Zb hi 11 (by kernel_rfl)) (by decide))
    have f70 := e70
    rw [Array.getD_eq_getD_getElem?] at f70
    have hw := hW.e0 hun
    rw [hw] at hW ⊢
    exact Zq (WS := fun l w => WQ W0 W1 W2 W3 l w) hJ rfl (by rfl) rfl (by decide) (by decide) (Zib _ (by decide)) (w' := W1) (by simp [execOp, Act.eval, e70, f70, hbs, Result.andThen, lqv]) (Xam hW hun)
  · have e69 : a1.tmps.getD 69 undef = v := (hJ.sl 10 (by decide) (Zb hi 10 (by kernel_rfl)) (by decide))
    have e71 : a1.tmps.getD 71 undef = .slice (some ⟨N, 0, none⟩) 1 1 := (hJ.sl 12 (by decide) (Zb hi 12 (by kernel_rfl)) (by decide))
    have l12 : l.getD 12 false = true := Zb hi 12 (by kernel_rfl)
    have l10 : l.getD 10 false = true := Zb hi 10 (by kernel_rfl)
    have hw := hW.e1 l12 hun
    rw [hw] at hW ⊢
    exact Zq (WS := fun l w => WQ W0 W1 W2 W3 l w) hJ rfl (by rfl) rfl (by decide) (by decide) (Zib _ (by decide)) (w' := W2) (by simp [execOp, resolve, invoke, builtin, Act.eval, e69, e71, hap, Result.andThen, lqv]) (Xal hW l12 l10 hun)
  · have e62 : a1.tmps.getD 62 undef = .map (some bm) := (hJ.sl 3 (by decide) (Zb hi 3 (by kernel_rfl)) (by decide))
    have e63 : a1.tmps.getD 63 undef = .int .i64 f := (hJ.sl 4 (by decide) (Zb hi 4 (by kernel_rfl)) (by decide))
    have e72 : a1.tmps.getD 72 undef = v' := (hJ.sl 13 (by decide) (Zb hi 13 (by kernel_rfl)) (by decide))
    have l13 : l.getD 13 false = true := Zb hi 13 (by kernel_rfl)
    have hw := hW.e2 l13 hun
    rw [hw] at hW ⊢
    exact Zkf (WS := fun l w => WQ W0 W1 W2 W3 l w) hJ rfl rfl rfl (by decide) (by decide) (w' := W3) (by simp [execOp, Act.eval, e62, e63, e72, hput, go_sem]) (Xak hW l13)
 intro l a1 w9 hJJ hl
 obtain ⟨hJ, hW⟩ := hJJ
 have hput := Zei hJ hs hl (fun i j h1 h2 h3 => Zib j h2 i h1 h3)
 subst hput
 rw [hW.e3 (hl 14 (by decide))]
 exact hQ
def Znq (c : List (Int × Int)) (h : List Int) (x : Nat) : Bool := (match c[x]? with | some y => decide (y.1 = 17) | none => false) && decide (0 <= h.getD x 0)
def Zgq (c : List (Int × Int)) (h : List Int) (j : Nat) : List Nat := (List.range j).filter (Znq c h)
def Zvr (fs : List FnP) (hs : Nat -> List Int) (f : Nat) : List Nat := match fs[f]? with | some fn => Zgq fn.2.2.2 (hs f) fn.2.2.2.length | none => []
theorem Yci (c : List (Int × Int)) (h : List Int) (j : Nat) : Zgq c h (j + 1) = if Znq c h j = true then Zgq c h j ++ [j] else Zgq c h j := by
 unfold Zgq
 rw [List.range_succ, List.filter_append]
 by_cases e : Znq c h j = true
 · rw [if_pos e]; simp [e]
 · rw [if_neg e]; simp [e]
theorem Ztt (c : List (Int × Int)) (h : List Int) (j : Nat) : (Zgq c h j).length <= j := by
 have := List.length_filter_le (Znq c h) (List.range j)
 rwa [List.length_range] at this
structure LkO (w wr : World) (bm nf : Nat) (cl : Nat -> List Nat) (k n : Nat) (g : Nat -> Value) : Prop where
 gr : w.grownBy wr (some bm)
 mv : Zyx wr bm n nf g
 n_ : n <= 4096 * k
 rows : ∀ f, f < k -> wr.ownsRow w.heap.size 3 1 (g f) (cl f).length (Zfc (cl f))
 nil_ : ∀ f, k <= f -> g f = Ylz
structure LkI (w wr : World) (bm nf : Nat) (cl : Nat -> List Nat) (k j n : Nat) (part : List Nat) (g : Nat -> Value) : Prop where
 gr : w.grownBy wr (some bm)
 mv : Zyx wr bm n nf g
 n_ : n <= 4096 * k + j
 rows : ∀ f, f < k -> wr.ownsRow w.heap.size 3 1 (g f) (cl f).length (Zfc (cl f))
 cur : wr.ownsRow w.heap.size 3 1 (g k) part.length (Zfc part)
 nil_ : ∀ f, k < f -> g f = Ylz
 ap : ∀ f, f < k -> (g f).ownBlock = none \/ (g f).ownBlock ≠ (g k).ownBlock
section
variable {w wr wr' : World} {bm nf : Nat} {cl : Nat -> List Nat} {k j n : Nat} {part : List Nat} {g : Nat -> Value}
theorem Yhm (H : LkO w wr bm nf cl k n g) : LkI w wr bm nf cl k 0 n [] g :=
 ⟨H.gr, H.mv, by have := H.n_; omega, H.rows, by rw [H.nil_ k (Nat.le_refl _)]; exact World.ownsRow_nil _ _ _ _, fun f hf => H.nil_ f (by omega), fun f _ => by
  rw [H.nil_ k (Nat.le_refl _)]
  cases (g f).ownBlock with
  | none => exact Or.inl rfl
  | some b => exact Or.inr (by simp [Ylz, Value.ownBlock])⟩
theorem Ytq (H : LkI w wr bm nf cl k j n part g) (hp : part = cl k) (hj : j <= 4096) : LkO w wr bm nf cl (k + 1) n g :=
 ⟨H.gr, H.mv, by have := H.n_; omega, fun f hf => by
  by_cases e : f = k
  · subst e; rw [<- hp]; exact H.cur
  · exact H.rows f (by omega), fun f hf => H.nil_ f (by omega)⟩
theorem Yhl (H : LkO w wr bm nf cl k n g) (e : wr.grownBy wr' none) : LkO w wr' bm nf cl k n g :=
 ⟨Za H.gr (Jh e), Zeu H.mv e (by simp), H.n_, fun f hf => (H.rows f hf).kept e (Classical.em _), H.nil_⟩
theorem Zuo (H : LkI w wr bm nf cl k j n part g) (e : wr.grownBy wr' none) : LkI w wr' bm nf cl k j n part g :=
 ⟨Za H.gr (Jh e), Zeu H.mv e (by simp), H.n_, fun f hf => (H.rows f hf).kept e (Classical.em _), H.cur.kept e (Classical.em _), H.nil_, H.ap⟩
theorem Yam (H : LkI w wr bm nf cl k j n part g) : LkI w wr bm nf cl k (j + 1) n part g := ⟨H.gr, H.mv, by have := H.n_; omega, H.rows, H.cur, H.nil_, H.ap⟩
theorem Ytp {W1 W2 W3 : World} {v' : Value} {at_ : Nat} (H : LkI w wr bm nf cl k j n part g) (hbm : bm < w.heap.size) (g1 : wr.grownBy W1 none) (hown : W2.ownsRow w.heap.size 3 1 v' (part.length + 1) (Zfc part ++ [.int .i64 (at_ : Int)])) (g2 : W1.grownBy W2 (g k).ownBlock)
 (hloc : v'.ownBlock = (g k).ownBlock \/ v'.ownBlock = some W1.heap.size) (m3 : Zyx W3 bm (n + 1) nf (Ywl g k v')) (g3 : W2.grownBy W3 (some bm)) : LkI w W3 bm nf cl k (j + 1) (n + 1) (part ++ [at_]) (Ywl g k v') := by
 have hbk : ∀ b, (g k).ownBlock = some b -> w.heap.size <= b /\ b < wr.heap.size := fun b hb => H.cur.lt b hb
 have gw2 : w.grownBy W2 (some bm) := by
  have h1 := Za H.gr (Jh g1)
  cases hb : (g k).ownBlock with
  | none => rw [hb] at g2; exact Za h1 (Jh g2)
  | some b => rw [hb] at g2; exact Jc h1 g2 (hbk b hb).1
 have ne3 : ∀ {v : Value} {m : Nat} {xs : List Value} {X : World}, X.ownsRow w.heap.size 3 1 v m xs -> v.ownBlock = none \/ v.ownBlock ≠ some bm := fun h => Zga h hbm
 refine ⟨Za gw2 g3, m3, by have := H.n_; omega, fun f hf => ?_, ?_, fun f hf => ?_, fun f hf => ?_⟩
 · rw [Zhm (show f ≠ k by omega)]
   have h1 := (H.rows f hf).kept g1 (Classical.em _)
   have h2 := h1.kept g2 (H.ap f hf)
   exact h2.kept g3 (ne3 h2)
 · rw [Zmq, List.length_append, Zip]
   exact hown.kept g3 (ne3 hown)
 · rw [Zhm (show f ≠ k by omega)]; exact H.nil_ f hf
 · rw [Zhm (show f ≠ k by omega), Zmq]
   rcases hloc with h | h
   · rw [h]; exact H.ap f hf
   · cases hb : (g f).ownBlock with
     | none => exact Or.inl rfl
     | some b =>
       right
       rw [h]
       intro e
       injection e with e
       have h1 := ((H.rows f hf).lt b hb).2
       have h2 := g1.size
       omega
end
theorem Zbj {w : World} {b bm n nf o : Nat} {g : Nat -> Value} {v : Value} (h : Zyx w bm n nf g) (hc : w.cell? ⟨b, o, none⟩ = some v) : b ≠ bm := by
 intro e
 subst e
 obtain ⟨_, _, D, ⟨es, clock, hb, _⟩, _⟩ := h
 simp [World.cell?, hb] at hc
def Zyy (w : World) (bx bm nf : Nat) (x0 x1 x2 : Value) (P : List Bool -> Prop) (e : Ending) (w' : World) : Prop :=
 (∃ v, e = .returned v) /\ Sp (fun k => k = bx \/ k = bm) w w' /\ ∃ (gV : Nat) (V : List Bool) (ce co : Int), w'.heap[bx]? = some (.cells #[x0, x1, x2, .slice (some ⟨gV, 0, none⟩) nf nf, .int .i64 ce, .int .i64 co] 57 (0, 0)) /\
   w'.ownsRow w.heap.size 4 1 (.slice (some ⟨gV, 0, none⟩) nf nf) nf (V.map Value.bool) /\ P V
theorem Zag {P : Program} {fn : Func} {R R' : Ending -> World -> Prop} (h : ∀ e w, R e w -> R' e w) : ∀ e a w, bodyPost P fn R e a w -> bodyPost P fn R' e a w := by
 intro e a w hb
 cases e <;> simp only [bodyPost] at hb ⊢ <;> first | exact ⟨hb.1, hb.2.choose, hb.2.choose_spec.1, h _ _ hb.2.choose_spec.2⟩ | exact ⟨hb.1, h _ _ hb.2⟩ | exact h _ _ hb | exact hb
theorem Yfi {P : Program} {fn : Func} {R R' : Ending -> World -> Prop} {c d : Code} {a : Act} {w : World} {K : Act -> World -> Prop} (h : ∀ e w, R e w -> R' e w) (hK : ∀ a w, d.wp P (bodyPost P fn R') a w -> K a w)
 (H : c.wp P (Exit.then (fun a w => d.wp P (bodyPost P fn R) a w) (bodyPost P fn R)) a w) : c.wp P (Exit.then K (bodyPost P fn R')) a w := by
 refine wp_mono H fun e a w he => ?_
 cases e with
 | normal => exact hK a w (wp_mono he (Zag h))
 | exit id => exact Zag (P := P) (fn := fn) (R := R) (R' := R') h (.exit id) a w he
 | goto l => exact Zag (P := P) (fn := fn) (R := R) (R' := R') h (.goto l) a w he
 | ret => exact Zag (P := P) (fn := fn) (R := R) (R' := R') h .ret a w he
 | panic ch => exact Zag (P := P) (fn := fn) (R := R) (R' := R') h (.panic ch) a w he
 | outgrown => exact Zag (P := P) (fn := fn) (R := R) (R' := R') h .outgrown a w he
theorem Yur (w : World) (x : Int) : (Instr.buildSlice 47 1 #[(0, .int .i64 x)]).run Try.prog w = .ok (.slice (some ⟨w.heap.size, 0, none⟩) 1 1) (w.alloc (.cells #[.int .i64 x] 3)) := by kernel_rfl
structure LkH (w : World) (bw bx bm B : Nat) (mem : Int) (pd : Option Addr) (nd cd : Nat) (pF : Option Addr) (cF : Nat) (fs : List FnP) (gH gT gL cH cT cL : Nat) (hs : Nat -> List Int) (tops : Nat -> Int) (ln : Nat -> Nat) : Prop where
 bwc : w.heap[bw]? = some (.cells #[.int .i64 mem, .slice pd nd cd, .slice pF fs.length cF, .pointer (some ⟨bx, 0, none⟩), .map (some bm)] 106 (0, 0))
 xc : w.heap[bx]? = some (.cells #[.slice (some ⟨gH, 0, none⟩) fs.length cH, .slice (some ⟨gT, 0, none⟩) fs.length cT, .slice (some ⟨gL, 0, none⟩) fs.length cL, .slice none 0 0, .int .i64 0, .int .i64 0] 57 (0, 0))
 m0 : Zyx w bm 0 fs.length fun _ => Ylz
 ne1 : bw ≠ bx
 ne2 : bm ≠ bx
 ne3 : bm ≠ bw
 hF : Zam w B pF fs
 hB : B <= w.heap.size
 bx_ : B <= bx
 bm_ : B <= bm
 s2 : St2 w bx gH gT fs hs tops
 hl : Zsu w bx gL fs.length ln
 z : ∀ (f : Nat) (ar lo r : Int) (c : List (Int × Int)), fs[f]? = some (ar, lo, r, c) -> (hs f).getD 0 0 = 0 /\ ∀ x, x < c.length -> 0 <= (hs f).getD x 0 -> ∀ y ∈ Zgs c x, y < c.length /\ 0 <= (hs f).getD y 0
 a : ∀ (f : Nat) (ar lo r : Int) (c : List (Int × Int)), fs[f]? = some (ar, lo, r, c) -> ln f = 0 -> Yvw (nxL c (hs f))
theorem isCall_iff {c : List (Int × Int)} {h : List Int} {x : Nat} : Znq c h x = true ↔ (∃ a, c[x]? = some (17, a)) /\ 0 <= h.getD x 0 := by
 unfold Znq
 cases e : c[x]? with
 | none => simp
 | some y =>
   obtain ⟨op, a⟩ := y
   simp only [Bool.and_eq_true, decide_eq_true_eq, Option.some.injEq, Prod.mk.injEq, exists_eq_right']
theorem mem_partC {c : List (Int × Int)} {h : List Int} {j x : Nat} : x ∈ Zgq c h j ↔ x < j /\ Znq c h x = true := by
 unfold Zgq
 rw [List.mem_filter, List.mem_range]
theorem Yas {w : World} {bw bx bm B : Nat} {mem : Int} {pd : Option Addr} {nd cd : Nat} {pF : Option Addr} {cF : Nat} {fs : List FnP} {gH gT gL cH cT cL : Nat} {hs : Nat -> List Int} {tops : Nat -> Int} {ln : Nat -> Nat} (H : LkH w bw bx bm B mem pd nd cd pF cF fs gH gT gL cH cT cL hs tops ln) (hok : Zvy fs) : Yvq fs hs (Zvr fs hs) ln := by
 refine ⟨H.z, H.a, fun f ar lo r c hfn x a hins hh => ?_, fun f ar lo r c hfn x hx => ?_⟩
 · unfold Zvr
   simp only [hfn]
   exact mem_partC.2 ⟨(List.getElem?_eq_some_iff.1 hins).1, isCall_iff.2 ⟨⟨a, hins⟩, hh⟩⟩
 · unfold Zvr at hx
   simp only [hfn] at hx
   obtain ⟨-, h2⟩ := mem_partC.1 hx
   obtain ⟨⟨a, ha⟩, -⟩ := isCall_iff.1 h2
   have hI := (hok.ins _ (List.mem_of_getElem? hfn) _ (List.mem_of_getElem? ha)).ok.call rfl
   obtain ⟨k, rfl⟩ := Int.eq_ofNat_of_zero_le hI.1
   exact ⟨k, ha, by omega⟩
theorem Xar {w wr : World} {bw bx bm B : Nat} {mem : Int} {pd : Option Addr} {nd cd : Nat} {pF : Option Addr} {cF : Nat} {fs : List FnP} {gH gT gL cH cT cL n : Nat} {hs : Nat -> List Int} {tops : Nat -> Int} {ln : Nat -> Nat} {g : Nat -> Value} (H : LkH w bw bx bm B mem pd nd cd pF cF fs gH gT gL cH cT cL hs tops ln) (hok : Zvy fs) (HO : LkO w wr bm fs.length (Zvr fs hs) fs.length n g) :
 St wr bw bx bm B mem pd nd cd pF cF fs (Zvr fs hs) /\ St2 wr bx gH gT fs hs tops /\ Zsu wr bx gL fs.length ln /\ wr.heap[bx]? = some (.cells #[.slice (some ⟨gH, 0, none⟩) fs.length cH, .slice (some ⟨gT, 0, none⟩) fs.length cT, .slice (some ⟨gL, 0, none⟩) fs.length cL, .slice none 0 0, .int .i64 0, .int .i64 0] 57 (0, 0)) := by
 have hlx := (Gs H.xc)
 have hlm := Ygx H.m0
 have sz := HO.gr.size
 have HT := Yas H hok
 have nn : ∀ {b : Nat}, b ≠ bm -> (some bm : Option Nat) ≠ some b := fun h e => by injection e with e; exact h e.symm
 have nn' : ∀ {b : Nat}, b ≠ bm -> (some b : Option Nat) ≠ some bm := fun h e => by injection e with e; exact h e
 refine ⟨⟨Zc H.bwc HO.gr (nn (Ne.symm H.ne3)), H.ne1, H.ne2, by omega, Yb H.hF HO.gr (fun r e => by injection e with e; rw [<- e]; exact H.bm_), Nat.le_trans H.hB sz, by omega, H.bx_, hok.nf, fun f hf => ?_, fun f ar lo r c hfn => ⟨?_, HT.s f ar lo r c hfn⟩⟩, ⟨H.s2.n1, H.s2.n2, fun f ar lo r c hfn => ?_, fun f hf => ?_, H.s2.ar⟩, ⟨H.hl.ne, fun f hf => ?_⟩, Zc H.xc HO.gr (nn (Ne.symm H.ne2))⟩
 · have hr := HO.rows f hf
   obtain ⟨p, cap, hv⟩ := Zm hr
   refine ⟨p, cap, fun W hW => by rw [<- hv]; exact Zxj (Ytc HO.mv hW) hf, fun i at_ hi => ?_⟩
   have hpos : 0 < (Zvr fs hs f).length := by have := (List.getElem?_eq_some_iff.1 hi).1; omega
   obtain ⟨b, cap2, e, hb, hc⟩ := Xa hr hpos
   rw [hv] at e
   injection e with e1 e2 e3
   have hbl := (hr.lt b (by rw [hv, e1]; rfl)).1
   refine ⟨b, e1, by omega, hc i _ ?_ (by have := (List.getElem?_eq_some_iff.1 hi).1; omega)⟩
   unfold Zfc
   rw [List.getElem?_map, hi]
   rfl
 · unfold Zvr
   simp only [hfn]
   have := Ztt c (hs f) c.length
   have := (hok.len _ (List.mem_of_getElem? hfn)).2
   simp only [] at this
   omega
 · obtain ⟨gh, ch, h1, h2, h3⟩ := H.s2.h f ar lo r c hfn
   exact ⟨gh, ch, HO.gr.cell h1 (nn' (Zbj H.m0 h1)), h2, fun i hi => ⟨HO.gr.cell (h3 i hi).1 (nn' (Zbj H.m0 (h3 i hi).1)), (h3 i hi).2⟩⟩
 · obtain ⟨h1, h2⟩ := H.s2.t f hf
   exact ⟨HO.gr.cell h1 (nn' (Zbj H.m0 h1)), h2⟩
 · obtain ⟨p, c, h1⟩ := H.hl.at_ f hf
   exact ⟨p, c, HO.gr.cell h1 (nn' (Zbj H.m0 h1))⟩
theorem Ymx {w wr : World} {bm nf k j n : Nat} {cl : Nat -> List Nat} {part : List Nat} {g : Nat -> Value} (H : LkI w wr bm nf cl k j n part g) (hk : k < 64) (hj : j <= 4096) : n < 1000000 := by have := H.n_; omega
theorem Ymu {w wo w' : World} {bx bm nf : Nat} {x0 x1 x2 : Value} {P : List Bool -> Prop} {e : Ending} (g : w.grownBy wo (some bm)) (hne : bm ≠ bx) (h : Zdd wo bx nf x0 x1 x2 P e w') : Zyy w bx bm nf x0 x1 x2 P e w' := by
 obtain ⟨h1, h2, gV, V, ce, co, h3, h4, h5⟩ := h
 refine ⟨h1, Zr (P := fun k => k = bx \/ k = bm) (Zl g (fun k _ e => by injection e with e; exact Or.inr e.symm)) (Zl (P := fun k => k = bx \/ k = bm) h2 (fun k _ e => by injection e with e; exact Or.inl e.symm)) (fun _ _ h => h), gV, V, ce, co, h3, Yr h4 g.size, h5⟩
theorem Zlv (w : World) (bw bx bm B : Nat) (mem : Int) (pd : Option Addr) (nd cd : Nat) (pF : Option Addr) (cF : Nat) (fs : List FnP) (gH gT gL cH cT cL : Nat) (hs : Nat -> List Int) (tops : Nat -> Int) (ln : Nat -> Nat) (H : LkH w bw bx bm B mem pd nd cd pF cF fs gH gT gL cH cT cL hs tops ln) (hok : Zvy fs) :
 Calls Try.prog 40 #[.pointer (some ⟨bw, 0, none⟩)] w (Zyy w bx bm fs.length (.slice (some ⟨gH, 0, none⟩) fs.length cH) (.slice (some ⟨gT, 0, none⟩) fs.length cT) (.slice (some ⟨gL, 0, none⟩) fs.length cL) (Zwb fs (Zvr fs hs))) := by
 have b2 := Cq _ _ 2 _ _ _ H.bwc
 have s1 := (Gs H.bwc)
 have h64 := hok.nf
 have hn1 := hok.n1
 have hlm := Ygx H.m0
 obtain ⟨bF, oF, hpF, hbF, hcF⟩ := H.hF (by omega)
 have HH := Hq H
 have OK := Hq hok
 have HCF := Hq hcF
 have hB := H.hB
 have hbm := H.bm_
 have hn3 := H.ne3
 have LK0 := Hq (show LkO w w bm fs.length (Zvr fs hs) 0 0 (fun _ => Ylz) from ⟨Ze _ _, H.m0, by omega, fun f hf => absurd hf (Nat.not_lt_zero _), fun f _ => rfl⟩)
 clear H hok hcF
 subst hpF
 have HS1 := Hq s1
 go_enter Try.func40, Try.ntmps40
 go_wp2
 clear b2 s1
 go_loopw [27] (fun i wr => ∃ (k n : Nat) (g : Nat -> Value), i = .int .i64 k /\ k <= fs.length /\ LkO w wr bm fs.length (Zvr fs hs) k n g) (fun i _ => fs.length - (intOf i).toNat)
 case atStart => exact ⟨0, 0, _, rfl, Nat.zero_le _, LK0.out⟩
 case round =>
  obtain ⟨k, n, g, rfl, hk, hO⟩ := hrel
  obtain ⟨wo, hwo⟩ : ∃ wo, wo = wr := ⟨_, rfl⟩
  subst hwo
  clear LK0
  by_cases hlt : (k : Int) < (fs.length : Int)
  · obtain ⟨⟨ar, lo, r, c⟩, hfn⟩ : ∃ fn, fs[k]? = some fn := ⟨_, List.getElem?_eq_getElem (by omega)⟩
    have sz := hO.gr.size
    have nF : (some bF : Option Nat) ≠ some bm := by intro e; injection e with e; omega
    obtain ⟨c0, c1, c2, pc, cc, c3, hcode⟩ := HCF.out k ar lo r c hfn
    have e0 := hO.gr.cell c0 nF
    have e1 := hO.gr.cell c1 nF
    have e2 := hO.gr.cell c2 nF
    have e3 := hO.gr.cell c3 nF
    have hlen := OK.out.len _ (List.mem_of_getElem? hfn)
    simp only [] at hlen
    obtain ⟨b', o', hpc, hb', hcc⟩ := hcode (by omega)
    subst hpc
    have hbF2 : bF < wo.heap.size := by omega
    have hcl : Zvr fs hs k = Zgq c (hs k) c.length := by unfold Zvr; simp only [hfn]
    have LI0 := Hq (Yhm (Yhl hO (Ga wo (.cells #[.int .i64 ar, .int .i64 lo, .int .i64 r, .slice (some ⟨b', o', none⟩) c.length cc] 73) none)))
    have HO := Hq hO
    have HFN := Hq hfn
    have HCC := Hq hcc
    have HCL := Hq hcl
    obtain ⟨gh, ch, hH1, hH2, hH3⟩ := HH.out.s2.h k ar lo r c hfn
    have HH1 := Hq hH1
    have HH3 := Hq hH3
    have hci : (c.length : Int) <= 4096 := by omega
    clear hO hfn hcc hcl hcode c0 c1 c2 c3 hH1 hH3
    go_wp2
    go_loopw [35] (fun i wr => ∃ (j n' : Nat) (g' : Nat -> Value), i = .int .i64 j /\ j <= c.length /\ LkI w wr bm fs.length (Zvr fs hs) k j n' (Zgq c (hs k) j) g') (fun i _ => c.length - (intOf i).toNat)
    case atStart => exact ⟨0, n, g, rfl, Nat.zero_le _, LI0.out⟩
    case round =>
     obtain ⟨j, n', g', rfl, hj, hI⟩ := hrel
     have HI := Hq hI
     clear e0 e1 e2 e3 LI0
     by_cases hjl : (j : Int) < (c.length : Int)
     · obtain ⟨⟨op, a⟩, hins⟩ : ∃ x, c[j]? = some x := ⟨_, List.getElem?_eq_getElem (by omega)⟩
       obtain ⟨d0, d1⟩ := HCC.out j op a hins
       have nb : (some b' : Option Nat) ≠ some bm := by intro e; injection e with e; omega
       have x0 := hI.gr.cell d0 nb
       have x1 := hI.gr.cell d1 nb
       have szr := hI.gr.size
       have sb : b' < wr.heap.size := by omega
       have gB := Ga wr (.cells #[.int .i64 op, .int .i64 a] 75) none
       have I2 := Zuo hI gB
       have PS := Hq (Yci c (hs k) j)
       have HIN := Hq hins
       have HI2 := Hq I2
       by_cases h17 : op = 17
       · subst h17
         have kb := Zc HH.out.bwc I2.gr (by intro e; injection e with e; exact hn3 e)
         have b3 := Cq _ _ 3 _ _ _ kb
         have b4 := Cq _ _ 4 _ _ _ kb
         have q1 := (Gs kb)
         have kx := Zc HH.out.xc I2.gr (by intro e; injection e with e; exact HH.out.ne2 e)
         have y0 := Cq _ _ 0 _ _ _ kx
         have q2 := (Gs kx)
         have nH : ∀ {b : Nat}, b ≠ bm -> (some b : Option Nat) ≠ some bm := fun h e => h (by injection e)
         have t1 := I2.gr.cell HH1.out (nH (Zbj HH.out.m0 HH1.out))
         obtain ⟨u1, u2, u3⟩ := HH3.out j (by omega)
         have t2 := I2.gr.cell u1 (nH (Zbj HH.out.m0 u1))
         have q3 := World.block_lt_of_cell? _ _ t1
         have q4 := World.block_lt_of_cell? _ _ t2
         have KB := Hq kb
         clear kb kx u1 hI hins d0 d1 gB I2 nH
         generalize hhv : (hs k).getD j 0 = hv at *
         have HHV := Hq hhv
         clear hhv
         by_cases hneg : hv < 0
         · have PP := Hq (show Zgq c (hs k) (j + 1) = Zgq c (hs k) j by
            have := PS.out
            rw [if_neg (fun e => by have h1 := (isCall_iff.1 e).2; have := HHV.out; omega)] at this
            exact this)
           clear PS
           go_wp2
           go_roundw
           case rel => exact ⟨j + 1, n', g', by go_num, by omega, by rw [PP.out]; exact Yam HI2.out⟩
           case measure => simp [intOf]; omega
         · have PP := Hq (show Zgq c (hs k) (j + 1) = Zgq c (hs k) j ++ [j] by
            have := PS.out
            rw [if_pos (isCall_iff.2 ⟨⟨a, HIN.out⟩, by have := HHV.out; omega⟩)] at this
            exact this)
           have hpl := Ztt c (hs k) j
           clear PS
           generalize Zgq c (hs k) j = part at *
           go_upto_region 8 with fail
           rename_i K hK hge
           clear t1 t2 q3 q4 b3 y0 x0 x1
           have I3 := Zuo HI2.out (Zf (Ze (wr.alloc (.cells #[.int .i64 17, .int .i64 a] 75)) none))
           generalize wr.alloc (.cells #[.int .i64 17, .int .i64 a] 75) = W at *
           have g1 := Ga W.drew (.cells #[.int .i64 j] 3) none
           have hl0 := Zxj I3.mv (f := k) (by omega)
           have hl1 := Zxj (Zeu I3.mv g1 (by simp)) (f := k) (by omega)
           obtain ⟨ii, ii0, ii1, ii2, ii3⟩ := info_parts Zaz
           obtain ⟨v', W2, hap, hown, hgr, hnil, hloc⟩ := run_append_own_at (P := Try.prog) (w := W.drew.alloc (.cells #[.int .i64 j] 3)) w.heap.size 47 47 3 ii (.int .i64 0) 1 8 Zcd ii0 ii1 ii2 ii3 rfl (by decide) (g' k) part.length (Zfc part) (I3.cur.kept g1 (Classical.em _)) ⟨W.drew.heap.size, 0, none⟩ 1 1 [.int .i64 j] rfl (Zao W.drew _ _) (Zae _ _) (by unfold maxLen; omega) (by omega) (by have := I3.gr.size; simp at this ⊢; omega)
           have hgb : W.drew.alloc (.cells #[.int .i64 j] 3) = W.drew.alloc (.cells #[.int .i64 (j : Int)] 3) := rfl
           have gK : ∀ b, (g' k).ownBlock = some b -> w.heap.size <= b := fun b hb => (I3.cur.lt b hb).1
           have m2 : Zyx W2 bm n' fs.length g' := Zeu (Zeu I3.mv g1 (by simp)) hgr (by
            intro e
            have := gK bm e.symm
            omega)
           obtain ⟨W3, hput, m3, g3⟩ := Ymf (f := k) (v := v') m2 (by omega) (Ymx I3 (by omega) (by omega))
           have LF := Hq (Ytp (at_ := j) I3 hlm g1 hown hgr hloc m3 g3)
           have nw : ∀ {r : Option Nat}, (∀ b, r = some b -> w.heap.size <= b \/ b = bm) -> r ≠ some bw := fun h e => by
            have h1 := h bw e
            have h2 := HS1.out
            rcases h1 with h1 | h1
            · omega
            · exact hn3 h1.symm
           have k1 := Zc KB.out (Za (Zf (Ze W none)) g1) (by simp)
           have k2 := Zc k1 hgr (nw fun b hb => Or.inl (gK b hb))
           have k3 := Zc k2 g3 (nw fun b hb => Or.inr (by injection hb with hb; exact hb.symm))
           have q8 : j <= 4096 := by omega
           refine Yhg W.drew _ W2 W3 bw k j bm W.drew.heap.size (g' k) v' hl0 hl1 (Yur _ _) hap hput b4 (Cq _ _ 4 _ _ _ k1) (Cq _ _ 4 _ _ _ k2) (Cq _ _ 4 _ _ _ k3) W rfl _ rfl rfl rfl rfl _ ?_
           clear hl0 hl1 hap hown hgr hnil hloc hgb gK m2 hput m3 g3 nw k1 k2 k3 g1 I3 b4 q1 q2 KB
           refine hK _ _ ?_
           simp only [Ja, lq, lqv, Act.put, List.setIfInBounds_toArray, List.set_cons_zero, List.set_cons_succ]
           clear hK K
           go_wp2
           refine ⟨⟨j + 1, n' + 1, _, by go_num, by omega, by rw [PP.out]; exact LF.out⟩, by simp [intOf]; omega⟩
       · have PP := Hq (show Zgq c (hs k) (j + 1) = Zgq c (hs k) j by
          have := PS.out
          rw [if_neg (fun e => by
           obtain ⟨⟨a', h1⟩, -⟩ := isCall_iff.1 e
           rw [hins] at h1
           injection h1 with h1
           injection h1 with h1 _
           exact h17 h1)] at this
          exact this)
         have h17b : (op == 17) = false := by simp [h17]
         clear PS hI hins d0 d1 gB I2
         go_wp2
         go_roundw
         case rel => exact ⟨j + 1, n', g', by go_num, by omega, by rw [PP.out]; exact Yam HI2.out⟩
         case measure => simp [intOf]; omega
     · have hje : j = c.length := by omega
       have E := Hq (Ytq hI (by rw [HCL.out, hje]) (by omega))
       clear hI
       go_wp2
       go_roundw
       case rel => exact ⟨k + 1, n', g', by go_num, by omega, E.out⟩
       case measure => simp [intOf]; omega
  · have hkn : k = fs.length := by omega
    subst hkn
    have HO := Hq hO
    clear hO
    go_upto_region 11 with fail
    rename_i K hK
    obtain ⟨h1, h2, h3, h4⟩ := Xar HH.out OK.out HO.out
    refine Yfi (R := Zdd wo bx fs.length (.slice (some ⟨gH, 0, none⟩) fs.length cH) (.slice (some ⟨gT, 0, none⟩) fs.length cT) (.slice (some ⟨gL, 0, none⟩) fs.length cL) (Zwb fs (Zvr fs hs))) (fun e w' he => Ymu HO.out.gr HH.out.ne2 he) hK ?_
    exact Yyf wo bw bx bm B mem pd nd cd _ cF fs (Zvr fs hs) h1 OK.out gH gT gL cH cT cL hs tops ln h2 h3 (Yas HH.out OK.out) h4 _ ⟨rfl, rfl, rfl, rfl⟩ _ (fun a w' h => h)
end Go.Proofs.Ytecaolkbllbokaa.CK
