import Derived.Test.YtecaolkbllbokaaMT23
import Derived.Test.YtecaolkbllbokaaMT31
import Derived.Test.YtecaolkbllbokaaMT38
set_option linter.unusedSimpArgs false
set_option linter.unusedVariables false
set_option maxRecDepth 100000
set_option maxHeartbeats 16000000
namespace Go.Proofs.Ytecaolkbllbokaa.CK
open Go.RowKit Go.Great
structure WCh (n : Nat) (ix : List Nat) (D : List (Nat × Nat)) (ws : Nat -> World) (l : Array Bool) (w : World) : Prop where
 sz : l.size = n
 nd : ix.Nodup
 lt : ∀ i ∈ ix, i < n
 at_ : ∃ m, m <= ix.length /\ w = ws m /\ (∀ j, j < m -> l.getD (ix.getD j 0) false = true) /\ ∀ j, m <= j -> j < ix.length -> l.getD (ix.getD j 0) false = false
 x : ∀ p ∈ D, l.getD p.1 false = true -> l.getD p.2 false = true
section
variable {n : Nat} {ix : List Nat} {D : List (Nat × Nat)} {ws : Nat -> World} {l : Array Bool} {w : World}
theorem Yey (n : Nat) {ix : List Nat} (D : List (Nat × Nat)) (ws : Nat -> World) (hd : ix.Nodup) (hlt : ∀ i ∈ ix, i < n) : WCh n ix D ws (Array.replicate n false) (ws 0) :=
 ⟨by simp, hd, hlt, ⟨0, Nat.zero_le _, rfl, fun j hj => absurd hj (Nat.not_lt_zero _), fun j _ _ => getD_replicate_false _ _⟩, fun p _ h => (by rw [getD_replicate_false] at h; cases h)⟩
theorem Yhy {j : Nat} (h : j < ix.length) : ix.getD j 0 ∈ ix := by
 rw [List.getD_eq_getElem?_getD, List.getElem?_eq_getElem h]
 exact List.getElem_mem h
theorem Yyn (hd : ix.Nodup) {i j : Nat} (hi : i < ix.length) (hj : j < ix.length) (h : ix.getD i 0 = ix.getD j 0) : i = j := by
 rw [List.getD_eq_getElem?_getD, List.getElem?_eq_getElem hi, List.getD_eq_getElem?_getD, List.getElem?_eq_getElem hj] at h
 rcases Nat.lt_trichotomy i j with e | e | e
 · exact absurd h (List.pairwise_iff_getElem.1 hd i j hi hj e)
 · exact e
 · exact absurd h.symm (List.pairwise_iff_getElem.1 hd j i hj hi e)
theorem Zhl {i : Nat} (h : WCh n ix D ws l w) (hin : i < n) (hi : i ∉ ix) (hp : ∀ p ∈ D, p.1 = i -> l.getD p.2 false = true) : WCh n ix D ws (l.setIfInBounds i true) w := by
 obtain ⟨m, h1, h2, h3, h4⟩ := h.at_
 have g : ∀ j, j < ix.length -> (l.setIfInBounds i true).getD (ix.getD j 0) false = l.getD (ix.getD j 0) false := fun j hj => by
  rw [Zw l i _ (by rw [h.sz]; exact hin), if_neg (show ¬ ix.getD j 0 = i by intro e; exact hi (by rw [<- e]; exact Yhy hj))]
 exact ⟨by simp [h.sz], h.nd, h.lt, ⟨m, h1, h2, fun j hj => by rw [g j (by omega)]; exact h3 j hj, fun j hj hjl => by rw [g j hjl]; exact h4 j hj hjl⟩, Yzy h.sz hin h.x hp⟩
theorem Zoy {k : Nat} (h : WCh n ix D ws l w) (hk : k < ix.length) (hun : l.getD (ix.getD k 0) false = false) : ∃ m, m <= k /\ w = ws m := by
 obtain ⟨m, h1, h2, h3, h4⟩ := h.at_
 refine ⟨m, ?_, h2⟩
 rcases Nat.lt_or_ge k m with e | e
 · rw [h3 k e] at hun; cases hun
 · exact e
theorem Zjx {k : Nat} (h : WCh n ix D ws l w) (hk : k < ix.length) (hun : l.getD (ix.getD k 0) false = false) (hp : k = 0 \/ l.getD (ix.getD (k - 1) 0) false = true) : w = ws k := by
 obtain ⟨m, h1, h2⟩ := Zoy h hk hun
 rcases hp with hp | hp
 · have : m = k := by omega
   rw [h2, this]
 · obtain ⟨m', h3, h4, h5⟩ := h.at_
   have : m' = k := by
    rcases Nat.lt_trichotomy m' k with e | e | e
    · rw [h5.2 (k - 1) (by omega) (by omega)] at hp; cases hp
    · exact e
    · rw [h5.1 k e] at hun; cases hun
   rw [h4, this]
theorem Zlp {k i : Nat} (h : WCh n ix D ws l w) (hi : ix.getD k 0 = i) (hk : k < ix.length) (hun : l.getD i false = false) (hp : k = 0 \/ l.getD (ix.getD (k - 1) 0) false = true) (hq : ∀ p ∈ D, p.1 = i -> l.getD p.2 false = true) : WCh n ix D ws (l.setIfInBounds i true) (ws (k + 1)) := by
 subst hi
 have hin := h.lt _ (Yhy hk)
 obtain ⟨m, h3, h4, h5, h6⟩ := h.at_
 have hm : m = k := by
  rcases Nat.lt_trichotomy m k with e | e | e
  · rcases hp with hp | hp
    · omega
    · rw [h6 (k - 1) (by omega) (by omega)] at hp; cases hp
  · exact e
  · rw [h5 k e] at hun; cases hun
 subst hm
 have g : ∀ j, j < ix.length -> (l.setIfInBounds (ix.getD m 0) true).getD (ix.getD j 0) false = if j = m then true else l.getD (ix.getD j 0) false := fun j hj => by
  rw [Zw l _ _ (by rw [h.sz]; exact hin)]
  by_cases e : j = m
  · subst e; rw [if_pos rfl, if_pos rfl]
  · rw [if_neg (fun e2 => e (Yyn h.nd hj hk e2)), if_neg e]
 refine ⟨by simp [h.sz], h.nd, h.lt, ⟨m + 1, hk, rfl, fun j hj => ?_, fun j hj hjl => ?_⟩, Yzy h.sz hin h.x hq⟩
 · rw [g j (by omega)]
   split
   · rfl
   · exact h5 j (by omega)
 · rw [g j hjl, if_neg (by omega)]
   exact h6 j (by omega) hjl
theorem Yrl (h : WCh n ix D ws l w) (hl : ∀ j, j < n -> l.getD j false = true) : w = ws ix.length := by
 obtain ⟨m, h1, h2, h3, h4⟩ := h.at_
 rcases Nat.lt_or_ge m ix.length with e | e
 · have := h4 m (Nat.le_refl _) e
   rw [hl _ (h.lt _ (Yhy e))] at this
   cases this
 · rw [h2, show m = ix.length by omega]
theorem Ykr {ws' : Nat -> World} (h : WCh n ix D ws l w) (hk : 0 < ix.length) (hun : l.getD (ix.getD 0 0) false = false) (he : ws' 0 = ws 0) : WCh n ix D ws' l w := by
 obtain ⟨m, h1, h2, h3, h4⟩ := h.at_
 have hm : m = 0 := by
  rcases Nat.eq_zero_or_pos m with e | e
  · exact e
  · rw [h3 0 e] at hun; cases hun
 subst hm
 exact ⟨h.sz, h.nd, h.lt, ⟨0, h1, by rw [he]; exact h2, h3, h4⟩, h.x⟩
theorem Ztc {k i : Nat} (h : WCh n ix D ws l w) (hp : (k, i) ∈ D) (hun : l.getD i false = false) : l.getD k false = false := by
 rcases Bool.eq_false_or_eq_true (l.getD k false) with e | e
 · have := h.x (k, i) hp e; rw [hun] at this; cases this
 · exact e
end
open Go.Maps
def rq : Nat -> Nat
 | 0 => 72
 | 1 => 73
 | 2 => 74
 | 3 => 75
 | 4 => 76
 | 5 => 77
 | 6 => 78
 | 7 => 79
 | 8 => 80
 | 9 => 1009
 | _ => 5000
theorem Zoq : ∀ i, i < 10 -> ∀ j, j < 10 -> j ≠ i -> rq j ≠ rq i := by decide
theorem Yws (i : Nat) (h : i < 10) : i = 0 \/ i = 1 \/ i = 2 \/ i = 3 \/ i = 4 \/ i = 5 \/ i = 6 \/ i = 7 \/ i = 8 \/ i = 9 := by omega
theorem Ztn (j : Nat) (hj : j ∈ [1, 6, 7, 8]) : ∀ i, i < 10 -> rq i ≠ j := by revert j; decide
def rqv (bx f gh n nf cF : Nat) (mem : Int) (vd : Value) (pF : Option Addr) (vL lvv v7 : Value) (N6 : Nat) : Nat -> Value
 | 0 => .pointer (some ⟨bx, 2, none⟩)
 | 1 => vL
 | 2 => .agg #[.int .i64 mem, vd, .slice pF nf cF]
 | 3 => .int .i64 f
 | 4 => .slice (some ⟨gh, 0, none⟩) n n
 | 5 => lvv
 | 6 => .slice (some ⟨N6, 0, none⟩) 1 1
 | 7 => v7
 | 8 => .pointer (some ⟨bx, 2, none⟩)
 | 9 => undef
 | _ => undef
theorem Xaz {bx f gh n nf cF : Nat} {mem : Int} {vd : Value} {pF : Option Addr} {vL lvv v7 lvv' v7' : Value} {N6 N6' : Nat} (l : Array Bool) (h5 : l.getD 5 false = false) (h6 : l.getD 6 false = false) (h7 : l.getD 7 false = false) :
 ∀ i, i < 10 -> l.getD i false = true -> rq i < 90 -> rqv bx f gh n nf cF mem vd pF vL lvv' v7' N6' i = rqv bx f gh n nf cF mem vd pF vL lvv v7 N6 i := by
 intro i hi hl _
 rcases Yws i hi with rfl | rfl | rfl | rfl | rfl | rfl | rfl | rfl | rfl | rfl <;> first | rfl | (rw [h5] at hl; cases hl) | (rw [h6] at hl; cases hl) | (rw [h7] at hl; cases hl)
theorem Zjj : Try.prog.underlying 41 = some (.slice 47) := by kernel_rfl
theorem Zgv : (Try.prog.info? 47).map (fun i => (i.zero, i.size, i.bytes)) = some (some (.slice none 0 0), 1, 24) := by kernel_rfl
theorem Yuq (w : World) (p : Option Addr) (n c : Nat) : (Instr.buildSlice 41 1 #[(0, .slice p n c)]).run Try.prog w = .ok (.slice (some ⟨w.heap.size, 0, none⟩) 1 1) (w.alloc (.cells #[.slice p n c] 47)) := by kernel_rfl
structure RkF (W : World) (B bx k : Nat) (code : List (Int × Int)) (h : List Int) (vL : Value) (xs : List Value) (lvv v7 : Value) (N6 : Nat) (ws : Nat -> World) : Prop where
 lp : Xd W code h (.returned lvv) (ws 1)
 bs : (Instr.buildSlice 41 1 #[(0, lvv)]).run Try.prog (ws 1) = .ok (.slice (some ⟨N6, 0, none⟩) 1 1) (ws 2)
 ap : (Builtin.append_ #[41, 41] 41 #[vL, .slice (some ⟨N6, 0, none⟩) 1 1]).run Try.prog (ws 2) = .ok v7 (ws 3)
 own : (ws 3).ownsRow B 47 1 v7 (k + 1) (xs ++ [lvv])
 gr : W.grownBy (ws 3) vL.ownBlock
 loc : v7.ownBlock = vL.ownBlock \/ ∃ g, v7.ownBlock = some g /\ W.heap.size <= g
 c3 : (ws 3).cell? ⟨bx, 2, none⟩ = some vL
 z3 : (ws 3).frozen? ⟨bx, 2, none⟩ = false
 c1 : (ws 1).cell? ⟨bx, 2, none⟩ = some vL
 c2 : (ws 2).cell? ⟨bx, 2, none⟩ = some vL
 e4 : ws 4 = (ws 3).setCell ⟨bx, 2, none⟩ v7
theorem Ysk {W w2 : World} {code : List (Int × Int)} {h : List Int} {e : Ending} (he : Xd W code h e w2) : ∃ lv, e = .returned lv /\ Xd W code h (.returned lv) w2 := by
 obtain ⟨v, L, rfl, r⟩ := he
 exact ⟨v, rfl, v, L, rfl, r⟩
theorem Ylm {W w2 : World} {B bx k : Nat} {code : List (Int × Int)} {h : List Int} {vH vT vL lv : Value} {xs : List Value} (hx : Xd W code h (.returned lv) w2) (xb : W.heap[bx]? = some (.cells #[vH, vT, vL, .slice none 0 0, .int .i64 0, .int .i64 0] 57 (0, 0))) (hbx : bx < W.heap.size) (hB : bx < B /\ B <= W.heap.size)
 (oL : W.ownsRow B 47 1 vL k xs) (hkn : k <= 64) : ∃ (v7 : Value) (N6 : Nat) (ws : Nat -> World), ws 0 = W /\ ws 1 = w2 /\ RkF W B bx k code h vL xs lv v7 N6 ws := by
 obtain ⟨v, L, e, g, o, hL⟩ := hx
 injection e with e
 subst e
 obtain ⟨p, c, hv⟩ := Zm o
 subst hv
 obtain ⟨ii, ii0, ii1, ii2, ii3⟩ := info_parts Zgv
 have gA := Ga w2 (.cells #[.slice p L.length c] 47) none
 have sz := g.size
 obtain ⟨v7, w3, hap, hown, hgr, _, hloc⟩ := run_append_own_at (P := Try.prog) (w := w2.alloc (.cells #[.slice p L.length c] 47)) B 41 41 47 ii (.slice none 0 0) 1 24 Zjj ii0 ii1 ii2 ii3 rfl (by decide) vL k xs (oL.kept (Za g gA) (Classical.em _)) ⟨w2.heap.size, 0, none⟩ 1 1 [.slice p L.length c] rfl (Zao w2 _ _) (Zgr _ _ _) (by unfold maxLen; omega) (by omega) (by simp; omega)
 have nb : vL.ownBlock ≠ some bx := Zan oL hB.1
 have x1 := Zc xb g (by simp)
 have x2 := Zc x1 gA (by simp)
 have x3 := Zc x2 hgr nb
 refine ⟨v7, w2.heap.size, fun m => match m with | 0 => W | 1 => w2 | 2 => w2.alloc (.cells #[.slice p L.length c] 47) | 3 => w3 | _ => w3.setCell ⟨bx, 2, none⟩ v7, rfl, rfl, ⟨⟨_, L, rfl, g, o, hL⟩, Yuq _ _ _ _, hap, hown, ?_, ?_, Cq _ _ 2 _ _ _ x3, frozen_of_row _ _ 2 _ _ x3, Cq _ _ 2 _ _ _ x1, Cq _ _ 2 _ _ _ x2, rfl⟩⟩
 · exact Za (Jh (Za g gA)) hgr
 · rcases hloc with h | h
   · exact Or.inl h
   · exact Or.inr ⟨_, h, by simp; omega⟩
theorem Zbn {l : Array Bool} {i j : Nat} (e : (l.setIfInBounds i true).getD j false = true) (h : j ≠ i) : l.getD j false = true := by
 by_cases hi : i < l.size
 · rw [Zw l i j hi, if_neg h] at e; exact e
 · rw [Array.setIfInBounds_eq_of_size_le (by omega)] at e; exact e
theorem Xba {W w' : World} {B bx k : Nat} {code : List (Int × Int)} {h : List Int} {vH vT vL lvv v7 : Value} {xs : List Value} {N6 : Nat} {ws : Nat -> World} {l : Array Bool} (hW : WCh 10 [5, 6, 7, 9] [(7, 1), (5, 2), (6, 5), (7, 6), (9, 7)] ws l w') (h7 : l.getD 7 false = false) (hs0 : ws 0 = W) (hF : l.getD 5 false = true -> RkF W B bx k code h vL xs lvv v7 N6 ws)
 (xb : W.heap[bx]? = some (.cells #[vH, vT, vL, .slice none 0 0, .int .i64 0, .int .i64 0] 57 (0, 0))) : w'.cell? ⟨bx, 2, none⟩ = some vL := by
 have c0 := Cq _ _ 2 _ _ _ xb
 rcases Bool.eq_false_or_eq_true (l.getD 5 false) with e | e
 · have hf := hF e
   obtain ⟨m, hm, rfl⟩ := Zoy hW (k := 2) (by decide) h7
   rcases (by omega : m = 0 \/ m = 1 \/ m = 2) with rfl | rfl | rfl
   · rw [hs0]; exact c0
   · exact hf.c1
   · exact hf.c2
 · rw [Zjx hW (k := 0) (by decide) e (Or.inl rfl), hs0]; exact c0
theorem Xaj {l : Array Bool} (h : l.getD 2 false = true) : ∀ p ∈ ([(7, 1), (5, 2), (6, 5), (7, 6), (9, 7)] : List (Nat × Nat)), p.1 = 5 -> l.getD p.2 false = true := by
 intro p hp e
 simp only [List.mem_cons, List.not_mem_nil, or_false] at hp
 rcases hp with rfl | rfl | rfl | rfl | rfl <;> simp only [] at e ⊢ <;> first | exact h | omega
theorem Xai {l : Array Bool} (h : l.getD 5 false = true) : ∀ p ∈ ([(7, 1), (5, 2), (6, 5), (7, 6), (9, 7)] : List (Nat × Nat)), p.1 = 6 -> l.getD p.2 false = true := by
 intro p hp e
 simp only [List.mem_cons, List.not_mem_nil, or_false] at hp
 rcases hp with rfl | rfl | rfl | rfl | rfl <;> simp only [] at e ⊢ <;> first | exact h | omega
theorem Xah {l : Array Bool} (h1 : l.getD 1 false = true) (h6 : l.getD 6 false = true) : ∀ p ∈ ([(7, 1), (5, 2), (6, 5), (7, 6), (9, 7)] : List (Nat × Nat)), p.1 = 7 -> l.getD p.2 false = true := by
 intro p hp e
 simp only [List.mem_cons, List.not_mem_nil, or_false] at hp
 rcases hp with rfl | rfl | rfl | rfl | rfl <;> simp only [] at e ⊢ <;> first | exact h1 | exact h6 | omega
theorem Xag {l : Array Bool} (h : l.getD 7 false = true) : ∀ p ∈ ([(7, 1), (5, 2), (6, 5), (7, 6), (9, 7)] : List (Nat × Nat)), p.1 = 9 -> l.getD p.2 false = true := by
 intro p hp e
 simp only [List.mem_cons, List.not_mem_nil, or_false] at hp
 rcases hp with rfl | rfl | rfl | rfl | rfl <;> simp only [] at e ⊢ <;> first | exact h | omega
theorem Ylk (W0 : World) (B bx bp k f gh n nf cF : Nat) (mem : Int) (vd vH vT vL : Value) (pF : Option Addr) (code : List (Int × Int)) (h : List Int) (xs : List Value) (CA : Calls Try.prog 39 #[.agg #[.int .i64 mem, vd, .slice pF nf cF], .int .i64 f, .slice (some ⟨gh, 0, none⟩) n n] W0.drew (Xd W0.drew code h))
 (xb : W0.heap[bx]? = some (.cells #[vH, vT, vL, .slice none 0 0, .int .i64 0, .int .i64 0] 57 (0, 0))) (pb : Yeo W0 bp mem vd (.slice pF nf cF)) (hB : bx < B /\ B <= W0.heap.size) (oL : W0.ownsRow B 47 1 vL k xs) (hkn : k <= 64)
 (a : Act) (hs : a.tmps.size = 90) (a1' : a.tmps.getD 1 undef = .pointer (some ⟨bp, 0, none⟩)) (a6' : a.tmps.getD 6 undef = .pointer (some ⟨bx, 0, none⟩)) (a7' : a.tmps.getD 7 undef = .int .i64 f) (a8' : a.tmps.getD 8 undef = .slice (some ⟨gh, 0, none⟩) n n) (Q : Exit -> Act -> World -> Prop)
 (hQ : ∀ (lvv v7 : Value) (N6 : Nat) (ws : Nat -> World), RkF W0.drew B bx k code h vL xs lvv v7 N6 ws -> Q .normal (Ja a rq (rqv bx f gh n nf cF mem vd pF vL lvv v7 N6) 10) (ws 4)) :
 Code.wp Try.prog (Ycb Try.f23 18) Q a W0 := by
 have p0 := Cq W0.drew _ 0 _ _ _ pb
 have p1 := Cq W0.drew _ 1 _ _ _ pb
 have p2 := Cq W0.drew _ 2 _ _ _ pb
 have xb : W0.drew.heap[bx]? = some (.cells #[vH, vT, vL, .slice none 0 0, .int .i64 0, .int .i64 0] 57 (0, 0)) := xb
 have hbx : bx < W0.drew.heap.size := (Gs xb)
 have hB : bx < B /\ B <= W0.drew.heap.size := hB
 have oL : W0.drew.ownsRow B 47 1 vL k xs := oL.kept (Zf (Ze W0 none)) (Classical.em _)
 have hW0 : W0.drew = W0.drew := rfl
 generalize hWd : W0.drew = W at *
 conv => arg 2; whnf
 refine Zck (n := 10) (J := fun a0 l a1 w1 => ∃ (lvv v7 : Value) (N6 : Nat) (ws : Nat -> World), RJ a0 90 10 rq (rqv bx f gh n nf cF mem vd pF vL lvv v7 N6) l a1 /\ WCh 10 [5, 6, 7, 9] [(7, 1), (5, 2), (6, 5), (7, 6), (9, 7)] ws l w1 /\ ws 0 = W /\ (l.getD 5 false = true -> RkF W B bx k code h vL xs lvv v7 N6 ws)) (by kernel_rfl) rfl (Zen (by kernel_rfl)) (fun l a1 w1 h => by obtain ⟨_, _, _, _, _, h, _⟩ := h; exact h.sz)
  ⟨undef, undef, 0, fun _ => W, Zax hs, by rw [hWd]; exact Yey 10 _ (fun _ => W) (by decide) (by decide), rfl, fun e => by rw [getD_replicate_false] at e; cases e⟩ ?step ?fin
 case step =>
  intro l a1 w' i hJJ hi hin
  obtain ⟨lvv, v7, N6, ws, hJ, hW, hs0, hF⟩ := hJJ
  have hun : l.getD i false = false := getD_both (mem_ready.1 hi).1
  rcases Yws i hin with rfl | rfl | rfl | rfl | rfl | rfl | rfl | rfl | rfl | rfl
  · have e6 : a1.tmps.getD 6 undef = .pointer (some ⟨bx, 0, none⟩) := (hJ.un 6 (fun i hi _ => Ztn 6 (by decide) i hi)).trans a6'
    exact Zj (Zq (WS := fun l w => WCh 10 [5, 6, 7, 9] [(7, 1), (5, 2), (6, 5), (7, 6), (9, 7)] ws l w) hJ rfl (by rfl) rfl (by decide) (by decide) (Zoq _ (by decide)) (w' := w') (by simp [execOp, resolve, invoke, builtin, Act.eval, e6, go_sem, rqv]) (Zhl hW (by decide) (by decide) (Zp (by decide)))) (fun a9 w9 h9 => ⟨lvv, v7, N6, ws, h9.1, h9.2, hs0, fun e => hF (Zbn e (by decide))⟩)
  · have e72 : a1.tmps.getD 72 undef = .pointer (some ⟨bx, 2, none⟩) := (hJ.sl 0 (by decide) (Zb hi 0 (by kernel_rfl)) (by decide))
    have h0 := Xba hW (Ztc hW (by decide) hun) hs0 hF xb
    exact Zj (Zq (WS := fun l w => WCh 10 [5, 6, 7, 9] [(7, 1), (5, 2), (6, 5), (7, 6), (9, 7)] ws l w) hJ rfl (by rfl) rfl (by decide) (by decide) (Zoq _ (by decide)) (w' := w') (by simp [execOp, Act.eval, e72, h0, go_sem, rqv]) (Zhl hW (by decide) (by decide) (Zp (by decide)))) (fun a9 w9 h9 => ⟨lvv, v7, N6, ws, h9.1, h9.2, hs0, fun e => hF (Zbn e (by decide))⟩)
  · have e1 : a1.tmps.getD 1 undef = .pointer (some ⟨bp, 0, none⟩) := (hJ.un 1 (fun i hi _ => Ztn 1 (by decide) i hi)).trans a1'
    have hw := Zjx hW (k := 0) (by decide) (Ztc hW (by decide) hun) (Or.inl rfl)
    rw [hs0] at hw
    exact Zj (Zq (WS := fun l w => WCh 10 [5, 6, 7, 9] [(7, 1), (5, 2), (6, 5), (7, 6), (9, 7)] ws l w) hJ rfl (by rfl) rfl (by decide) (by decide) (Zoq _ (by decide)) (w' := w') (by rw [hw]; simp [execOp, Act.eval, e1, p0, p1, p2, go_sem, rqv]) (Zhl hW (by decide) (by decide) (Zp (by decide)))) (fun a9 w9 h9 => ⟨lvv, v7, N6, ws, h9.1, h9.2, hs0, fun e => hF (Zbn e (by decide))⟩)
  · have e7 : a1.tmps.getD 7 undef = .int .i64 f := (hJ.un 7 (fun i hi _ => Ztn 7 (by decide) i hi)).trans a7'
    exact Zj (Zq (WS := fun l w => WCh 10 [5, 6, 7, 9] [(7, 1), (5, 2), (6, 5), (7, 6), (9, 7)] ws l w) hJ rfl (by rfl) rfl (by decide) (by decide) (Zoq _ (by decide)) (w' := w') (by simp [execOp, resolve, invoke, builtin, Act.eval, e7, go_sem, rqv]) (Zhl hW (by decide) (by decide) (Zp (by decide)))) (fun a9 w9 h9 => ⟨lvv, v7, N6, ws, h9.1, h9.2, hs0, fun e => hF (Zbn e (by decide))⟩)
  · have e8 : a1.tmps.getD 8 undef = .slice (some ⟨gh, 0, none⟩) n n := (hJ.un 8 (fun i hi _ => Ztn 8 (by decide) i hi)).trans a8'
    exact Zj (Zq (WS := fun l w => WCh 10 [5, 6, 7, 9] [(7, 1), (5, 2), (6, 5), (7, 6), (9, 7)] ws l w) hJ rfl (by rfl) rfl (by decide) (by decide) (Zoq _ (by decide)) (w' := w') (by simp [execOp, resolve, invoke, builtin, Act.eval, e8, go_sem, rqv]) (Zhl hW (by decide) (by decide) (Zp (by decide)))) (fun a9 w9 h9 => ⟨lvv, v7, N6, ws, h9.1, h9.2, hs0, fun e => hF (Zbn e (by decide))⟩)
  · have e74 : a1.tmps.getD 74 undef = .agg #[.int .i64 mem, vd, .slice pF nf cF] := (hJ.sl 2 (by decide) (Zb hi 2 (by kernel_rfl)) (by decide))
    have e75 : a1.tmps.getD 75 undef = .int .i64 f := (hJ.sl 3 (by decide) (Zb hi 3 (by kernel_rfl)) (by decide))
    have e76 : a1.tmps.getD 76 undef = .slice (some ⟨gh, 0, none⟩) n n := (hJ.sl 4 (by decide) (Zb hi 4 (by kernel_rfl)) (by decide))
    have l2 : l.getD 2 false = true := Zb hi 2 (by kernel_rfl)
    have hw := Zjx hW (k := 0) (by decide) hun (Or.inl rfl)
    rw [hs0] at hw
    rw [hw]
    refine Zca rfl (by rfl) (by simp [execOp, resolve, invoke, Act.eval, e74, e75, e76, go_sem]) (CA.mono fun e w2 he => ?_)
    obtain ⟨lv, rfl, hx⟩ := Ysk he
    obtain ⟨v7', N6', ws', hs0', hs1', hF'⟩ := Ylm hx xb hbx hB oL hkn
    subst hs1'
    exact ⟨lv, rfl, lv, v7', N6', ws', Zfz (val := rqv bx f gh n nf cF mem vd pF vL lv v7' N6') (Zfy hJ (Xaz l hun (Ztc hW (by decide) hun) (Ztc hW (k := 7) (i := 6) (by decide) (Ztc hW (k := 6) (i := 5) (by decide) hun)))) (by decide) (by decide) (Zoq _ (by decide)), Zlp (Ykr hW (by decide) hun (hs0'.trans hs0.symm)) rfl (by decide) hun (Or.inl rfl) (Xaj l2), hs0', fun _ => hF'⟩
  · have e77 : a1.tmps.getD 77 undef = lvv := (hJ.sl 5 (by decide) (Zb hi 5 (by kernel_rfl)) (by decide))
    have f77 := e77
    rw [Array.getD_eq_getD_getElem?] at f77
    have l5 : l.getD 5 false = true := Zb hi 5 (by kernel_rfl)
    have hFF := hF l5
    have hw := Zjx hW (k := 1) (by decide) hun (Or.inr l5)
    exact Zj (Zq (WS := fun l w => WCh 10 [5, 6, 7, 9] [(7, 1), (5, 2), (6, 5), (7, 6), (9, 7)] ws l w) hJ rfl (by rfl) rfl (by decide) (by decide) (Zoq _ (by decide)) (w' := ws 2) (by rw [hw]; simp [execOp, Act.eval, e77, f77, hFF.bs, Result.andThen, rqv]) (Zlp hW rfl (by decide) hun (Or.inr l5) (Xai l5))) (fun a9 w9 h9 => ⟨lvv, v7, N6, ws, h9.1, h9.2, hs0, fun e => hF (Zbn e (by decide))⟩)
  · have e73 : a1.tmps.getD 73 undef = vL := (hJ.sl 1 (by decide) (Zb hi 1 (by kernel_rfl)) (by decide))
    have e78 : a1.tmps.getD 78 undef = .slice (some ⟨N6, 0, none⟩) 1 1 := (hJ.sl 6 (by decide) (Zb hi 6 (by kernel_rfl)) (by decide))
    have l6 : l.getD 6 false = true := Zb hi 6 (by kernel_rfl)
    have l1 : l.getD 1 false = true := Zb hi 1 (by kernel_rfl)
    have hFF := hF (hW.x (6, 5) (by decide) l6)
    have hw := Zjx hW (k := 2) (by decide) hun (Or.inr l6)
    exact Zj (Zq (WS := fun l w => WCh 10 [5, 6, 7, 9] [(7, 1), (5, 2), (6, 5), (7, 6), (9, 7)] ws l w) hJ rfl (by rfl) rfl (by decide) (by decide) (Zoq _ (by decide)) (w' := ws 3) (by rw [hw]; simp [execOp, resolve, invoke, builtin, Act.eval, e73, e78, hFF.ap, Result.andThen, rqv]) (Zlp hW rfl (by decide) hun (Or.inr l6) (Xah l1 l6))) (fun a9 w9 h9 => ⟨lvv, v7, N6, ws, h9.1, h9.2, hs0, fun e => hF (Zbn e (by decide))⟩)
  · have e6 : a1.tmps.getD 6 undef = .pointer (some ⟨bx, 0, none⟩) := (hJ.un 6 (fun i hi _ => Ztn 6 (by decide) i hi)).trans a6'
    exact Zj (Zq (WS := fun l w => WCh 10 [5, 6, 7, 9] [(7, 1), (5, 2), (6, 5), (7, 6), (9, 7)] ws l w) hJ rfl (by rfl) rfl (by decide) (by decide) (Zoq _ (by decide)) (w' := w') (by simp [execOp, resolve, invoke, builtin, Act.eval, e6, go_sem, rqv]) (Zhl hW (by decide) (by decide) (Zp (by decide)))) (fun a9 w9 h9 => ⟨lvv, v7, N6, ws, h9.1, h9.2, hs0, fun e => hF (Zbn e (by decide))⟩)
  · have e80 : a1.tmps.getD 80 undef = .pointer (some ⟨bx, 2, none⟩) := (hJ.sl 8 (by decide) (Zb hi 8 (by kernel_rfl)) (by decide))
    have e79 : a1.tmps.getD 79 undef = v7 := (hJ.sl 7 (by decide) (Zb hi 7 (by kernel_rfl)) (by decide))
    have l7 : l.getD 7 false = true := Zb hi 7 (by kernel_rfl)
    have hFF := hF (hW.x (6, 5) (by decide) (hW.x (7, 6) (by decide) l7))
    have hw := Zjx hW (k := 3) (by decide) hun (Or.inr l7)
    have k2 := hFF.c3
    have z2 := hFF.z3
    have e4 := hFF.e4
    obtain ⟨p7, c7, hv7⟩ := Zm hFF.own
    rw [hv7] at e79 e4
    exact Zj (Zkf (WS := fun l w => WCh 10 [5, 6, 7, 9] [(7, 1), (5, 2), (6, 5), (7, 6), (9, 7)] ws l w) hJ rfl rfl rfl (by decide) (by decide) (w' := ws 4) (by rw [hw, e4]; simp [execOp, Act.eval, e79, e80, k2, z2, go_sem]) (Zlp hW rfl (by decide) hun (Or.inr l7) (Xag l7))) (fun a9 w9 h9 => ⟨lvv, v7, N6, ws, h9.1, h9.2, hs0, fun e => hF (Zbn e (by decide))⟩)
 intro l a1 w9 hJJ hl
 obtain ⟨lvv, v7, N6, ws, hJ, hW, hs0, hF⟩ := hJJ
 have hput := Zei hJ hs hl (fun i j h1 h2 h3 => Zoq j h2 i h1 h3)
 subst hput
 rw [Yrl hW hl]
 exact hQ lvv v7 N6 ws (hF (hl 5 (by decide)))
end Go.Proofs.Ytecaolkbllbokaa.CK
