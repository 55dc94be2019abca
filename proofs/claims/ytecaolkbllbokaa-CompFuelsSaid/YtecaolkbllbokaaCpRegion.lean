/-
  A region in whatever order, its operations' values known ahead: the frame behind it is the one of the text's order. Conditions: as each theorem states.
-/
import Derived.Test.YtecaolkbllbokaaCpWrite
namespace Go.Proofs.Ytecaolkbllbokaa.TG
open Go.RowKit Go.Great
set_option linter.unusedSimpArgs false
set_option linter.unusedVariables false

theorem tmN_put {a : Act} {N d : Nat} {v : Value} (hs : a.tmps.size = N) (hd : d < N) (e : Nat) : tm (a.put (some d) v) e = if e = d then v else tm a e := by
  unfold tm Act.put
  by_cases h : e = d
  · subst h; simp [hs, hd]
  · rw [if_neg h]; simp [Array.getD_eq_getD_getElem?, Array.getElem?_setIfInBounds_ne (Ne.symm h)]
theorem sizeN_put {a : Act} {N : Nat} {d : Option Tmp} {v : Value} (hs : a.tmps.size = N) : (a.put d v).tmps.size = N := by cases d <;> simp [Act.put, hs]

/-- The frame where the operations of l have come up. -/
structure RJ (a0 : Act) (N n : Nat) (dst : Nat → Nat) (val : Nat → Value) (l : Array Bool) (a : Act) : Prop where
  sz : l.size = n
  ts : a.tmps.size = N
  df : a.defers = a0.defers
  sl : ∀ i, i < n → l.getD i false = true → dst i < N → tm a (dst i) = val i
  un : ∀ j, (∀ i, i < n → l.getD i false = true → dst i ≠ j) → tm a j = tm a0 j

theorem rj_put {a0 a : Act} {N n i : Nat} {dst : Nat → Nat} {val : Nat → Value} {l : Array Bool} (h : RJ a0 N n dst val l a) (hi : i < n) (hd : dst i < N) (hne : ∀ j, j < n → j ≠ i → dst j ≠ dst i) :
    RJ a0 N n dst val (l.setIfInBounds i true) (a.put (some (dst i)) (val i)) := by
  have hgs : ∀ j, (l.setIfInBounds i true).getD j false = if j = i then true else l.getD j false := fun j => getD_set l i j (by rw [h.sz]; exact hi)
  have T : ∀ e, tm (a.put (some (dst i)) (val i)) e = if e = dst i then val i else tm a e := fun e => tmN_put h.ts hd e
  refine ⟨by simp [h.sz], sizeN_put h.ts, h.df, fun j hj hl hdj => ?_, fun j hj => ?_⟩
  · rw [hgs] at hl
    by_cases hji : j = i
    · subst hji; rw [T, if_pos rfl]
    · rw [if_neg hji] at hl
      rw [T, if_neg (hne j hj hji)]
      exact h.sl j hj hl hdj
  · have h1 := hj i hi (by rw [hgs, if_pos rfl])
    rw [T, if_neg (Ne.symm h1)]
    refine h.un j fun i' hi' hl' => hj i' hi' ?_
    rw [hgs]
    by_cases e : i' = i
    · rw [if_pos e]
    · rw [if_neg e]; exact hl'

theorem rj_none {a0 a : Act} {N n i : Nat} {dst : Nat → Nat} {val : Nat → Value} {l : Array Bool} (h : RJ a0 N n dst val l a) (hi : i < n) (hd : N ≤ dst i) : RJ a0 N n dst val (l.setIfInBounds i true) a := by
  have hgs : ∀ j, (l.setIfInBounds i true).getD j false = if j = i then true else l.getD j false := fun j => getD_set l i j (by rw [h.sz]; exact hi)
  refine ⟨by simp [h.sz], h.ts, h.df, fun j hj hl hdj => ?_, fun j hj => ?_⟩
  · rw [hgs] at hl
    by_cases hji : j = i
    · subst hji; omega
    · rw [if_neg hji] at hl; exact h.sl j hj hl hdj
  · refine h.un j fun i' hi' hl' => hj i' hi' ?_
    rw [hgs]
    by_cases e : i' = i
    · rw [if_pos e]
    · rw [if_neg e]; exact hl'

theorem rj_start {a0 : Act} {N n : Nat} {dst : Nat → Nat} {val : Nat → Value} (hs : a0.tmps.size = N) : RJ a0 N n dst val (Array.replicate n false) a0 :=
  ⟨by simp, hs, rfl, fun i hi hl _ => (by rw [getD_replicate_false] at hl; cases hl), fun j _ => rfl⟩

theorem act_ext {a b : Act} (hs : a.tmps.size = b.tmps.size) (hd : a.defers = b.defers) (ht : ∀ j, j < a.tmps.size → tm a j = tm b j) : a = b := by
  obtain ⟨ta, da⟩ := a
  obtain ⟨tb, db⟩ := b
  simp only at hs hd
  subst hd
  congr 1
  refine Array.ext hs fun j h1 h2 => ?_
  have := ht j h1
  simpa [tm, h1, h2] using this

theorem rj_end {a0 a aF : Act} {N n : Nat} {dst : Nat → Nat} {val : Nat → Value} {l : Array Bool} (h : RJ a0 N n dst val l a) (hl : ∀ j, j < n → l.getD j false = true) (hs : aF.tmps.size = N) (hd : aF.defers = a0.defers)
    (hv : ∀ i, i < n → dst i < N → tm aF (dst i) = val i) (hu : ∀ j, (∀ i, i < n → dst i ≠ j) → tm aF j = tm a0 j) : a = aF := by
  refine act_ext (h.ts.trans hs.symm) (h.df.trans hd.symm) fun j hj => ?_
  by_cases he : ∃ i, i < n ∧ dst i = j
  · obtain ⟨i, hi, rfl⟩ := he
    have hN : dst i < N := by rw [← h.ts]; exact hj
    rw [h.sl i hi (hl i hi) hN, hv i hi hN]
  · have hne : ∀ i, i < n → dst i ≠ j := fun i hi e => he ⟨i, hi, e⟩
    rw [h.un j (fun i hi _ => hne i hi), hu j hne]

/-- Puts, one behind the other. -/
def putsF (a0 : Act) (dst : Nat → Nat) (val : Nat → Value) : Nat → Act
  | 0 => a0
  | n + 1 => (putsF a0 dst val n).put (some (dst n)) (val n)

theorem putsF_size {a0 : Act} {N : Nat} {dst : Nat → Nat} {val : Nat → Value} (hs : a0.tmps.size = N) : ∀ n, (putsF a0 dst val n).tmps.size = N
  | 0 => hs
  | n + 1 => sizeN_put (putsF_size hs n)
theorem putsF_defers {a0 : Act} {dst : Nat → Nat} {val : Nat → Value} : ∀ n, (putsF a0 dst val n).defers = a0.defers
  | 0 => rfl
  | n + 1 => putsF_defers n
theorem putsF_in {a0 : Act} {N : Nat} {dst : Nat → Nat} {val : Nat → Value} (hs : a0.tmps.size = N) : ∀ n, (∀ i j, i < n → j < n → i ≠ j → dst i ≠ dst j) → ∀ i, i < n → dst i < N → tm (putsF a0 dst val n) (dst i) = val i
  | 0, _, i, hi, _ => by omega
  | n + 1, hne, i, hi, hd => by
    rw [putsF]
    by_cases e : i = n
    · subst e; rw [tmN_put (putsF_size hs i) hd, if_pos rfl]
    · have h1 := putsF_in (a0 := a0) (val := val) hs n (fun i j h1 h2 => hne i j (by omega) (by omega)) i (by omega) hd
      by_cases hn : dst n < N
      · rw [tmN_put (putsF_size hs n) hn, if_neg (hne i n (by omega) (by omega) e)]; exact h1
      · have : ∀ v, tm ((putsF a0 dst val n).put (some (dst n)) v) (dst i) = tm (putsF a0 dst val n) (dst i) := by
          intro v
          unfold tm Act.put
          simp [Array.getD_eq_getD_getElem?, Array.getElem?_setIfInBounds_ne (hne n i (by omega) (by omega) (Ne.symm e))]
        rw [this]; exact h1
theorem putsF_out {a0 : Act} {dst : Nat → Nat} {val : Nat → Value} : ∀ n j, (∀ i, i < n → dst i ≠ j) → tm (putsF a0 dst val n) j = tm a0 j
  | 0, _, _ => rfl
  | n + 1, j, h => by
    rw [putsF]
    have : tm ((putsF a0 dst val n).put (some (dst n)) (val n)) j = tm (putsF a0 dst val n) j := by
      unfold tm Act.put
      simp [Array.getD_eq_getD_getElem?, Array.getElem?_setIfInBounds_ne (h n (by omega))]
    rw [this]
    exact putsF_out n j (fun i hi => h i (by omega))

theorem rj_puts {a0 a : Act} {N n : Nat} {dst : Nat → Nat} {val : Nat → Value} {l : Array Bool} (h : RJ a0 N n dst val l a) (h0 : a0.tmps.size = N) (hl : ∀ j, j < n → l.getD j false = true) (hne : ∀ i j, i < n → j < n → i ≠ j → dst i ≠ dst j) : a = putsF a0 dst val n :=
  rj_end h hl (putsF_size h0 n) (putsF_defers n) (putsF_in h0 n hne) (putsF_out n)

section
variable {ops : Array Oper} {Q : Exit → Act → World → Prop} {a0 a : Act} {N n i : Nat} {dst : Nat → Nat} {val : Nat → Value} {l : Array Bool} {w w' : World} {WS : Array Bool → World → Prop} {o : Oper}

theorem rg_value (hJ : RJ a0 N n dst val l a) (ho : ops[i]? = some o) (hg : o.guard = none) (hdst : o.dst = some (dst i)) (hi : i < n) (hd : dst i < N) (hne : ∀ j, j < n → j ≠ i → dst j ≠ dst i) (hrun : (execOp a.eval o).run Try.prog w = .ok (.value (val i)) w') (hW : WS (l.setIfInBounds i true) w') :
    wpOp Try.prog ops Q i (fun a' w'' => RJ a0 N n dst val (l.setIfInBounds i true) a' ∧ WS (l.setIfInBounds i true) w'') a w := by
  refine wpOp_value ho hg hrun ?_
  rw [hdst]
  exact ⟨rj_put hJ hi hd hne, hW⟩

theorem rg_skip (hJ : RJ a0 N n dst val l a) (ho : ops[i]? = some o) (hg : o.guard = none) (hdst : o.dst = none) (hi : i < n) (hd : N ≤ dst i) (hrun : (execOp a.eval o).run Try.prog w = .ok .skip w') (hW : WS (l.setIfInBounds i true) w') :
    wpOp Try.prog ops Q i (fun a' w'' => RJ a0 N n dst val (l.setIfInBounds i true) a' ∧ WS (l.setIfInBounds i true) w'') a w :=
  wpOp_skip ho hg hdst hrun ⟨rj_none hJ hi hd, hW⟩
end

/-! ### The region that appends a function to the program's -/
def dR (i : Nat) : Nat := if i < 15 then 79 + i else 1000
def vR (P0 C0 Bd N12 : Nat) (args len : Int) (vl vout v13 : Value) : Nat → Value
  | 0 => .pointer (some ⟨P0, 2, none⟩)
  | 1 => .slice none 0 0
  | 2 => .pointer (some ⟨C0, 1, none⟩)
  | 3 => .int .i64 args
  | 4 => .pointer (some ⟨C0, 2, none⟩)
  | 5 => vl
  | 6 => .int .i64 len
  | 7 => .pointer (some ⟨Bd, 0, none⟩)
  | 8 => .pointer (some ⟨Bd, 0, none⟩)
  | 9 => .pointer (some ⟨Bd, 6, none⟩)
  | 10 => vout
  | 11 => .agg #[.int .i64 args, .int .i64 len, .int .i64 1, vout]
  | 12 => .slice (some ⟨N12, 0, none⟩) 1 1
  | 13 => v13
  | 14 => .pointer (some ⟨P0, 2, none⟩)
  | _ => undef

/-- The worlds on the way. -/
structure WS25 (W W1 w11 w15 : World) (l : Array Bool) (w : World) : Prop where
  st : (l.getD 12 false = false ∧ l.getD 13 false = false ∧ l.getD 15 false = false ∧ w = W) ∨ (l.getD 12 false = true ∧ l.getD 13 false = false ∧ l.getD 15 false = false ∧ w = W1) ∨ (l.getD 13 false = true ∧ l.getD 15 false = false ∧ w = w11) ∨ (l.getD 13 false = true ∧ l.getD 15 false = true ∧ w = w15)
  sz : l.size = 16
  c1 : l.getD 13 false = true → l.getD 1 false = true ∧ l.getD 12 false = true

theorem ws_same {W W1 w11 w15 w : World} {l : Array Bool} {i : Nat} (h : WS25 W W1 w11 w15 l w) (h12 : i ≠ 12) (h13 : i ≠ 13) (h15 : i ≠ 15) : WS25 W W1 w11 w15 (l.setIfInBounds i true) w := by
  have hgs : ∀ j, j ≠ i → (l.setIfInBounds i true).getD j false = l.getD j false := fun j hj => by
    simp [Array.getD_eq_getD_getElem?, Array.getElem?_setIfInBounds_ne (Ne.symm hj)]
  have hup : ∀ j, l.getD j false = true → (l.setIfInBounds i true).getD j false = true := fun j hj => by
    by_cases e : j = i
    · subst e
      have : j < l.size := by
        rcases Nat.lt_or_ge j l.size with h' | h'
        · exact h'
        · simp [Array.getElem?_eq_none h'] at hj
      simp [this]
    · rw [hgs j e]; exact hj
  refine ⟨?_, by simp [h.sz], fun h1 => ?_⟩
  · rw [hgs 12 (Ne.symm h12), hgs 13 (Ne.symm h13), hgs 15 (Ne.symm h15)]; exact h.st
  · rw [hgs 13 (Ne.symm h13)] at h1
    exact ⟨hup _ (h.c1 h1).1, hup _ (h.c1 h1).2⟩

theorem ws_12 {W W1 w11 w15 w : World} {l : Array Bool} (h : WS25 W W1 w11 w15 l w) (hun : l.getD 12 false = false) : w = W ∧ WS25 W W1 w11 w15 (l.setIfInBounds 12 true) W1 := by
  have hgs : ∀ j, (l.setIfInBounds 12 true).getD j false = if j = 12 then true else l.getD j false := fun j => getD_set l 12 j (by rw [h.sz]; decide)
  rcases h.st with ⟨_, h2, h3, e⟩ | ⟨h1, _⟩ | ⟨h1, _⟩ | ⟨h1, _⟩
  · refine ⟨e, Or.inr (Or.inl ⟨by rw [hgs]; rfl, by rw [hgs]; exact h2, by rw [hgs]; exact h3, rfl⟩), by simp [h.sz], fun h4 => ?_⟩
    rw [hgs] at h4
    rw [if_neg (by decide), h2] at h4; cases h4
  · rw [h1] at hun; cases hun
  · rw [(h.c1 h1).2] at hun; cases hun
  · rw [(h.c1 h1).2] at hun; cases hun

theorem ws_13 {W W1 w11 w15 w : World} {l : Array Bool} (h : WS25 W W1 w11 w15 l w) (hun : l.getD 13 false = false) (h12 : l.getD 12 false = true) (h1 : l.getD 1 false = true) : w = W1 ∧ WS25 W W1 w11 w15 (l.setIfInBounds 13 true) w11 := by
  have hgs : ∀ j, (l.setIfInBounds 13 true).getD j false = if j = 13 then true else l.getD j false := fun j => getD_set l 13 j (by rw [h.sz]; decide)
  rcases h.st with ⟨h2, _⟩ | ⟨_, _, h3, e⟩ | ⟨h2, _⟩ | ⟨h2, _⟩
  · rw [h2] at h12; cases h12
  · refine ⟨e, Or.inr (Or.inr (Or.inl ⟨by rw [hgs]; rfl, by rw [hgs]; exact h3, rfl⟩)), by simp [h.sz], fun _ => ⟨by rw [hgs]; exact h1, by rw [hgs]; exact h12⟩⟩
  · rw [h2] at hun; cases hun
  · rw [h2] at hun; cases hun

theorem ws_15 {W W1 w11 w15 w : World} {l : Array Bool} (h : WS25 W W1 w11 w15 l w) (hun : l.getD 15 false = false) (h13 : l.getD 13 false = true) : w = w11 ∧ WS25 W W1 w11 w15 (l.setIfInBounds 15 true) w15 := by
  have hgs : ∀ j, (l.setIfInBounds 15 true).getD j false = if j = 15 then true else l.getD j false := fun j => getD_set l 15 j (by rw [h.sz]; decide)
  have hc := h.c1 h13
  rcases h.st with ⟨_, h2, _⟩ | ⟨_, h2, _⟩ | ⟨_, _, e⟩ | ⟨_, h2, _⟩
  · rw [h2] at h13; cases h13
  · rw [h2] at h13; cases h13
  · exact ⟨e, Or.inr (Or.inr (Or.inr ⟨by rw [hgs]; exact h13, by rw [hgs]; rfl, rfl⟩)), by simp [h.sz], fun _ => ⟨by rw [hgs]; exact hc.1, by rw [hgs]; exact hc.2⟩⟩
  · rw [h2] at hun; cases hun

theorem ws_end {W W1 w11 w15 w : World} {l : Array Bool} (h : WS25 W W1 w11 w15 l w) (h15 : l.getD 15 false = true) : w = w15 := by
  rcases h.st with ⟨_, _, h2, _⟩ | ⟨_, _, h2, _⟩ | ⟨_, h2, _⟩ | ⟨_, _, e⟩
  · rw [h2] at h15; cases h15
  · rw [h2] at h15; cases h15
  · rw [h2] at h15; cases h15
  · exact e

/-- Where op 1 has not come up, nothing is written yet. -/
theorem ws_low {W W1 w11 w15 w : World} {l : Array Bool} (h : WS25 W W1 w11 w15 l w) (hun : l.getD 1 false = false) : w = W ∨ w = W1 := by
  rcases h.st with ⟨_, _, _, e⟩ | ⟨_, _, _, e⟩ | ⟨h2, _⟩ | ⟨h2, _⟩
  · exact Or.inl e
  · exact Or.inr e
  · rw [(h.c1 h2).1] at hun; cases hun
  · rw [(h.c1 h2).1] at hun; cases hun
theorem ws_any {W W1 w11 w15 w : World} {l : Array Bool} (h : WS25 W W1 w11 w15 l w) : w = W ∨ w = W1 ∨ w = w11 ∨ w = w15 := by
  rcases h.st with ⟨_, _, _, e⟩ | ⟨_, _, _, e⟩ | ⟨_, _, e⟩ | ⟨_, _, e⟩
  · exact Or.inl e
  · exact Or.inr (Or.inl e)
  · exact Or.inr (Or.inr (Or.inl e))
  · exact Or.inr (Or.inr (Or.inr e))
theorem ws_start (W W1 w11 w15 : World) : WS25 W W1 w11 w15 (Array.replicate 16 false) W :=
  ⟨Or.inl ⟨getD_replicate_false _ _, getD_replicate_false _ _, getD_replicate_false _ _, rfl⟩, by simp, fun h => by rw [getD_replicate_false] at h; cases h⟩

theorem dR_ge (i : Nat) : 79 ≤ dR i := by unfold dR; split <;> omega
theorem dR_ne : ∀ i, i < 16 → ∀ j, j < 16 → j ≠ i → dR j ≠ dR i := by decide

theorem region_rj {id : Nat} {ops : Array Oper} {Q : Exit → Act → World → Prop} {a0 : Act} {w : World} {N n : Nat} {dst : Nat → Nat} {val : Nat → Value} {WS : Array Bool → World → Prop}
    (hm : Try.prog.follows .mixedOrders = true) (h0 : a0.tmps.size = N) (hn : ops.size = n) (hdag : ∀ (j : Nat) (o : Oper), ops[j]? = some o → ∀ e ∈ o.after, e.on < j) (hW : WS (Array.replicate n false) w.drew)
    (step : ∀ l a w i, RJ a0 N n dst val l a → WS l w → i ∈ Region.ready .any ops l → wpOp Try.prog ops Q i (fun a' w' => RJ a0 N n dst val (l.setIfInBounds i true) a' ∧ WS (l.setIfInBounds i true) w') a w)
    (fin : ∀ l a w, RJ a0 N n dst val l a → WS l w → (∀ j, j < n → l.getD j false = true) → Q .normal a w) : (Code.region id ops true).wp Try.prog Q a0 w := by
  subst hn
  refine wp_region_any hm ?_
  refine wpAny_inv (fun l a w => RJ a0 N ops.size dst val l a ∧ WS l w) (fun l a w i hJ hi => step l a w i hJ.1 hJ.2 hi) (fun l a w hJ hr => fin l a w hJ.1 hJ.2 (all_listed hdag hr hJ.1.sz)) _ _ _ _ ⟨rj_start h0, hW⟩ (by simp)

theorem un_lt16 (i : Nat) (h : i < 16) : i = 0 ∨ i = 1 ∨ i = 2 ∨ i = 3 ∨ i = 4 ∨ i = 5 ∨ i = 6 ∨ i = 7 ∨ i = 8 ∨ i = 9 ∨ i = 10 ∨ i = 11 ∨ i = 12 ∨ i = 13 ∨ i = 14 ∨ i = 15 := by omega

end Go.Proofs.Ytecaolkbllbokaa.TG
