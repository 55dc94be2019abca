/-
  The plain law of the checker's part: what it answers, as a function, and its bounds. Conditions: as each theorem states.
-/
import Derived.Test.YtecaolkbllbokaaTgWantAll
namespace Go.Proofs.Ytecaolkbllbokaa.TG
open Go.RowKit Go.Great
set_option linter.unusedSimpArgs false
set_option linter.unusedVariables false

/-- Where the checker stands: the next part, the loops around, the most that is wanted. -/
structure St where
  a : Nat
  l : Int
  m : Int

/-- The kids of a part, one behind the other. -/
def loopE (P : Int → St → Int × Int × St) (k : Int) : Nat → Nat → St → List Int → List Int × Int × St
  | 0, _, s, ws => (ws, 0, s)
  | r + 1, i, s, ws =>
    if (P (kidE k i) (if k = 6 ∧ i = 1 then ⟨s.a, s.l + 1, s.m⟩ else s)).2.1 ≠ 0 then (ws, (P (kidE k i) (if k = 6 ∧ i = 1 then ⟨s.a, s.l + 1, s.m⟩ else s)).2.1, (P (kidE k i) (if k = 6 ∧ i = 1 then ⟨s.a, s.l + 1, s.m⟩ else s)).2.2)
    else loopE P k r (i + 1) (if k = 6 ∧ i = 1 then ⟨(P (kidE k i) (if k = 6 ∧ i = 1 then ⟨s.a, s.l + 1, s.m⟩ else s)).2.2.a, (P (kidE k i) (if k = 6 ∧ i = 1 then ⟨s.a, s.l + 1, s.m⟩ else s)).2.2.l - 1, (P (kidE k i) (if k = 6 ∧ i = 1 then ⟨s.a, s.l + 1, s.m⟩ else s)).2.2.m⟩ else (P (kidE k i) (if k = 6 ∧ i = 1 then ⟨s.a, s.l + 1, s.m⟩ else s)).2.2) (ws ++ [(P (kidE k i) (if k = 6 ∧ i = 1 then ⟨s.a, s.l + 1, s.m⟩ else s)).1])

def stepIn (k : Int) (i : Nat) (s : St) : St := if k = 6 ∧ i = 1 then ⟨s.a, s.l + 1, s.m⟩ else s
def stepOut (k : Int) (i : Nat) (s : St) : St := if k = 6 ∧ i = 1 then ⟨s.a, s.l - 1, s.m⟩ else s

theorem loopE_zero (P : Int → St → Int × Int × St) (k : Int) (i : Nat) (s : St) (ws : List Int) : loopE P k 0 i s ws = (ws, 0, s) := rfl
theorem loopE_bad (P : Int → St → Int × Int × St) (k : Int) (r i : Nat) (s : St) (ws : List Int) (h : (P (kidE k i) (stepIn k i s)).2.1 ≠ 0) :
    loopE P k (r + 1) i s ws = (ws, (P (kidE k i) (stepIn k i s)).2.1, (P (kidE k i) (stepIn k i s)).2.2) := by
  unfold stepIn at *
  rw [loopE, if_pos h]
theorem loopE_good (P : Int → St → Int × Int × St) (k : Int) (r i : Nat) (s : St) (ws : List Int) (h : (P (kidE k i) (stepIn k i s)).2.1 = 0) :
    loopE P k (r + 1) i s ws = loopE P k r (i + 1) (stepOut k i (P (kidE k i) (stepIn k i s)).2.2) (ws ++ [(P (kidE k i) (stepIn k i s)).1]) := by
  unfold stepIn stepOut at *
  rw [loopE, if_neg (by omega)]

/-- A part with all of its own: what it wants, its fault, and where the checker stands behind it; g: how much deeper it may go. -/
def partE (nl nt : Nat) (fs : List Int) (ps : List (Int × Int × Int)) : Nat → Int → St → Int × Int × St
  | 0, what, s =>
    match ps[s.a]? with
    | none => (0, 171, s)
    | some (k, n, kc) => if aloneE nl nt fs s.l k n kc what ≠ 0 then (0, aloneE nl nt fs s.l k n kc what, s) else (0, 175, s)
  | g + 1, what, s =>
    match ps[s.a]? with
    | none => (0, 171, s)
    | some (k, n, kc) =>
      if aloneE nl nt fs s.l k n kc what ≠ 0 then (0, aloneE nl nt fs s.l k n kc what, s) else
      if (loopE (partE nl nt fs ps g) k kc.toNat 0 ⟨s.a + 1, s.l, s.m⟩ []).2.1 ≠ 0 then (0, (loopE (partE nl nt fs ps g) k kc.toNat 0 ⟨s.a + 1, s.l, s.m⟩ []).2.1, s) else
      (wantE k (loopE (partE nl nt fs ps g) k kc.toNat 0 ⟨s.a + 1, s.l, s.m⟩ []).1, 0,
        ⟨(loopE (partE nl nt fs ps g) k kc.toNat 0 ⟨s.a + 1, s.l, s.m⟩ []).2.2.a, (loopE (partE nl nt fs ps g) k kc.toNat 0 ⟨s.a + 1, s.l, s.m⟩ []).2.2.l,
          max (loopE (partE nl nt fs ps g) k kc.toNat 0 ⟨s.a + 1, s.l, s.m⟩ []).2.2.m (wantE k (loopE (partE nl nt fs ps g) k kc.toNat 0 ⟨s.a + 1, s.l, s.m⟩ []).1)⟩)

theorem partE_end (nl nt : Nat) (fs : List Int) (ps : List (Int × Int × Int)) (g : Nat) (what : Int) (s : St) (h : ps.length ≤ s.a) : partE nl nt fs ps g what s = (0, 171, s) := by
  cases g <;> rw [partE, List.getElem?_eq_none h]
theorem partE_bad (nl nt : Nat) (fs : List Int) (ps : List (Int × Int × Int)) (g : Nat) (what : Int) (s : St) (k n kc : Int) (h : ps[s.a]? = some (k, n, kc)) (he : aloneE nl nt fs s.l k n kc what ≠ 0) :
    partE nl nt fs ps g what s = (0, aloneE nl nt fs s.l k n kc what, s) := by
  cases g <;> rw [partE, h] <;> simp only [] <;> rw [if_pos he]
theorem partE_deep (nl nt : Nat) (fs : List Int) (ps : List (Int × Int × Int)) (what : Int) (s : St) (k n kc : Int) (h : ps[s.a]? = some (k, n, kc)) (he : aloneE nl nt fs s.l k n kc what = 0) :
    partE nl nt fs ps 0 what s = (0, 175, s) := by
  rw [partE, h]; simp only []; rw [if_neg (by omega)]
theorem partE_kids (nl nt : Nat) (fs : List Int) (ps : List (Int × Int × Int)) (g : Nat) (what : Int) (s : St) (k n kc : Int) (h : ps[s.a]? = some (k, n, kc)) (he : aloneE nl nt fs s.l k n kc what = 0) (r : List Int × Int × St)
    (hr : loopE (partE nl nt fs ps g) k kc.toNat 0 ⟨s.a + 1, s.l, s.m⟩ [] = r) :
    partE nl nt fs ps (g + 1) what s = if r.2.1 ≠ 0 then (0, r.2.1, s) else (wantE k r.1, 0, ⟨r.2.2.a, r.2.2.l, max r.2.2.m (wantE k r.1)⟩) := by
  rw [partE, h]; simp only []; rw [if_neg (by omega), hr]

/-- What a part leaves where it is right. -/
structure PGood (np : Nat) (g : Nat) (s : St) (q : Int × Int × St) : Prop where
  a1 : s.a < q.2.2.a
  a2 : q.2.2.a ≤ np
  l : q.2.2.l = s.l
  w0 : 0 ≤ q.1
  w1 : q.1 ≤ ((g : Int) + 1) * 70368744177664
  m : q.2.2.m = max s.m q.2.2.m
  m1 : q.2.2.m ≤ max s.m (((g : Int) + 1) * 70368744177664)

structure LGood (np : Nat) (g : Nat) (s : St) (i : Nat) (ws : List Int) (r : List Int × Int × St) (n : Nat) : Prop where
  a1 : s.a + n ≤ r.2.2.a
  a2 : r.2.2.a ≤ np
  l : r.2.2.l = s.l
  len : r.1.length = ws.length + n
  w : ∀ j, j < r.1.length → 0 ≤ r.1.getD j 0 ∧ r.1.getD j 0 ≤ (g : Int) * 70368744177664
  m : r.2.2.m = max s.m r.2.2.m
  m1 : r.2.2.m ≤ max s.m ((g : Int) * 70368744177664)

theorem snoc_bound (ws : List Int) (x B : Int) (hws : ∀ j, j < ws.length → 0 ≤ ws.getD j 0 ∧ ws.getD j 0 ≤ B) (hx : 0 ≤ x ∧ x ≤ B) : ∀ j, j < (ws ++ [x]).length → 0 ≤ (ws ++ [x]).getD j 0 ∧ (ws ++ [x]).getD j 0 ≤ B := by
  intro j hj
  by_cases h : j < ws.length
  · have : (ws ++ [x]).getD j 0 = ws.getD j 0 := by simp [List.getD, List.getElem?_append_left h]
    rw [this]; exact hws j h
  · have e : j = ws.length := by simp at hj; omega
    have : (ws ++ [x]).getD j 0 = x := by simp [List.getD, e]
    rw [this]; exact hx

theorem loopE_good_all (np g : Nat) (P : Int → St → Int × Int × St) (k : Int) (hP : ∀ what s, s.a ≤ np → (P what s).2.1 = 0 → PGood np g s (P what s)) :
    ∀ n i s ws, s.a ≤ np → (∀ j, j < ws.length → 0 ≤ ws.getD j 0 ∧ ws.getD j 0 ≤ ((g : Int) + 1) * 70368744177664) → (loopE P k n i s ws).2.1 = 0 → LGood np (g + 1) s i ws (loopE P k n i s ws) n
  | 0, i, s, ws, ha, hws, _ => by
    rw [loopE_zero]
    refine ⟨by simp, ha, rfl, by simp, ?_, by simp, by simp only []; omega⟩
    intro j hj
    have := hws j hj
    push_cast
    exact this
  | n + 1, i, s, ws, ha, hws, he => by
    by_cases hb : (P (kidE k i) (stepIn k i s)).2.1 = 0
    · rw [loopE_good P k n i s ws hb] at he ⊢
      have G := hP _ _ (by unfold stepIn; split <;> exact ha) hb
      have hl : (stepOut k i (P (kidE k i) (stepIn k i s)).2.2).l = s.l := by
        have := G.l
        generalize P (kidE k i) (stepIn k i s) = q at this
        by_cases c : k = 6 ∧ (i : Nat) = 1
        · have e1 : (stepIn k i s).l = s.l + 1 := by unfold stepIn; rw [if_pos c]
          have e2 : (stepOut k i q.2.2).l = q.2.2.l - 1 := by unfold stepOut; rw [if_pos c]
          omega
        · have e1 : (stepIn k i s).l = s.l := by unfold stepIn; rw [if_neg c]
          have e2 : (stepOut k i q.2.2).l = q.2.2.l := by unfold stepOut; rw [if_neg c]
          omega
      have haS : (stepIn k i s).a = s.a := by unfold stepIn; split <;> rfl
      have hmS : (stepIn k i s).m = s.m := by unfold stepIn; split <;> rfl
      have haO : ∀ s, (stepOut k i s).a = s.a := by intro s; unfold stepOut; split <;> rfl
      have hmO : ∀ s, (stepOut k i s).m = s.m := by intro s; unfold stepOut; split <;> rfl
      have R := loopE_good_all np g P k hP n (i + 1) _ _ (by rw [haO]; exact G.a2) (snoc_bound ws _ _ hws ⟨G.w0, G.w1⟩) he
      have g1 := G.a1
      have g2 := G.m
      have g3 := G.m1
      obtain ⟨r1, r2, r3, r4, r5, r6, r7⟩ := R
      rw [haO] at r1
      rw [hmO] at r6 r7
      rw [haS] at g1
      rw [hmS] at g2 g3
      generalize loopE P k n (i + 1) _ _ = r at *
      refine ⟨by omega, r2, by rw [r3, hl], by rw [List.length_append, List.length_singleton] at r4; omega, r5, ?_, ?_⟩
      · omega
      · push_cast at r7 ⊢; omega
    · rw [loopE_bad P k n i s ws hb] at he
      exact absurd he hb

theorem needs_of (nl nt : Nat) (fs : List Int) (l k n kc what : Int) (h : aloneE nl nt fs l k n kc what = 0) : needs k kc.toNat ∧ 1 ≤ k ∧ k < 27 := by
  unfold aloneE at h
  split at h
  · exact absurd h (by decide)
  split at h
  · exact absurd h (by decide)
  split at h
  · rename_i hx; exact absurd h hx
  refine ⟨?_, by omega, by omega⟩
  unfold kidsE at h
  unfold needs
  constructor
  · intro hk
    rw [if_neg (by omega), if_neg (by omega), if_neg (by omega), if_neg (by omega), if_neg (by omega), if_pos (by omega)] at h
    split at h
    · omega
    · exact absurd h (by decide)
  · intro hk
    by_cases h5 : k = 5
    · rw [if_neg (by omega), if_neg (by omega), if_neg (by omega), if_pos (by omega)] at h
      split at h
      · omega
      · exact absurd h (by decide)
    · by_cases h6 : k = 6
      · rw [if_neg (by omega), if_neg (by omega), if_neg (by omega), if_neg (by omega), if_neg (by omega), if_pos (by omega)] at h
        split at h
        · omega
        · exact absurd h (by decide)
      · rw [if_neg (by omega), if_neg (by omega), if_neg (by omega), if_neg (by omega), if_pos (by omega)] at h
        split at h
        · omega
        · exact absurd h (by decide)

theorem partE_good (nl nt : Nat) (fs : List Int) (ps : List (Int × Int × Int)) (hps : ps.length ≤ 17592186044416) : ∀ g what s, s.a ≤ ps.length → (partE nl nt fs ps g what s).2.1 = 0 → PGood ps.length g s (partE nl nt fs ps g what s)
  | 0, what, s, ha, he => by
    by_cases c1 : ps.length ≤ s.a
    · rw [partE_end nl nt fs ps 0 what s c1] at he; exact absurd he (by simp)
    obtain ⟨⟨k, n, kc⟩, hp⟩ : ∃ x, ps[s.a]? = some x := ⟨_, List.getElem?_eq_getElem (by omega)⟩
    by_cases c2 : aloneE nl nt fs s.l k n kc what = 0
    · rw [partE_deep nl nt fs ps what s k n kc hp c2] at he; exact absurd he (by simp)
    · rw [partE_bad nl nt fs ps 0 what s k n kc hp c2] at he; exact absurd he c2
  | g + 1, what, s, ha, he => by
    by_cases c1 : ps.length ≤ s.a
    · rw [partE_end nl nt fs ps _ what s c1] at he; exact absurd he (by simp)
    obtain ⟨⟨k, n, kc⟩, hp⟩ : ∃ x, ps[s.a]? = some x := ⟨_, List.getElem?_eq_getElem (by omega)⟩
    by_cases c2 : aloneE nl nt fs s.l k n kc what = 0
    · have L := loopE_good_all ps.length g (partE nl nt fs ps g) k (fun what s h h0 => partE_good nl nt fs ps hps g what s h h0) kc.toNat 0 ⟨s.a + 1, s.l, s.m⟩ [] (by simp only []; omega) (fun j hj => absurd hj (by simp))
      rw [partE_kids nl nt fs ps g what s k n kc hp c2 _ rfl] at he ⊢
      generalize loopE (partE nl nt fs ps g) k kc.toNat 0 ⟨s.a + 1, s.l, s.m⟩ [] = r at *
      by_cases c3 : r.2.1 = 0
      · rw [if_neg (by omega)]
        obtain ⟨r1, r2, r3, r4, r5, r6, r7⟩ := L c3
        have W := wantE_bound k r.1 _ (by omega) r5
        simp only [List.length_nil, Nat.zero_add] at r4
        simp only [] at r1 r3 r6 r7
        have hb : r.1.length ≤ 17592186044416 := by omega
        refine ⟨by simp only []; omega, r2, r3, W.1, ?_, ?_, ?_⟩
        · simp only []; push_cast at W ⊢; omega
        · simp only []; omega
        · simp only []; push_cast at W r7 ⊢; omega
      · rw [if_pos c3] at he; exact absurd he c3
    · rw [partE_bad nl nt fs ps _ what s k n kc hp c2] at he; exact absurd he c2

end Go.Proofs.Ytecaolkbllbokaa.TG
