/-
  The reference's lines, made whole, are what the compiler writes. Plain Lean. Conditions: as each theorem states.
  The reference's lines, made whole, are what the compiler writes: parts of all kinds. Plain Lean. Conditions: as each theorem states.
  The reference's Compile for any unit. Conditions: as each theorem states.
  The reference's Origin for any unit. Conditions: as each theorem states.
  The law CompOrigins. Conditions: as each theorem states.
  A unit that is handed in: its reading gives plain data, its cells and its sizes. Conditions: as each theorem states.
-/
import Derived.Test.YtecaolkbllbokaaMB28
import Derived.Test.YtecaolkbllbokaaMB16
import Derived.Test.YtecaolkbllbokaaMB29
import Derived.Test.YtecaolkbllbokaaMB17
import Derived.Test.YtecaolkbllbokaaMB14
import Derived.Test.YtecaolkbllbokaaMB10
import Derived.Test.YtecaolkbllbokaaRows
import Derived.Deep.Strs
import Derived.ChangeArms
namespace Go.Proofs.Ytecaolkbllbokaa.TG
open Go.RowKit Go.Great
set_option linter.unusedSimpArgs false
set_option linter.unusedVariables false

abbrev Vs := List (Nat × List Nat)
def bgV (V : Vs) (n : Nat) : Nat := (V.getD n (0, [])).1
def noteV (V : Vs) (n j : Nat) : Vs := V.set n ((V.getD n (0, [])).1, (V.getD n (0, [])).2 ++ [j])

/-- A line at place i, where the loops around begin at bg. -/
def resL (bg : Nat → Nat) (i : Nat) (x : Ln) : Int × Int := (x.op, if 0 < x.out then (bg (x.out - 1).toNat : Int) else bif x.j then x.a + (i : Int) else x.a)
def absL (bg : Nat → Nat) : Nat → List Ln → List (Int × Int)
  | _, [] => []
  | i, x :: r => resL bg i x :: absL bg (i + 1) r
def absV : Vs → Nat → List Ln → Vs
  | V, _, [] => V
  | V, i, x :: r => absV (if 0 < x.out ∧ x.ag = false then noteV V (x.out - 1).toNat i else V) (i + 1) r
def partsL (R : List Ln) : List Int := R.map fun x => x.part

theorem absL_length (bg : Nat → Nat) : ∀ (i : Nat) (R : List Ln), (absL bg i R).length = R.length
  | i, [] => rfl
  | i, x :: r => by simp [absL, absL_length bg (i + 1) r]
theorem absL_append (bg : Nat → Nat) : ∀ (i : Nat) (R S : List Ln), absL bg i (R ++ S) = absL bg i R ++ absL bg (i + R.length) S
  | i, [], S => by simp [absL]
  | i, x :: r, S => by simp only [List.cons_append, absL, absL_append bg (i + 1) r S, List.length_cons]; congr 2; congr 1; omega
theorem absV_append : ∀ (V : Vs) (i : Nat) (R S : List Ln), absV V i (R ++ S) = absV (absV V i R) (i + R.length) S
  | V, i, [], S => by simp [absV]
  | V, i, x :: r, S => by
    simp only [List.cons_append, absV, absV_append _ (i + 1) r S, List.length_cons]
    congr 1; omega
theorem bg_note (V : Vs) (n j : Nat) : bgV (noteV V n j) = bgV V := by
  funext m
  unfold bgV noteV
  rw [List.getD_eq_getElem?_getD, List.getD_eq_getElem?_getD, List.getElem?_set]
  by_cases h : n = m
  · subst h
    rw [if_pos rfl]
    by_cases hl : n < V.length
    · simp [hl]
    · simp [hl]
  · rw [if_neg h, List.getD_eq_getElem?_getD]
theorem bg_absV : ∀ (V : Vs) (i : Nat) (R : List Ln), bgV (absV V i R) = bgV V
  | V, i, [] => rfl
  | V, i, x :: r => by
    rw [absV, bg_absV]
    split
    · exact bg_note V _ _
    · rfl
theorem note_length (V : Vs) (n j : Nat) : (noteV V n j).length = V.length := by unfold noteV; simp
theorem absV_length : ∀ (V : Vs) (i : Nat) (R : List Ln), (absV V i R).length = V.length
  | V, i, [] => rfl
  | V, i, x :: r => by
    rw [absV, absV_length]
    split
    · exact note_length V _ _
    · rfl

/-- s' is s, and these lines behind it. -/
def Wr (R : List Ln) (s s' : PS) : Prop := s' = ⟨s.out ++ absL (bgV s.V) s.out.length R, s.org ++ partsL R, absV s.V s.out.length R⟩

theorem wr_nil (s : PS) : Wr [] s s := by simp [Wr, absL, absV, partsL]
theorem wr_len {R : List Ln} {s s' : PS} (h : Wr R s s') : s'.out.length = s.out.length + R.length := by
  rw [h]; simp [absL_length]
theorem wr_V {R : List Ln} {s s' : PS} (h : Wr R s s') : s'.V.length = s.V.length := by
  rw [h]; exact absV_length _ _ _
theorem wr_bg {R : List Ln} {s s' : PS} (h : Wr R s s') : bgV s'.V = bgV s.V := by
  rw [h]; exact bg_absV _ _ _
theorem wr_app {R1 R2 : List Ln} {s s1 s2 : PS} (h1 : Wr R1 s s1) (h2 : Wr R2 s1 s2) : Wr (R1 ++ R2) s s2 := by
  have hl := wr_len h1
  have hb := wr_bg h1
  unfold Wr at h2
  rw [hb, hl] at h2
  rw [h2]
  unfold Wr at *
  rw [h1]
  simp only [partsL, absL_append, absV_append, List.map_append, List.append_assoc]
theorem wr_emit (s : PS) (a : Nat) (op x : Int) : Wr [lineL a op x] s (s.emit a (op, x)) := by
  simp [Wr, PS.emit, absL, absV, partsL, lineL, resL]
theorem wr_emits (a : Nat) : ∀ (l : List (Int × Int)) (s : PS), Wr (l.map fun x => lineL a x.1 x.2) s (PS.emits s a l)
  | [], s => wr_nil s
  | x :: r, s => by
    rw [List.map_cons, PS.emits]
    exact wr_app (R1 := [lineL a x.1 x.2]) (wr_emit s a x.1 x.2) (wr_emits a r _)

theorem setA_mid (A B : List (Int × Int)) (x y v : Int) : setA (A ++ (x, y) :: B) A.length v = A ++ (x, v) :: B := by
  unfold setA
  rw [List.getD_eq_getElem?_getD, List.getElem?_append_right (Nat.le_refl _), List.set_append_right _ _ (Nat.le_refl _)]
  simp
theorem setA_at {A B : List (Int × Int)} {x y v : Int} {n : Nat} (h : n = A.length) : setA (A ++ (x, y) :: B) n v = A ++ (x, v) :: B := by
  subst h; exact setA_mid A B x y v

/-- A jump that is filled in. -/
theorem wr_mark {A B : List Ln} {p op y d : Int} {s s3 : PS} {j : Nat} (h : Wr (A ++ [lineL p op y] ++ B) s s3) (hj : j = s.out.length + A.length) (hd : d = (B.length : Int) + 1) : Wr (A ++ [jumpL p op d] ++ B) s (s3.mark j) := by
  have hl := wr_len h
  unfold Wr at h
  unfold Wr PS.mark
  rw [hl]
  rw [h]
  simp only [PS.mk.injEq]
  refine ⟨?_, ?_, ?_⟩
  · simp only [List.append_assoc, absL_append, List.singleton_append, absL]
    have e : resL (bgV s.V) (s.out.length + A.length) (lineL p op y) = (op, y) := by simp [resL, lineL]
    have e2 : resL (bgV s.V) (s.out.length + A.length) (jumpL p op d) = (op, d + ((s.out.length + A.length : Nat) : Int)) := by simp [resL, jumpL]
    rw [e, e2, ← List.append_assoc, ← List.append_assoc]
    rw [setA_at (by simp [absL_length, hj])]
    congr 3
    simp only [List.length_append, List.length_cons, List.length_nil]
    omega
  · simp [partsL, lineL, jumpL]
  · simp only [List.append_assoc, absV_append, List.singleton_append, absV]
    simp [lineL, jumpL]

/-! ### Loops -/
def posn : Nat → List Ln → List Nat
  | _, [] => []
  | i, x :: r => (if x.out = 1 ∧ x.ag = false then [i] else []) ++ posn (i + 1) r
def setAll : List (Int × Int) → List Nat → Int → List (Int × Int)
  | o, [], _ => o
  | o, j :: r, v => setAll (setA o j v) r v
theorem setAll_length : ∀ (o : List (Int × Int)) (l : List Nat) (v : Int), (setAll o l v).length = o.length
  | o, [], v => rfl
  | o, j :: r, v => by rw [setAll, setAll_length, setA_length]
theorem setAll_append : ∀ (o : List (Int × Int)) (l m : List Nat) (v : Int), setAll o (l ++ m) v = setAll (setAll o l v) m v
  | o, [], m, v => rfl
  | o, j :: r, m, v => by rw [List.cons_append, setAll, setAll, setAll_append]
theorem marks_eq : ∀ (l : List Nat) (s : PS), PS.marks s l = ⟨setAll s.out l s.out.length, s.org, s.V⟩
  | [], s => rfl
  | j :: r, s => by
    rw [PS.marks, marks_eq r (s.mark j)]
    simp only [PS.mark, setAll, setA_length]

theorem bg_cons (b : Nat) (l : List Nat) (V : Vs) (n : Nat) : bgV ((b, l) :: V) (n + 1) = bgV V n := rfl
theorem bg_zero (b : Nat) (l : List Nat) (V : Vs) : bgV ((b, l) :: V) 0 = b := rfl
theorem fill_part (k b i : Nat) (x : Ln) : (fillL k b i x).part = x.part := by
  unfold fillL
  split
  · rfl
  · split <;> rfl
theorem fill_parts (k b : Nat) : ∀ (i : Nat) (R : List Ln), partsL (loopFill k b i R) = partsL R
  | i, [] => rfl
  | i, x :: r => by
    have ih := fill_parts k b (i + 1) r
    simp only [partsL] at ih ⊢
    simp [loopFill, ih, fill_part]

theorem absV_loop (k b b0 : Nat) : ∀ (R : List Ln) (i i' : Nat) (l : List Nat) (V : Vs), absV ((b0, l) :: V) i R = (b0, l ++ posn i R) :: absV V i (loopFill k b i' R)
  | [], i, i', l, V => by simp [absV, posn, loopFill]
  | x :: r, i, i', l, V => by
    rw [absV, posn, loopFill, absV]
    by_cases h1 : x.out = 1
    · have ef : ¬ (0 < (fillL k b i' x).out ∧ (fillL k b i' x).ag = false) := by
        unfold fillL; rw [if_pos h1]; simp
      rw [if_neg ef]
      cases hag : x.ag with
      | true =>
        rw [if_neg (by simp), if_neg (by simp), absV_loop k b b0 r (i + 1) (i' + 1) l V]
        simp
      | false =>
        rw [if_pos ⟨by omega, rfl⟩, if_pos ⟨h1, rfl⟩]
        have e : noteV ((b0, l) :: V) (x.out - 1).toNat i = (b0, l ++ [i]) :: V := by
          rw [h1]; rfl
        rw [e, absV_loop k b b0 r (i + 1) (i' + 1) (l ++ [i]) V]
        simp
    · by_cases h0 : 0 < x.out
      · have e : fillL k b i' x = { x with out := x.out - 1 } := by unfold fillL; rw [if_neg h1, if_pos h0]
        rw [e]
        simp only []
        rw [if_neg (by simp [h1] : ¬ (x.out = 1 ∧ x.ag = false))]
        cases hag : x.ag with
        | true =>
          rw [if_neg (by simp), if_neg (by simp), absV_loop k b b0 r (i + 1) (i' + 1) l V]
          simp
        | false =>
          rw [if_pos ⟨h0, rfl⟩, if_pos ⟨by omega, rfl⟩]
          have en : (x.out - 1).toNat = (x.out - 1 - 1).toNat + 1 := by omega
          have e2 : noteV ((b0, l) :: V) (x.out - 1).toNat i = (b0, l) :: noteV V (x.out - 1 - 1).toNat i := by rw [en]; rfl
          rw [e2, absV_loop k b b0 r (i + 1) (i' + 1) l _]
          simp
      · have e : fillL k b i' x = x := by unfold fillL; rw [if_neg h1, if_neg h0]
        rw [e, if_neg (fun h => h0 h.1), if_neg (fun h => h1 h.1), if_neg (fun h => h0 h.1), absV_loop k b b0 r (i + 1) (i' + 1) l V]
        simp

theorem set_loop (k b b0 v : Nat) (l : List Nat) (V : Vs) (post : List (Int × Int)) : ∀ (R : List Ln) (pre : List (Int × Int)) (i' : Nat), b0 + k + 1 + i' = pre.length → v = b0 + k + 1 + b + 1 → (∀ x ∈ R, 0 ≤ x.out) →
    setAll (pre ++ absL (bgV ((b0, l) :: V)) pre.length R ++ post) (posn pre.length R) v = pre ++ absL (bgV V) pre.length (loopFill k b i' R) ++ post
  | [], pre, i', hp, hv, ho => rfl
  | x :: r, pre, i', hp, hv, ho => by
    have ih := fun y : Int × Int => set_loop k b b0 v l V post r (pre ++ [y]) (i' + 1) (by simp; omega) hv (fun z hz => ho z (List.mem_cons_of_mem _ hz))
    simp only [List.length_append, List.length_cons, List.length_nil, List.append_assoc, List.singleton_append, List.cons_append, List.nil_append, Nat.zero_add] at ih
    have hx := ho x (List.mem_cons_self ..)
    rw [posn, absL, loopFill, absL, setAll_append]
    simp only [List.append_assoc, List.cons_append]
    by_cases h1 : x.out = 1
    · cases hag : x.ag with
      | true =>
        rw [if_neg (by simp)]
        have e : resL (bgV V) pre.length (fillL k b i' x) = resL (bgV ((b0, l) :: V)) pre.length x := by
          unfold fillL resL; rw [if_pos h1, h1, hag]; simp [bgV]; omega
        rw [e, setAll]
        exact ih _
      | false =>
        rw [if_pos ⟨h1, rfl⟩]
        have e : resL (bgV V) pre.length (fillL k b i' x) = (x.op, (v : Int)) := by
          unfold fillL resL; rw [if_pos h1, hag]; simp; omega
        rw [e, setAll, setAll]
        unfold resL
        rw [setA_mid]
        exact ih _
    · rw [if_neg (fun h => h1 h.1), setAll]
      have e : resL (bgV V) pre.length (fillL k b i' x) = resL (bgV ((b0, l) :: V)) pre.length x := by
        by_cases h0 : 0 < x.out
        · unfold fillL resL; rw [if_neg h1, if_pos h0]
          have en : (x.out - 1).toNat = (x.out - 1 - 1).toNat + 1 := by omega
          simp only []
          rw [if_pos h0, if_pos (by omega), en, bg_cons]
        · unfold fillL resL; rw [if_neg h1, if_neg h0, if_neg h0, if_neg h0]
      rw [e]
      exact ih _

theorem wr_loop {K B : List Ln} {s s1 y : PS} {a : Nat} (h1 : Wr K s s1) (h2 : Wr B ((s1.emit a (15, 0)).push s.out.length) y) (ho : ∀ x ∈ B, 0 ≤ x.out) : Wr (loopL a K B) s (endP s.out.length s1.out.length a y) := by
  have l1 := wr_len h1
  have b1 := wr_bg h1
  have v1 := wr_V h1
  have hy := h2
  have ly := wr_len h2
  unfold Wr at hy
  simp only [PS.push, PS.emit] at hy ly
  have hs1 := h1
  unfold Wr at hs1
  unfold endP
  rw [marks_eq]
  have hyV : y.V = (s.out.length, posn (s1.out.length + 1) B) :: absV s1.V (s1.out.length + 1) (loopFill K.length B.length 0 B) := by
    rw [hy]; simp only [List.length_append, List.length_cons, List.length_nil, Nat.zero_add]
    rw [absV_loop K.length B.length s.out.length B (s1.out.length + 1) 0 [] s1.V]
    rfl
  have hyo : y.out = s1.out ++ [(15, 0)] ++ absL (bgV ((s.out.length, []) :: s1.V)) (s1.out.length + 1) B := by
    rw [hy]; simp
  have hyg : y.org = s1.org ++ [(a : Int)] ++ partsL B := by rw [hy]
  have eb : bgV ((s.out.length, []) :: s1.V) = bgV ((s.out.length, []) :: s.V) := by
    funext n
    cases n with
    | zero => rfl
    | succ n => rw [bg_cons, bg_cons, b1]
  unfold Wr
  simp only [PS.mark, PS.emit, PS.pop, PS.mk.injEq]
  refine ⟨?_, ?_, ?_⟩
  · rw [setA_length]
    have hd : (y.V.getD 0 (0, [])).2 = posn (s1.out.length + 1) B := by rw [hyV]; rfl
    rw [hd, hyo]
    simp only [List.append_assoc, List.singleton_append, List.cons_append, List.nil_append]
    rw [setA_mid]
    have hlen : (s1.out ++ (15, (0 : Int)) :: (absL (bgV ((s.out.length, []) :: s1.V)) (s1.out.length + 1) B ++ [(14, (s.out.length : Int))])).length = s.out.length + K.length + 1 + B.length + 1 := by
      simp [absL_length, l1]; omega
    rw [hlen, eb]
    have hsl := set_loop K.length B.length s.out.length (s.out.length + K.length + 1 + B.length + 1) [] s.V [(14, (s.out.length : Int))] B (s1.out ++ [(15, ((s.out.length + K.length + 1 + B.length + 1 : Nat) : Int))]) 0 (by simp [l1]) rfl ho
    simp only [List.length_append, List.length_cons, List.length_nil, List.append_assoc, List.singleton_append, List.cons_append, List.nil_append, Nat.zero_add] at hsl
    rw [hsl, hs1]
    simp only [loopL, List.nil_append, absL_append, List.append_assoc, absL, List.length_append, absL_length, List.length_cons, List.length_nil, List.cons_append, loopFill_length]
    congr 2
    congr 1
    · simp [resL, jumpL]; omega
    congr 1
    · simp [resL, jumpL]; omega
  · rw [hyg, hs1]
    simp [loopL, partsL, jumpL]
    exact (fill_parts K.length B.length 0 B).symm
  · rw [hyV, hs1]
    simp only [List.tail_cons]
    rw [loopL, List.nil_append, absV_append, absV_append, absV_append]
    simp [absV, jumpL, absL_length, loopFill_length]
    congr 1

end Go.Proofs.Ytecaolkbllbokaa.TG

namespace Go.Proofs.Ytecaolkbllbokaa.TG
open Go.RowKit Go.Great
set_option linter.unusedSimpArgs false
set_option linter.unusedVariables false

def WrF (F : Fw) (L : Nat → List Ln) (S : Nat → Nat) (m a : Nat) : Prop := ∀ s : PS, s.V.length = m → Wr (L a) s (F s a).1 ∧ (F s a).2 = S a

theorem wr_cast {R R' : List Ln} {s s' : PS} (h : Wr R s s') (e : R = R') : Wr R' s s' := e ▸ h

theorem branch2_wr {F : Fw} {L : Nat → List Ln} {S : Nat → Nat} {m a : Nat} (h1 : WrF F L S m (a + 1)) (h2 : WrF F L S m (S (a + 1))) {s : PS} (hs : s.V.length = m) :
    Wr (chosenL a (L (a + 1)) (L (S (a + 1))) [] false) s (branchP F 2 s a).1 ∧ (branchP F 2 s a).2 = S (S (a + 1)) := by
  obtain ⟨w1, p1⟩ := h1 s hs
  have e := wr_emit (F s (a + 1)).1 a 15 0
  obtain ⟨w2, p2⟩ := h2 _ (by rw [wr_V e, wr_V w1, hs] : ((F s (a + 1)).1.emit a (15, 0)).V.length = m)
  unfold branchP
  rw [if_pos rfl, p1]
  exact ⟨wr_mark (wr_app (wr_app w1 e) w2) (wr_len w1) rfl, p2⟩

theorem branch3_wr {F : Fw} {L : Nat → List Ln} {S : Nat → Nat} {m a : Nat} (h1 : WrF F L S m (a + 1)) (h2 : WrF F L S m (S (a + 1))) (h3 : WrF F L S m (S (S (a + 1)))) {s : PS} (hs : s.V.length = m) :
    Wr (chosenL a (L (a + 1)) (L (S (a + 1))) (L (S (S (a + 1)))) true) s (branchP F 3 s a).1 ∧ (branchP F 3 s a).2 = S (S (S (a + 1))) := by
  obtain ⟨w1, p1⟩ := h1 s hs
  have e := wr_emit (F s (a + 1)).1 a 15 0
  obtain ⟨w2, p2⟩ := h2 _ (by rw [wr_V e, wr_V w1, hs] : ((F s (a + 1)).1.emit a (15, 0)).V.length = m)
  have e2 := wr_emit (F ((F s (a + 1)).1.emit a (15, 0)) (S (a + 1))).1 a 14 0
  have x1 := wr_cast (wr_app (wr_app (wr_app w1 e) w2) e2) (R' := L (a + 1) ++ [lineL a 15 0] ++ (L (S (a + 1)) ++ [lineL a 14 0])) (by simp)
  have x2 := wr_mark (d := ((L (S (a + 1)) ++ [lineL a 14 0]).length : Int) + 1) x1 (wr_len w1) rfl
  obtain ⟨w3, p3⟩ := h3 _ (by rw [wr_V x2, hs] : (((F ((F s (a + 1)).1.emit a (15, 0)) (S (a + 1))).1.emit a (14, 0)).mark (F s (a + 1)).1.out.length).V.length = m)
  have x3 := wr_cast (wr_app x2 w3) (R' := (L (a + 1) ++ [jumpL a 15 (((L (S (a + 1)) ++ [lineL a 14 0]).length : Int) + 1)] ++ L (S (a + 1))) ++ [lineL a 14 0] ++ L (S (S (a + 1)))) (by simp)
  have l2 := wr_len (wr_app (wr_app w1 e) w2)
  have x4 := wr_mark (d := ((L (S (S (a + 1)))).length : Int) + 1) (j := (F ((F s (a + 1)).1.emit a (15, 0)) (S (a + 1))).1.out.length) x3 (by rw [l2]; simp) rfl
  unfold branchP
  rw [if_neg (by decide), p1, p2]
  refine ⟨wr_cast x4 ?_, p3⟩
  have el : ((L (S (a + 1)) ++ [lineL a 14 0]).length : Int) + 1 = (L (S (a + 1))).length + 2 := by simp; omega
  rw [el]
  rfl

theorem either_wr {F : Fw} {L : Nat → List Ln} {S : Nat → Nat} {m a : Nat} {jump alone : Int} (h1 : WrF F L S m (a + 1)) (h2 : WrF F L S m (S (a + 1))) {s : PS} (hs : s.V.length = m) :
    Wr (whetherL a jump (L (a + 1)) (L (S (a + 1))) alone) s (eitherP F jump alone s a).1 ∧ (eitherP F jump alone s a).2 = S (S (a + 1)) := by
  obtain ⟨w1, p1⟩ := h1 s hs
  have e := wr_emit (F s (a + 1)).1 a jump 0
  obtain ⟨w2, p2⟩ := h2 _ (by rw [wr_V e, wr_V w1, hs] : ((F s (a + 1)).1.emit a (jump, 0)).V.length = m)
  unfold eitherP
  rw [p1]
  refine ⟨?_, p2⟩
  have hy := wr_app (wr_app w1 e) w2
  generalize hyy : (F ((F s (a + 1)).1.emit a (jump, 0)) (S (a + 1))).1 = y at *
  have e4 := wr_emits a [(3, 0), (31, 0), (3, 0), (31, 0)] y
  have e5 := wr_emit (PS.emits y a [(3, 0), (31, 0), (3, 0), (31, 0)]) a 14 0
  have l4 := wr_len (wr_app hy e4)
  have x1 := wr_cast (wr_app (wr_app hy e4) e5) (R' := L (a + 1) ++ [lineL a jump 0] ++ (L (S (a + 1)) ++ [lineL a 3 0, lineL a 31 0, lineL a 3 0, lineL a 31 0] ++ [lineL a 14 0])) (by simp)
  have x2 := wr_mark (d := ((L (S (a + 1))).length : Int) + 6) x1 (wr_len w1) (by simp; omega)
  have e6 := wr_emit (((PS.emits y a [(3, 0), (31, 0), (3, 0), (31, 0)]).emit a (14, 0)).mark (F s (a + 1)).1.out.length) a 3 alone
  have x3 := wr_cast (wr_app x2 e6) (R' := (L (a + 1) ++ [jumpL a jump ((L (S (a + 1))).length + 6)] ++ L (S (a + 1)) ++ [lineL a 3 0, lineL a 31 0, lineL a 3 0, lineL a 31 0]) ++ [lineL a 14 0] ++ [lineL a 3 alone]) (by simp)
  have x4 := wr_mark (d := 2) (j := (PS.emits y a [(3, 0), (31, 0), (3, 0), (31, 0)]).out.length) x3 (by rw [l4]; simp) rfl
  unfold tailP
  refine wr_cast x4 ?_
  simp [whetherL]

theorem leave_wr (k n : Int) (hk : k = 7 ∨ k = 8) (hn : 0 ≤ n) (s : PS) (a : Nat) : Wr [⟨14, 0, a, false, n + 1, decide (k = 8)⟩] s (leaveP k n.toNat s a).1 := by
  have e : (n + 1 - 1).toNat = n.toNat := by congr 1; omega
  have h0 : 0 < n + 1 := by omega
  rcases hk with rfl | rfl
  · simp [Wr, leaveP, PS.emit, PS.note, absL, absV, resL, partsL, noteV, bgV, e, h0]
  · simp [Wr, leaveP, PS.emit, PS.note, absL, absV, resL, partsL, noteV, bgV, e, h0]

theorem kids_wr {F : Fw} {L : Nat → List Ln} {S : Nat → Nat} {m : Nat} {O : Nat → Prop} (hO : ∀ a, O a → WrF F L S m a) : ∀ (n a : Nat), kidsO O S n a → ∀ s : PS, s.V.length = m → Wr (kidsLn L S n a) s (kidsP F n s a).1 ∧ (kidsP F n s a).2 = kidsS S n a
  | 0, a, _, s, _ => ⟨wr_nil s, rfl⟩
  | n + 1, a, ho, s, hs => by
    obtain ⟨w1, p1⟩ := hO a ho.1 s hs
    obtain ⟨w2, p2⟩ := kids_wr hO n (S a) ho.2 (F s a).1 (by rw [wr_V w1, hs])
    rw [kidsP, kidsLn, kidsS, p1]
    exact ⟨wr_app w1 w2, p2⟩

theorem kidsLn_outs {L : Nat → List Ln} {S : Nat → Nat} {m : Nat} {O : Nat → Prop} (hO : ∀ a, O a → Outs m (L a)) : ∀ (n a : Nat), kidsO O S n a → Outs m (kidsLn L S n a)
  | 0, a, _ => outs_nil m
  | n + 1, a, ho => outs_app (hO a ho.1) (kidsLn_outs hO n (S a) ho.2)

theorem line_outs (ts : List (ByteArray × List Int)) (ps : List (Int × Int × Int)) : ∀ (g m a : Nat), okP ts.length ps g m a → Outs m (lineP ts ps g a)
  | 0, m, a, h => h.elim
  | g + 1, m, a, h => by
    obtain ⟨k, n, kc, hp, hw, ho⟩ := h
    have IH := line_outs ts ps g
    rw [lineP, hp]
    simp only []
    by_cases h5 : k = 5
    · rw [if_neg (by omega)] at ho
      rw [if_pos h5]
      rcases hw.i h5 with rfl | rfl
      · rw [if_neg (by decide)]
        exact outs_chosen (b := false) (IH m _ ho.1) (IH m _ ho.2.1) (outs_nil m)
      · rw [if_pos rfl]
        exact outs_chosen (b := true) (IH m _ ho.1) (IH m _ ho.2.1) (IH m _ ho.2.2.1)
    rw [if_neg h5]
    by_cases h6 : k = 6
    · rw [if_pos h6] at ho
      rw [if_pos h6]
      exact outs_loop (IH m _ ho.1) (IH (m + 1) _ ho.2)
    rw [if_neg h6] at ho
    rw [if_neg h6]
    by_cases h7 : k = 7 ∨ k = 8
    · rw [if_pos h7]
      obtain ⟨_, h8, h9⟩ := hw.l h7
      intro x hx
      simp at hx; subst hx
      simp only []; omega
    rw [if_neg h7]
    by_cases h23 : k = 23
    · rw [if_pos h23]
      have := hw.w (Or.inr (Or.inl h23)); subst this
      exact outs_whether (IH m _ ho.1) (IH m _ ho.2.1)
    rw [if_neg h23]
    by_cases h24 : k = 24
    · rw [if_pos h24]
      have := hw.w (Or.inr (Or.inr h24)); subst this
      exact outs_whether (IH m _ ho.1) (IH m _ ho.2.1)
    rw [if_neg h24]
    exact outs_app (kidsLn_outs (fun a h => IH m a h) _ _ ho) (outs_map _ _)

theorem write_wr (ts : List (ByteArray × List Int)) (ps : List (Int × Int × Int)) : ∀ (g m a : Nat), okP ts.length ps g m a → WrF (writeP ts ps g) (lineP ts ps g) (skipS ps g) m a
  | 0, m, a, h => h.elim
  | g + 1, m, a, h => by
    obtain ⟨k, n, kc, hp, hw, ho⟩ := h
    have IH := write_wr ts ps g
    have eS : skipS ps (g + 1) a = kidsS (skipS ps g) kc.toNat (a + 1) := by rw [skipS, hp]
    intro s hs
    rw [eS, writeP, lineP, hp]
    simp only []
    by_cases h5 : k = 5
    · rw [if_neg (by omega)] at ho
      rw [if_pos h5, if_pos h5]
      rcases hw.i h5 with rfl | rfl
      · rw [if_neg (by decide)]
        exact branch2_wr (IH m _ ho.1) (IH m _ ho.2.1) hs
      · rw [if_pos rfl]
        exact branch3_wr (IH m _ ho.1) (IH m _ ho.2.1) (IH m _ ho.2.2.1) hs
    rw [if_neg h5, if_neg h5]
    by_cases h6 : k = 6
    · rw [if_pos h6] at ho
      rw [if_pos h6, if_pos h6]
      have := hw.w (Or.inl h6); subst this
      obtain ⟨w1, p1⟩ := IH m _ ho.1 s hs
      obtain ⟨w2, p2⟩ := IH (m + 1) _ ho.2 (((writeP ts ps g s (a + 1)).1.emit a (15, 0)).push s.out.length) (by simp only [PS.push, PS.emit, List.length_cons]; rw [wr_V w1, hs])
      unfold whileP
      rw [p1]
      exact ⟨wr_loop w1 w2 (fun x hx => (line_outs ts ps g (m + 1) _ ho.2 x hx).1), p2⟩
    rw [if_neg h6] at ho
    rw [if_neg h6, if_neg h6]
    by_cases h7 : k = 7 ∨ k = 8
    · rw [if_pos h7, if_pos h7]
      obtain ⟨h0, h8, h9⟩ := hw.l h7
      subst h0
      exact ⟨leave_wr k n h7 h8 s a, rfl⟩
    rw [if_neg h7, if_neg h7]
    by_cases h23 : k = 23
    · rw [if_pos h23, if_pos h23]
      have := hw.w (Or.inr (Or.inl h23)); subst this
      exact either_wr (IH m _ ho.1) (IH m _ ho.2.1) hs
    rw [if_neg h23, if_neg h23]
    by_cases h24 : k = 24
    · rw [if_pos h24, if_pos h24]
      have := hw.w (Or.inr (Or.inr h24)); subst this
      exact either_wr (IH m _ ho.1) (IH m _ ho.2.1) hs
    rw [if_neg h24, if_neg h24]
    obtain ⟨w1, p1⟩ := kids_wr (fun a h => IH m a h) _ _ ho s hs
    exact ⟨wr_app w1 (wr_emits a (finG ts k n) _), p1⟩

/-! ### A whole function -/
theorem abs_resolve (bg : Nat → Nat) : ∀ (i : Nat) (R : List Ln), Outs 0 R → absL bg i R = resolveL i R
  | i, [], _ => rfl
  | i, x :: r, h => by
    have hx := h x (List.mem_cons_self ..)
    rw [absL, resolveL, abs_resolve bg (i + 1) r (fun y hy => h y (List.mem_cons_of_mem _ hy))]
    unfold resL
    rw [if_neg (by omega)]

def fullL (u : Un) (f : Fun) : List Ln := lineP u.texts f.parts 65 0 ++ [lineL 0 3 0, lineL 0 18 0]

theorem full_wr (u : Un) (f : Fun) (h : okP u.texts.length f.parts 65 0 0) : (fullP u.texts f.parts).out = resolveL 0 (fullL u f) ∧ (fullP u.texts f.parts).org = partsL (fullL u f) := by
  obtain ⟨w1, _⟩ := write_wr u.texts f.parts 65 0 0 h ⟨[], [], []⟩ rfl
  have w2 := wr_app (wr_app w1 (wr_emit _ 0 3 0)) (wr_emit _ 0 18 0)
  have w3 := wr_cast w2 (R' := fullL u f) (by simp [fullL])
  have ho : Outs 0 (fullL u f) := outs_app (line_outs u.texts f.parts 65 0 0 h) (outs_map 0 [(3, 0), (18, 0)])
  have e : fullP u.texts f.parts = ⟨[] ++ absL (bgV []) 0 (fullL u f), [] ++ partsL (fullL u f), absV [] 0 (fullL u f)⟩ := w3
  rw [e]
  simp only [List.nil_append]
  exact ⟨abs_resolve _ 0 _ ho, trivial⟩

theorem fun_fit (u : Un) (f : Fun) (h : okP u.texts.length f.parts 65 0 0) : Fit (nextR (partR u.texts f.parts 65) false 0) (lineP u.texts f.parts 65 0) (skipS f.parts 65 0) 0 := next_fit (part_fit u.texts f.parts 65 0 0 h)

theorem full_len (u : Un) (f : Fun) (h : okP u.texts.length f.parts 65 0 0) : (fullP u.texts f.parts).out.length = (lineP u.texts f.parts 65 0).length + 2 := by
  rw [(full_wr u f h).1, resolveL_length, fullL, List.length_append]; rfl

theorem fun_ok (u : Un) (f : Fun) (h : okP u.texts.length f.parts 65 0 0) : funOk u f = !decide (4096 < (fullP u.texts f.parts).out.length) := by
  have F := fun_fit u f h
  rw [full_len u f h]
  unfold funOk
  cases e : (nextR (partR u.texts f.parts 65) false 0).2.1 with
  | true =>
    have := F.bad e
    simp; omega
  | false =>
    have := (F.ok e).1
    unfold funL
    rw [this]
    simp only [cond_false, List.length_append, List.length_cons, List.length_nil]
    by_cases hl : (lineP u.texts f.parts 65 0).length + 2 ≤ 4096
    · rw [decide_eq_true hl, decide_eq_false (by omega)]; rfl
    · rw [decide_eq_false hl, decide_eq_true (by omega)]; rfl

theorem fun_same (u : Un) (f : Fun) (h : okP u.texts.length f.parts 65 0 0) (hk : funOk u f = true) : codeR u f = (fullP u.texts f.parts).out ∧ partsL (funL u f) = (fullP u.texts f.parts).org := by
  have F := fun_fit u f h
  have hw := full_wr u f h
  have e : (nextR (partR u.texts f.parts 65) false 0).2.1 = false := by
    cases e : (nextR (partR u.texts f.parts 65) false 0).2.1 with
    | false => rfl
    | true => unfold funOk at hk; rw [e] at hk; cases hk
  have el : funL u f = fullL u f := by unfold funL fullL; rw [(F.ok e).1]
  rw [hw.1, hw.2]
  unfold codeR
  rw [el]
  exact ⟨rfl, rfl⟩

theorem big_same (u : Un) (h : ∀ f ∈ u.funcs, okP u.texts.length f.parts 65 0 0) : bigR u = bigF u := by
  unfold bigR bigF
  apply Bool.eq_iff_iff.2
  rw [List.any_eq_true, List.any_eq_true]
  constructor
  · rintro ⟨f, hf, he⟩
    refine ⟨f, hf, ?_⟩
    rw [fun_ok u f (h f hf)] at he
    simpa using he
  · rintro ⟨f, hf, he⟩
    refine ⟨f, hf, ?_⟩
    rw [fun_ok u f (h f hf)]
    simpa using he

end Go.Proofs.Ytecaolkbllbokaa.TG

namespace Go.Proofs.Ytecaolkbllbokaa.TG
open Go.RowKit Go.Great
set_option linter.unusedSimpArgs false
set_option linter.unusedVariables false

/-- What the reference's Compile leaves. -/
def RCompP (w : World) (u : Un) (mem : Int) (e : Ending) (w' : World) : Prop :=
  if compE u mem = 0 then ∃ vd vF rows, e = .returned (.tuple #[.agg #[.int .i64 mem, vd, vF], .int .i64 0]) ∧ RRes w w' u vd vF rows else BadR w (compE u mem) e w'

theorem early_comp {u : Un} {mem : Int} (h : earlyE u mem ≠ 0) : compE u mem = earlyE u mem := by
  unfold compE earlyE at *
  by_cases h1 : checkE u ≠ 0
  · rw [if_pos h1, if_pos h1]
  rw [if_neg h1, if_neg h1]
  rw [if_neg h1] at h
  by_cases h2 : mem < 0 ∨ 65536 < mem
  · rw [if_pos h2, if_pos h2]
  rw [if_neg h2, if_neg h2]
  rw [if_neg h2] at h
  by_cases h3 : mem < bytesTo u.texts u.texts.length
  · rw [if_pos h3, if_pos h3]
  rw [if_neg h3] at h
  exact absurd rfl h

theorem rcompile_any (u : Un) (mem : Int) (pt pf : Option Addr) (ct cf B : Nat) (w : World) (hU : UnitAt w B pt pf u) (hO : UnOK w pt ct u) :
    Calls Try.prog 12 #[.agg #[.slice pt u.texts.length ct, .slice pf u.funcs.length cf], .int .i64 mem] w (RCompP w u mem) := by
  by_cases hb : checkE u ≠ 0 ∨ (mem < 0 ∨ 65536 < mem) ∨ mem < bytesTo u.texts u.texts.length
  · refine (rcompile_bad u hO.wf mem pt pf ct cf B w hU hb).mono ?_
    intro e w' hp
    have hne : earlyE u mem ≠ 0 := by
      unfold earlyE
      by_cases h1 : checkE u = 0
      · rw [if_neg (by omega)]
        by_cases h2 : mem < 0 ∨ 65536 < mem
        · rw [if_pos h2]; omega
        · rw [if_neg h2, if_pos (by omega)]; omega
      · rw [if_pos h1]; exact h1
    unfold RCompP
    rw [early_comp hne, if_neg hne]
    exact hp
  · have hck : checkE u = 0 := by omega
    refine (rcompile_main u hO.wf hck mem (by omega) (by omega) (by omega) pt pf ct cf B w hU hO.cap).mono ?_
    intro e w' hp
    have hce : compE u mem = if bigF u then 181 else 0 := by
      unfold compE
      rw [if_neg (by omega), if_neg (by omega), if_neg (by omega)]
    have hr := right_of hck
    have hbs := big_same u fun f hf => (hr.ok f hf).1
    unfold RCompP
    rw [hce, ← hbs]
    unfold RMainPost at hp
    by_cases hbig : bigR u = true
    · rw [if_pos hbig] at hp ⊢
      rw [if_neg (by decide)]
      exact hp
    · rw [if_neg hbig] at hp ⊢
      rw [if_pos rfl]
      exact hp

/-- Of a unit that is taken: every function is right, and not too long. -/
theorem comp_ok {u : Un} {mem : Int} (h : compE u mem = 0) : checkE u = 0 ∧ ∀ f ∈ u.funcs, okP u.texts.length f.parts 65 0 0 ∧ funOk u f = true := by
  unfold compE at h
  split at h
  · rename_i h1; exact absurd h h1
  · rename_i h1
    have hck : checkE u = 0 := by omega
    refine ⟨hck, fun f hf => ?_⟩
    have hr := right_of hck
    have hok := (hr.ok f hf).1
    refine ⟨hok, ?_⟩
    rw [fun_ok u f hok]
    split at h
    · omega
    · split at h
      · omega
      · split at h
        · omega
        · rename_i hbig
          cases hd : decide (4096 < (fullP u.texts f.parts).out.length) with
          | false => rfl
          | true => exact absurd (by unfold bigF; rw [List.any_eq_true]; exact ⟨f, hf, hd⟩) hbig

end Go.Proofs.Ytecaolkbllbokaa.TG

namespace Go.Proofs.Ytecaolkbllbokaa.TG
open Go.RowKit Go.Great
set_option linter.unusedSimpArgs false
set_option linter.unusedVariables false

def intsV (l : List Int) : List Value := l.map (Value.int .i64)

/-- Where the loop over the functions stands. -/
structure OLoop (w wr : World) (u : Un) (vt vf : Value) (k : Nat) (v : Value) (rows : List Value) : Prop where
  len : rows.length = k
  gr : w.grownBy wr none
  ub : BoxU wr w.heap.size vt vf
  fr : wr.ownsRow w.heap.size 47 1 v k rows
  each : ∀ (i : Nat) (vo : Value) (f : Fun), rows[i]? = some vo → u.funcs[i]? = some f → wr.ownsRow w.heap.size 3 1 vo (partsL (funL u f)).length (intsV (partsL (funL u f)))

theorem oloop_kept {w wr w1 : World} {u : Un} {vt vf : Value} {k : Nat} {v : Value} {rows : List Value} (h : OLoop w wr u vt vf k v rows) (g : wr.grownBy w1 none) : OLoop w w1 u vt vf k v rows :=
  ⟨h.len, grownBy_trans h.gr g, boxU_kept h.ub g (by simp), h.fr.kept g (Classical.em _), fun i vo f hi hf => (h.each i vo f hi hf).kept g (Classical.em _)⟩

theorem oloop_next {w wr wj w5 : World} {u : Un} {vt vf : Value} {k : Nat} {v v5 vc : Value} {rows : List Value} {f : Fun} {o : Obj} (h0 : OLoop w wr u vt vf k v rows) (g : wr.grownBy wj none) (hf : u.funcs[k]? = some f)
    (code : wj.ownsRow w.heap.size 3 1 vc (partsL (funL u f)).length (intsV (partsL (funL u f))))
    (h5 : (wj.alloc o).grownBy w5 v.ownBlock) (own5 : w5.ownsRow w.heap.size 47 1 v5 (k + 1) (rows ++ [vc])) :
    OLoop w w5 u vt vf (k + 1) v5 (rows ++ [vc]) := by
  have h := oloop_kept (oloop_kept h0 g) (World.grownBy_alloc wj o none)
  have hlen := h.len
  have oQ : ∀ {base size n : Nat} {x : Value} {xs : List Value}, (wj.alloc o).ownsRow base 3 size x n xs → w5.ownsRow base 3 size x n xs := by
    intro base size n x xs ho
    refine own_sp ho (sp_grown (P := fun k => v.ownBlock = some k) h5 fun k _ e => e) fun k hk hp => own_unlike (own_lower ho (Nat.zero_le _)) (own_lower h.fr (Nat.zero_le _)) (by decide) hk hp
  refine ⟨by rw [List.length_append]; simp [hlen], ?_, ?_, own5, ?_⟩
  · cases hv : v.ownBlock with
    | none => rw [hv] at h5; exact grownBy_trans h.gr h5
    | some b => rw [hv] at h5; exact grow_new h.gr h5 (h.fr.lt b hv).1
  · exact boxU_kept h.ub h5 (own_not_box h.fr h.ub (by decide))
  · intro i vo f' hi hf'
    by_cases hik : i < rows.length
    · rw [List.getElem?_append_left hik] at hi
      exact oQ (h.each i vo f' hi hf')
    · have hik2 : i = rows.length := by
        have := (List.getElem?_eq_some_iff.1 hi).1
        simp at this; omega
      subst hik2
      rw [List.getElem?_append_right (Nat.le_refl _)] at hi
      simp at hi
      subst hi
      rw [hlen, hf] at hf'
      injection hf' with hf'; subst hf'
      exact oQ (code.kept (World.grownBy_alloc wj o none) (Classical.em _))

/-- What is told. -/
structure ORes (w w' : World) (u : Un) (v : Value) (rows : List Value) : Prop where
  len : rows.length = u.funcs.length
  gr : w.grownBy w' none
  fr : w'.ownsRow w.heap.size 47 1 v u.funcs.length rows
  each : ∀ (i : Nat) (vo : Value) (f : Fun), rows[i]? = some vo → u.funcs[i]? = some f → w'.ownsRow w.heap.size 3 1 vo (partsL (funL u f)).length (intsV (partsL (funL u f)))

def ROrigP (w : World) (u : Un) (e : Ending) (w' : World) : Prop :=
  if compE u 65536 = 0 then ∃ v rows, e = .returned (.tuple #[v, .int .i64 0]) ∧ ORes w w' u v rows else e = .returned (.tuple #[.slice none 0 0, .int .i64 (compE u 65536)]) ∧ w.grownBy w' none

/-- Where the loop over a function's lines stands. -/
structure OIn (w6 wj : World) (R : List Ln) (j : Nat) (vp : Value) : Prop where
  gr : w6.grownBy wj none
  own : wj.ownsRow w6.heap.size 3 1 vp j (intsV (partsL (R.take j)))

theorem oin_next {w6 wj w5 : World} {R : List Ln} {j : Nat} {vp v5 : Value} {o : Obj} {x : Ln} (h : OIn w6 wj R j vp) (hx : R[j]? = some x) (g : (wj.alloc o).grownBy w5 vp.ownBlock) (own : w5.ownsRow w6.heap.size 3 1 v5 (j + 1) (intsV (partsL (R.take j)) ++ [.int .i64 x.part])) : OIn w6 w5 R (j + 1) v5 := by
  refine ⟨?_, ?_⟩
  · have h1 := grownBy_trans h.gr (World.grownBy_alloc wj o none)
    cases hv : vp.ownBlock with
    | none => rw [hv] at g; exact grownBy_trans h1 g
    | some b => rw [hv] at g; exact grow_new h1 g (h.own.lt b hv).1
  · obtain ⟨hl, rfl⟩ := List.getElem?_eq_some_iff.1 hx
    rw [List.take_succ_eq_append_getElem hl]
    have e : intsV (partsL (R.take j ++ [R[j]])) = intsV (partsL (R.take j)) ++ [.int .i64 R[j].part] := by simp only [intsV, partsL, List.map_append, List.map_cons, List.map_nil]
    rw [e]; exact own

theorem oin_out {w6 wj : World} {R : List Ln} {vp : Value} {b : Nat} (h : OIn w6 wj R R.length vp) (hb : b ≤ w6.heap.size) : wj.ownsRow b 3 1 vp (partsL R).length (intsV (partsL R)) := by
  have := own_lower h.own hb
  rw [List.take_length] at this
  have e : (partsL R).length = R.length := by simp [partsL]
  rw [e]; exact this

set_option maxRecDepth 100000 in
set_option maxHeartbeats 8000000 in
theorem rorig_bad (u : Un) (pt pf : Option Addr) (ct cf B : Nat) (w : World) (hU : UnitAt w B pt pf u) (hO : UnOK w pt ct u) (h0 : compE u 65536 ≠ 0) :
    Calls Try.prog 16 #[.agg #[.slice pt u.texts.length ct, .slice pf u.funcs.length cf]] w (ROrigP w u) := by
  have CO := Lib.hid (fun o => rcompile_any u 65536 pt pf ct cf B (w.alloc o) (unitAt_kept hU (World.grownBy_alloc w o none) (by simp)) (unOK_kept hO hU (World.grownBy_alloc w o none)))
  have H0 := Lib.hid h0
  have n0 : ¬ compE u 65536 = 0 := h0
  clear hU hO h0
  go_enter Try.func16, Try.ntmps16
  go_wp2_with (go_at_call 12; refine (CO.out _).mono ?_; intro e w1 hp; unfold RCompP at hp; rw [if_neg H0.out] at hp; obtain ⟨rfl, hg⟩ := hp; have HG := Lib.hid hg; clear hg)
  refine bodyPost_ret (v := .tuple #[.slice none 0 0, .int .i64 (compE u 65536)]) ?_ rfl ?_
  · rw [results_tmp2 rfl]
    go_simp
  · unfold ROrigP
    rw [if_neg H0.out]
    exact ⟨rfl, grownBy_trans (grownBy_trans (World.grownBy_alloc w _ none) HG.out) (World.grownBy_alloc _ _ none)⟩

set_option maxRecDepth 100000 in
set_option maxHeartbeats 8000000 in
theorem rorig_main (u : Un) (pt pf : Option Addr) (ct cf B : Nat) (w : World) (hU : UnitAt w B pt pf u) (hO : UnOK w pt ct u) (h0 : compE u 65536 = 0) :
    Calls Try.prog 16 #[.agg #[.slice pt u.texts.length ct, .slice pf u.funcs.length cf]] w (ROrigP w u) := by
  have CO := Lib.hid (fun o => rcompile_any u 65536 pt pf ct cf B (w.alloc o) (unitAt_kept hU (World.grownBy_alloc w o none) (by simp)) (unOK_kept hO hU (World.grownBy_alloc w o none)))
  obtain ⟨hck, hall⟩ := comp_ok h0
  have hr := right_of hck
  have hnt := hr.nt
  have hnf := hr.nf
  have HALL := Lib.hid hall
  have UU := Lib.hid hU
  have HU := Lib.hid hO.wf
  have H0 := Lib.hid h0
  have hub := boxU_new w (.slice pt u.texts.length ct) (.slice pf u.funcs.length cf)
  have HUB := Lib.hid hub
  have b0 := boxU_0 hub
  have b1 := boxU_1 hub
  have bl := boxU_lt hub
  clear hU hO h0 hub hr hck hall
  go_enter Try.func16, Try.ntmps16
  go_wp2_with (go_at_call 12; refine (CO.out _).mono ?_; intro e w1 hp; unfold RCompP at hp; rw [if_pos H0.out] at hp; obtain ⟨vd, vF, rows, rfl, hC⟩ := hp; obtain ⟨p1, k1, hv1⟩ := own_slice hC.dt; obtain ⟨p2, k2, hv2⟩ := own_slice hC.fr; subst hv1; subst hv2; have HGR := Lib.hid hC.gr; clear hC)
  clear b0 b1 bl
  have L0 := Lib.hid (show OLoop w (w1.alloc (.cells #[.int .i64 65536, .slice p1 (dataE u).length k1, .slice p2 u.funcs.length k2] 32)) u (.slice pt u.texts.length ct) (.slice pf u.funcs.length cf) 0 (.slice none 0 0) [] from
    ⟨rfl, grownBy_trans (grownBy_trans (World.grownBy_alloc w _ none) HGR.out) (World.grownBy_alloc _ _ none), boxU_kept (boxU_kept HUB.out HGR.out (by simp)) (World.grownBy_alloc _ _ none) (by simp), World.ownsRow_nil _ _ _ _, fun i vo f hi => (by cases hi)⟩)
  clear HUB HGR CO
  obtain ⟨ii, ii0, ii1, ii2, ii3⟩ := info_parts ints_info
  obtain ⟨n0, ni, nz0, nz1, nz2⟩ := info_parts int_info
  go_loopw [6, 7] (fun v i wr => ∃ (k : Nat) (rows : List Value), i = .int .i64 k ∧ k ≤ u.funcs.length ∧ OLoop w wr u (.slice pt u.texts.length ct) (.slice pf u.funcs.length cf) k v rows) (fun _ i _ => u.funcs.length - (intOf i).toNat)
  case atStart => exact ⟨0, [], rfl, Nat.zero_le _, L0.out⟩
  case round =>
    clear L0
    obtain ⟨k, rows', rfl, hk, hL⟩ := hrel
    have LL := Lib.hid hL
    have e0 := boxU_0 hL.ub
    have e1 := boxU_1 hL.ub
    have el := boxU_lt hL.ub
    have hUr := unitAt_kept UU.out hL.gr (by simp)
    by_cases hlt : (k : Int) < (u.funcs.length : Int)
    · obtain ⟨f, hf⟩ : ∃ f, u.funcs[k]? = some f := ⟨_, List.getElem?_eq_getElem (by omega)⟩
      have hmf := List.mem_of_getElem? hf
      have FN := Lib.hid (function_any u HU.out hnt pt pf ct cf B k f hf (HALL.out f hmf).1 wr hUr)
      have hok := (HALL.out f hmf).2
      rw [hok] at FN
      have HF := Lib.hid hf
      clear hL hUr hf hmf hok
      go_wp2_with (go_at_call 30; refine FN.out.mono ?_; intro e w6 hp; obtain ⟨v6, rfl, l6, g6⟩ := hp; have G6 := Lib.hid g6; have LN6 := Lib.hid l6; clear l6 g6)
      obtain ⟨p6, c6, hv6⟩ := lns_slice LN6.out
      subst hv6
      have hlnR := funL_len u f
      obtain ⟨wo, hwo⟩ : ∃ wo, wo = wr := ⟨_, rfl⟩
      subst hwo
      go_loopw [10, 11] (fun v i wj => ∃ (j : Nat), i = .int .i64 j ∧ j ≤ (funL u f).length ∧ OIn w6 wj (funL u f) j v) (fun _ i _ => (funL u f).length - (intOf i).toNat)
      case atStart => exact ⟨0, rfl, Nat.zero_le _, grownBy_refl _ _, World.ownsRow_nil _ _ _ _⟩
      case round =>
        obtain ⟨j, rfl, hj, hRI⟩ := hrel
        have RI := Lib.hid hRI
        by_cases hlt2 : (j : Int) < ((funL u f).length : Int)
        · obtain ⟨x, hx⟩ : ∃ x, (funL u f)[j]? = some x := ⟨_, List.getElem?_eq_getElem (by omega)⟩
          have HX := Lib.hid hx
          obtain ⟨g, rfl, -⟩ := ln_some LN6.out (by omega)
          obtain ⟨-, -, e2, -, -, -⟩ := ln_cells (lns_grow LN6.out hRI.gr) hx
          have gl := World.block_lt_of_cell? _ _ e2
          have hc3 : j + 1 ≤ maxLen := by unfold maxLen; omega
          have hc4 : (j + 1) * 8 ≤ 140737488355328 := by omega
          have hE0 := hRI.gr.size
          have hE1 : ∀ o, w6.heap.size ≤ (wr.alloc o).heap.size := by intro o; simp; omega
          clear hx hRI hE0 e0 e1 el
          go_wp2_with (at_builtin; refine wpList_append_own_at _ rfl _ _ 47 rfl w6.heap.size 3 n0 (.int .i64 0) 1 8 int_und ni nz0 nz1 nz2 rfl (by decide) _ _ _ rfl (RI.out.own.alloc _) ⟨wr.heap.size, 0, none⟩ 1 1 [.int .i64 x.part] rfl rfl (one_new wr _ _) (one_cell _ _) hc3 hc4 (hE1 _) ?_; intro v9 w9 hown9 hgr9 hnil9 hat9; have OW9 := Lib.hid hown9; have GR9 := Lib.hid hgr9; clear hown9 hgr9 hnil9 hat9)
          go_roundw
          case rel => exact ⟨j + 1, by go_num, by omega, oin_next RI.out HX.out GR9.out OW9.out⟩
          case measure => simp [intOf]; omega
        · have hje : j = (funL u f).length := by omega
          subst hje
          have HG := Lib.hid (show wo.grownBy wr none from grownBy_trans G6.out hRI.gr)
          have HC := Lib.hid (oin_out (b := w.heap.size) hRI (by have := LL.out.gr.size; have := G6.out.size; omega))
          have LJ := Lib.hid (oloop_kept LL.out HG.out)
          obtain ⟨pc, cc, hvc⟩ := own_slice hRI.own
          subst hvc
          have hk64 : k + 1 ≤ maxLen := by unfold maxLen; omega
          have hk65 : (k + 1) * 24 ≤ 140737488355328 := by omega
          have hgw := LJ.out.gr.size
          have hb16 : ∀ o, w.heap.size ≤ (wr.alloc o).heap.size := by intro o; simp; omega
          clear hRI hgw e0 e1 el
          go_wp2_with (at_builtin; refine wpList_append_own_at _ rfl _ _ 41 rfl w.heap.size 47 ii (.slice none 0 0) 1 24 ints_und ii0 ii1 ii2 ii3 rfl (by decide) _ _ _ rfl (LJ.out.fr.alloc _) ⟨wr.heap.size, 0, none⟩ 1 1 [.slice pc (funL u f).length cc] rfl rfl (one_new wr _ _) (one_slice _ _ _) hk64 hk65 (hb16 _) ?_; intro v16 w16 hown16 hgr16 hnil16 hat16; have O16 := Lib.hid hown16; have G16 := Lib.hid hgr16; clear hown16 hgr16 hnil16 hat16)
          go_roundw
          case rel => exact ⟨k + 1, _, by go_num, by omega, oloop_next LL.out HG.out HF.out HC.out G16.out O16.out⟩
          case measure => simp [intOf]; omega
    · have hke : k = u.funcs.length := by omega
      subst hke
      clear hL hUr
      go_wp2
      refine bodyPost_ret (v := .tuple #[u6, .int .i64 0]) ?_ rfl ?_
      · rw [results_tmp2 rfl]
        go_simp
      · unfold ROrigP
        rw [if_pos H0.out]
        exact ⟨_, rows', rfl, LL.out.len, LL.out.gr, LL.out.fr, LL.out.each⟩

theorem rorig_any (u : Un) (pt pf : Option Addr) (ct cf B : Nat) (w : World) (hU : UnitAt w B pt pf u) (hO : UnOK w pt ct u) :
    Calls Try.prog 16 #[.agg #[.slice pt u.texts.length ct, .slice pf u.funcs.length cf]] w (ROrigP w u) := by
  by_cases h0 : compE u 65536 = 0
  · exact rorig_main u pt pf ct cf B w hU hO h0
  · exact rorig_bad u pt pf ct cf B w hU hO h0

end Go.Proofs.Ytecaolkbllbokaa.TG

namespace Go.Proofs.Ytecaolkbllbokaa.TG
open Go.RowKit Go.Great
set_option linter.unusedSimpArgs false
set_option linter.unusedVariables false

/-- Lists of numbers that are told. -/
def OrgAt (w : World) (b : Nat) (v : Value) (orgs : List (List Int)) : Prop := ∃ rows, w.ownsRow b 47 1 v orgs.length rows ∧ ∀ (i : Nat) (l : List Int), orgs[i]? = some l → ∃ x, rows[i]? = some x ∧ w.ownsRow b 3 1 x l.length (l.map (Value.int .i64))
noncomputable def orgsU (u : Un) : List (List Int) := if compE u 65536 = 0 then u.funcs.map (fun f => (fullP u.texts f.parts).org) else []

theorem orgAt_sp {P : Nat → Prop} {w w' : World} {b : Nat} {v : Value} {orgs : List (List Int)} (h : OrgAt w b v orgs) (g : Sp P w w') (hp : ∀ k, b ≤ k → ¬ P k) : OrgAt w' b v orgs := by
  obtain ⟨rows, h1, h2⟩ := h
  refine ⟨rows, own_sp h1 g fun k hk => hp k (h1.lt k hk).1, fun i l hi => ?_⟩
  obtain ⟨x, hx, ho⟩ := h2 i l hi
  exact ⟨x, hx, own_sp ho g fun k hk => hp k (ho.lt k hk).1⟩
theorem orgAt_kept {w w' : World} {b : Nat} {v : Value} {orgs : List (List Int)} (h : OrgAt w b v orgs) (g : w.grownBy w' none) : OrgAt w' b v orgs :=
  orgAt_sp (P := fun _ => False) h (sp_grown g (by simp)) (fun _ _ h => h)

theorem org_len (u : Un) (h0 : compE u 65536 = 0) (f : Fun) (hf : f ∈ u.funcs) : (fullP u.texts f.parts).org.length ≤ 4096 ∧ (funOk u f = true ∧ okP u.texts.length f.parts 65 0 0) := by
  obtain ⟨_, hall⟩ := comp_ok h0
  obtain ⟨hok, hfo⟩ := hall f hf
  obtain ⟨e1, e2⟩ := full_wr u f hok
  have hl := fun_ok u f hok
  rw [hfo] at hl
  have : ¬ 4096 < (fullP u.texts f.parts).out.length := by
    intro h; rw [decide_eq_true h] at hl; cases hl
  refine ⟨?_, hfo, hok⟩
  rw [e2]
  rw [e1, resolveL_length] at this
  simp only [partsL, List.length_map]; omega

theorem orgsU_small (u : Un) (i : Nat) (l : List Int) (h : (orgsU u)[i]? = some l) : l.length ≤ 4096 := by
  unfold orgsU at h
  by_cases h0 : compE u 65536 = 0
  · rw [if_pos h0, List.getElem?_map] at h
    obtain ⟨f, hf, rfl⟩ := Option.map_eq_some_iff.1 h
    exact (org_len u h0 f (List.mem_of_getElem? hf)).1
  · rw [if_neg h0] at h; cases h
theorem orgsU_len (u : Un) : (orgsU u).length ≤ u.funcs.length := by
  unfold orgsU
  split
  · simp
  · simp

theorem org_of_comp {w w' : World} {u : Un} {e : Ending} (h : OriginP w u e w') : ∃ v, e = .returned (.tuple #[v, .int .i64 (compE u 65536)]) ∧ w.grownBy w' none ∧ OrgAt w' w.heap.size v (orgsU u) := by
  unfold OriginP at h
  by_cases h0 : compE u 65536 = 0
  · rw [if_pos h0] at h
    obtain ⟨vd, vF, v, rows, he, hC⟩ := h
    refine ⟨v, by rw [he, h0], hC.gr, rows.map Prod.snd, ?_, fun i l hi => ?_⟩
    · unfold orgsU; rw [if_pos h0, List.length_map]; exact hC.or
    · unfold orgsU at hi
      rw [if_pos h0, List.getElem?_map] at hi
      obtain ⟨f, hf, rfl⟩ := Option.map_eq_some_iff.1 hi
      have hl := (List.getElem?_eq_some_iff.1 hf).1
      obtain ⟨⟨vo, vg⟩, hx⟩ : ∃ x, rows[i]? = some x := ⟨_, List.getElem?_eq_getElem (by rw [hC.len]; exact hl)⟩
      exact ⟨vg, by rw [List.getElem?_map, hx]; rfl, (hC.each i vo vg f hx hf).2⟩
  · rw [if_neg h0] at h
    obtain ⟨he, hg⟩ := h
    refine ⟨_, he, hg, [], ?_, fun i l hi => ?_⟩
    · unfold orgsU; rw [if_neg h0]; exact World.ownsRow_nil _ _ _ _
    · unfold orgsU at hi; rw [if_neg h0] at hi; cases hi

theorem org_of_ref {w w' : World} {u : Un} {e : Ending} (h : ROrigP w u e w') : ∃ v, e = .returned (.tuple #[v, .int .i64 (compE u 65536)]) ∧ w.grownBy w' none ∧ OrgAt w' w.heap.size v (orgsU u) := by
  unfold ROrigP at h
  by_cases h0 : compE u 65536 = 0
  · rw [if_pos h0] at h
    obtain ⟨v, rows, he, hC⟩ := h
    refine ⟨v, by rw [he, h0], hC.gr, rows, ?_, fun i l hi => ?_⟩
    · unfold orgsU; rw [if_pos h0, List.length_map]; exact hC.fr
    · unfold orgsU at hi
      rw [if_pos h0, List.getElem?_map] at hi
      obtain ⟨f, hf, rfl⟩ := Option.map_eq_some_iff.1 hi
      have hl := (List.getElem?_eq_some_iff.1 hf).1
      obtain ⟨x, hx⟩ : ∃ x, rows[i]? = some x := ⟨_, List.getElem?_eq_getElem (by rw [hC.len]; exact hl)⟩
      obtain ⟨_, hfo, hok⟩ := org_len u h0 f (List.mem_of_getElem? hf)
      have he := hC.each i x f hx hf
      unfold intsV at he
      rw [(fun_same u f hok hfo).2] at he
      exact ⟨x, hx, he⟩
  · rw [if_neg h0] at h
    obtain ⟨he, hg⟩ := h
    refine ⟨_, he, hg, [], ?_, fun i l hi => ?_⟩
    · unfold orgsU; rw [if_neg h0]; exact World.ownsRow_nil _ _ _ _
    · unfold orgsU at hi; rw [if_neg h0] at hi; cases hi

/-- A unit that is lent reads as the unit. -/
theorem lent_unit {w : World} {lo T Fb : Nat} {gs ls ps : Nat → Nat} {Ft Ff : Nat → Value} {u : Un} (h : LentU w lo T Fb gs ls ps Ft Ff u) : UnitAt w w.heap.size (some ⟨T, 0, none⟩) (some ⟨Fb, 0, none⟩) u ∧ CapT w (some ⟨T, 0, none⟩) u := by
  have hT := h.t.blk
  have hF := h.f.blk
  refine ⟨⟨Nat.le_refl _, fun _ => ⟨T, 0, rfl, hT.lt, fun i nm d hi => ?_⟩, fun _ => ⟨Fb, 0, rfl, hF.lt, fun i f hi => ?_⟩⟩, ?_⟩
  · have hl := (List.getElem?_eq_some_iff.1 hi).1
    obtain ⟨a1, a2, a3⟩ := h.t.tx i nm d trivial hi
    refine ⟨by rw [Nat.zero_add, hT.cell (by omega), a1], some ⟨gs i, 0, none⟩, d.length + 67, by rw [Nat.zero_add, hT.cell (by omega), a2], fun _ => ⟨gs i, 0, rfl, a3.lt, fun j hj => ?_⟩⟩
    rw [Nat.zero_add, a3.cell (by omega)]
    unfold lendB; rw [if_pos hj]
  · have hl := (List.getElem?_eq_some_iff.1 hi).1
    obtain ⟨a0, a1, a2, a3, a4⟩ := h.f.fx i f trivial hi
    refine ⟨by rw [Nat.zero_add, hF.cell (by omega), a0], by rw [Nat.zero_add, hF.cell (by omega), a1], ⟨some ⟨ls i, 0, none⟩, f.locals.length + 5, by rw [Nat.zero_add, hF.cell (by omega), a2], fun _ => ⟨ls i, 0, rfl, a4.rl.lt, fun j hj => ?_⟩⟩, ⟨some ⟨ps i, 0, none⟩, f.parts.length + 67, by rw [Nat.zero_add, hF.cell (by omega), a3], fun _ => ⟨ps i, 0, rfl, a4.rp.lt, fun j k n kc hj => ?_⟩⟩⟩
    · rw [Nat.zero_add, a4.rl.cell (by omega)]
      unfold lendS; rw [if_pos hj]
      simp [List.getD_eq_getElem?_getD, List.getElem?_eq_getElem hj]
    · have hjl := (List.getElem?_eq_some_iff.1 hj).1
      obtain ⟨g1, g2, g3⟩ := parts3_get f.parts j k n kc hj
      refine ⟨?_, ?_, ?_⟩
      · rw [Nat.zero_add, a4.rp.cell (by omega)]; unfold lendP; rw [if_pos (by omega), List.getD_eq_getElem?_getD, g1]; rfl
      · rw [Nat.zero_add, a4.rp.cell (by omega)]; unfold lendP; rw [if_pos (by omega), List.getD_eq_getElem?_getD, g2]; rfl
      · rw [Nat.zero_add, a4.rp.cell (by omega)]; unfold lendP; rw [if_pos (by omega), List.getD_eq_getElem?_getD, g3]; rfl
  · intro i pd n cd b o hp hi hc hn
    injection hp with hp; injection hp with e1 e2 _; subst e1; subst e2
    obtain ⟨⟨nm, d⟩, hx⟩ : ∃ x, u.texts[i]? = some x := ⟨_, List.getElem?_eq_getElem hi⟩
    obtain ⟨a1, a2, a3⟩ := h.t.tx i nm d trivial hx
    rw [Nat.zero_add, hT.cell (by omega), a2] at hc
    injection hc with hc
    injection hc with c1 c2 c3
    rw [← c1] at hn; cases hn

theorem lentU_kept {w w' : World} {lo T Fb : Nat} {gs ls ps : Nat → Nat} {Ft Ff : Nat → Value} {u : Un} (h : LentU w lo T Fb gs ls ps Ft Ff u) (g : w.grownBy w' none) : LentU w' lo T Fb gs ls ps Ft Ff u := ⟨lt_kept h.t g, lf_kept h.f g, h.lt, h.tf, h.gf⟩

/-- All that a unit must be. -/
structure LawU (w : World) (B : Nat) (pt pf : Option Addr) (ct : Nat) (u : Un) : Prop where
  at_ : UnitAt w B pt pf u
  ok : UnOK w pt ct u
  sz : LSize u

theorem lent_ok {w : World} {lo T Fb : Nat} {gs ls ps : Nat → Nat} {Ft Ff : Nat → Value} {u : Un} {pt : Option Addr} {ct : Nat} {w0 : World} (h : LentU w lo T Fb gs ls ps Ft Ff u) (hO : UnOK w0 pt ct u) (hS : LSize u) : UnOK w (some ⟨T, 0, none⟩) (u.texts.length + 5) u :=
  ⟨hO.wf, hO.np, by omega, by have := hS.nt; unfold maxLen; omega, (lent_unit h).2⟩

theorem org_get {w : World} {b : Nat} {v : Value} {orgs : List (List Int)} (h : OrgAt w b v orgs) {i : Nat} {l : List Int} (hi : orgs[i]? = some l) : ∃ g cap p c, v = .slice (some ⟨g, 0, none⟩) orgs.length cap ∧ g < w.heap.size ∧ w.cell? ⟨g, i, none⟩ = some (.slice p l.length c) ∧ w.ownsRow b 3 1 (.slice p l.length c) l.length (l.map (Value.int .i64)) := by
  obtain ⟨rows, h1, h2⟩ := h
  have hl := (List.getElem?_eq_some_iff.1 hi).1
  obtain ⟨g, cap, hv, hg, hc⟩ := own_get h1 (by omega)
  obtain ⟨x, hx, ho⟩ := h2 i l hi
  obtain ⟨p, c, rfl⟩ := own_slice ho
  exact ⟨g, cap, p, c, hv, hg, hc i _ hx (by omega), ho⟩
theorem org_slice {w : World} {b : Nat} {v : Value} {orgs : List (List Int)} (h : OrgAt w b v orgs) : ∃ p c, v = .slice p orgs.length c := by
  obtain ⟨rows, h1, h2⟩ := h
  exact own_slice h1

theorem law_grow {w w5 w6 : World} {lo hi : Nat} (g : w.grownBy w5 none) (s : Sp (PT lo hi) w5 w6) (h : w.heap.size ≤ lo) : w.grownBy w6 none :=
  sp_to_grown (P := PT lo hi) (sp_trans (sp_grown (P := PT lo hi) g (by simp)) s (fun _ _ h => h)) fun k hk => by unfold PT; omega

end Go.Proofs.Ytecaolkbllbokaa.TG

namespace Go.Proofs.Ytecaolkbllbokaa.TG
open Go.RowKit Go.Great
set_option linter.unusedSimpArgs false
set_option linter.unusedVariables false

section
variable {H : Type} {enc : TypeId × Value → H} {P : Program} {w : World}

theorem bulk_one (d : DataW H) : 1 ≤ Rows.uptoBulk d := by
  cases d with
  | lit l => cases l <;> simp [Rows.uptoBulk]
  | nil => simp [Rows.uptoBulk]
  | ptr d => simp [Rows.uptoBulk]
  | slice elems spare => simp [Rows.uptoBulk]
  | agg parts => simp [Rows.uptoBulk]
  | iface t d => simp [Rows.uptoBulk]
  | map entries => simp [Rows.uptoBulk]
  | held h => simp [Rows.uptoBulk]
theorem bulk_in {d : DataW H} : ∀ {l : List (DataW H)}, d ∈ l → Rows.uptoBulk d ≤ Rows.uptoBulkAll l
  | x :: r, h => by
    simp only [Rows.uptoBulkAll]
    rcases List.mem_cons.1 h with e | e
    · subst e; omega
    · have := bulk_in e; omega
theorem bulk_len : ∀ (l : List (DataW H)), l.length ≤ Rows.uptoBulkAll l
  | [] => by simp [Rows.uptoBulkAll]
  | x :: r => by have := bulk_one x; have := bulk_len r; simp only [Rows.uptoBulkAll, List.length_cons]; omega

theorem field_at {t : TypeId} {fs : Array Field} {fuel : Nat} {cs : List Value} {x : DataW H × List MemPlace} (ht : P.underlying t = some (.struct fs)) (h : DataW.trod enc P w 0 (fun _ => true) true fuel t cs = some x) (i : Nat) (f : Field) (hf : fs[i]? = some f) (hc : P.cellsOf f.type = 1) (k : Nat) (hk : P.cellsOf t = k) (ho : f.offset < k) :
    cs.length = k ∧ ∃ n v y, cs[f.offset]? = some v ∧ DataW.trod enc P w 0 (fun _ => true) true n f.type [v] = some y ∧ Rows.uptoBulk y.1 + 1 ≤ Rows.uptoBulk x.1 := by
  obtain ⟨xs, n, _, rfl, hl, hlen, hfl⟩ := DataW.trod_struct ht h
  rw [hk] at hl
  have hi : i < xs.length := by rw [hlen]; exact (Array.getElem?_eq_some_iff.1 hf).1
  have h1 := hfl i f hf
  have ho' : f.offset < cs.length := by omega
  have hx : (cs.drop f.offset).take (P.cellsOf f.type) = [cs[f.offset]] := by
    rw [hc, List.drop_eq_getElem_cons ho']; rfl
  rw [hx, List.getElem?_eq_getElem hi] at h1
  refine ⟨hl, n, cs[f.offset], xs[i], List.getElem?_eq_getElem ho', h1, ?_⟩
  have := bulk_in (List.mem_map.2 ⟨xs[i], List.getElem_mem hi, rfl⟩ : xs[i].1 ∈ xs.map (·.1))
  simp only [Rows.uptoBulk]; omega

theorem add_add (b o i j : Nat) : ((⟨b, o, none⟩ : Addr).add i).add j = ⟨b, o + i + j, none⟩ := by rw [addr_plus, addr_plus]

theorem slice_at {t e : TypeId} {fuel : Nat} {v : Value} {x : DataW H × List MemPlace} (ht : P.underlying t = some (.slice e)) (k : Nat) (hk : P.cellsOf e = k) (k0 : 0 < k) (h : DataW.trod enc P w 0 (fun _ => true) true fuel t [v] = some x) :
    ∃ (p : Option Addr) (len cap : Nat), v = .slice p len cap ∧ len ≤ cap ∧ cap ≤ maxLen ∧ (p = none → cap = 0) ∧ len + 1 ≤ Rows.uptoBulk x.1 ∧ (0 < len → ∃ b o, p = some ⟨b, o, none⟩ ∧ b < w.heap.size ∧ ∀ i, i < len → ∃ cs' n y, cs'.length = k ∧ (∀ j, j < k → w.cell? ⟨b, o + i * k + j, none⟩ = cs'[j]?) ∧ DataW.trod enc P w 0 (fun _ => true) true n e cs' = some y ∧ Rows.uptoBulk y.1 + 1 ≤ Rows.uptoBulk x.1) := by
  rcases Deep.open_slice ht h with ⟨hcs, rfl⟩ | ⟨a, len, cap, m, n, D, Pl, hcs, _, hl, hm, hmm, rfl, hx⟩
  · injection hcs with hcs _
    exact ⟨none, 0, 0, hcs, Nat.le_refl _, Nat.zero_le _, (fun _ => rfl), bulk_one _, fun h => absurd h (Nat.lt_irrefl _)⟩
  · injection hcs with hcs _
    simp only [if_true] at hmm
    subst hmm
    refine ⟨some a, len, m, hcs, hl, hm, (fun h => by cases h), ?_, fun h0 => ?_⟩
    · have := bulk_len ((List.range len).map D)
      simp only [Rows.uptoBulk]
      rw [List.length_map, List.length_range] at this
      omega
    · obtain ⟨b, o, spot⟩ := a
      have hcell : ∀ i, i < m → ∃ cs', cs'.length = k ∧ (∀ j, j < k → w.cell? (((⟨b, o, spot⟩ : Addr).add (i * k)).add j) = cs'[j]?) ∧ DataW.trod enc P w 0 (fun _ => true) true n e cs' = some (D i, Pl i) := by
        intro i hi
        obtain ⟨cs', h1, h2⟩ := hx i hi
        rw [hk] at h1
        obtain ⟨_, h3, h4⟩ := World.cells?_some h1
        exact ⟨cs', h3, h4, h2⟩
      have hspot : spot = none := by
        obtain ⟨cs', h3, h4, _⟩ := hcell 0 (by omega)
        have h5 := h4 0 k0
        rw [List.getElem?_eq_getElem (by omega)] at h5
        have h6 := World.cell?_spot h5
        simpa [Addr.add] using h6
      subst hspot
      refine ⟨b, o, rfl, ?_, fun i hi => ?_⟩
      · obtain ⟨cs', h3, h4, _⟩ := hcell 0 (by omega)
        have h5 := h4 0 k0
        rw [List.getElem?_eq_getElem (by omega), add_add] at h5
        exact World.block_lt_of_cell? _ _ h5
      · obtain ⟨cs', h3, h4, h5⟩ := hcell i (by omega)
        refine ⟨cs', n, _, h3, fun j hj => by rw [← add_add]; exact h4 j hj, h5, ?_⟩
        have := bulk_in (List.mem_map.2 ⟨i, List.mem_range.2 hi, rfl⟩ : D i ∈ (List.range len).map D)
        simp only [Rows.uptoBulk]; omega

theorem one_list {α : Type} {l : List α} (h : l.length = 1) : ∃ a, l = [a] := by
  match l, h with
  | [a], _ => exact ⟨a, rfl⟩
theorem two_list {α : Type} {l : List α} (h : l.length = 2) : ∃ a b, l = [a, b] := by
  match l, h with
  | [a, b], _ => exact ⟨a, b, rfl⟩
theorem three_list {α : Type} {l : List α} (h : l.length = 3) : ∃ a b c, l = [a, b, c] := by
  match l, h with
  | [a, b, c], _ => exact ⟨a, b, c, rfl⟩
theorem four_list {α : Type} {l : List α} (h : l.length = 4) : ∃ a b c d, l = [a, b, c, d] := by
  match l, h with
  | [a, b, c, d], _ => exact ⟨a, b, c, d, rfl⟩
end

section
variable {H : Type} {enc : TypeId × Value → H} {w : World}

theorem read_bytes {fuel : Nat} {v : Value} {x : DataW H × List MemPlace} (h : DataW.trod enc Try.prog w 0 (fun _ => true) true fuel 29 [v] = some x) :
    ∃ (p : Option Addr) (d : List Int) (cap : Nat), v = .slice p d.length cap ∧ BytesB w w.heap.size p d ∧ (p = none → cap = 0) ∧ d.length + 1 ≤ Rows.uptoBulk x.1 := by
  obtain ⟨p, len, cap, rfl, hl, hm, hn, hb, hx⟩ := slice_at (k := 1) byte_und2 (by kernel_rfl) (by decide) h
  have hex : ∃ N : Nat → Int, 0 < len → ∃ b o, p = some ⟨b, o, none⟩ ∧ b < w.heap.size ∧ ∀ i, i < len → w.cell? ⟨b, o + i, none⟩ = some (.int .u8 (N i)) := by
    rcases Nat.eq_zero_or_pos len with h0 | h0
    · exact ⟨fun _ => 0, fun h => by omega⟩
    · obtain ⟨b, o, rfl, hbl, hi⟩ := hx h0
      have : ∀ i, i < len → ∃ N : Int, w.cell? ⟨b, o + i, none⟩ = some (.int .u8 N) := by
        intro i hil
        obtain ⟨cs', n, y, h3, h4, h5, _⟩ := hi i hil
        obtain ⟨c, rfl⟩ := one_list h3
        obtain ⟨N, e, _, _⟩ := DataW.trod_int byte_und9 h5
        injection e with e; subst e
        have := h4 0 (by decide)
        rw [Nat.mul_one, Nat.add_zero] at this
        exact ⟨N, this⟩
      obtain ⟨N, hN⟩ := Deep.choose_lt this
      exact ⟨N, fun _ => ⟨b, o, rfl, hbl, hN⟩⟩
  obtain ⟨N, hN⟩ := hex
  refine ⟨p, (List.range len).map N, cap, by simp, fun h0 => ?_, hn, by simpa using hb⟩
  simp only [List.length_map, List.length_range] at h0
  obtain ⟨b, o, e, hbl, hi⟩ := hN h0
  refine ⟨b, o, e, hbl, fun i hil => ?_⟩
  simp only [List.length_map, List.length_range] at hil
  rw [hi i hil]
  simp [List.getD_eq_getElem?_getD, hil]

theorem read_strs {fuel : Nat} {v : Value} {x : DataW H × List MemPlace} (h : DataW.trod enc Try.prog w 0 (fun _ => true) true fuel 66 [v] = some x) :
    ∃ (p : Option Addr) (d : List ByteArray) (cap : Nat), v = .slice p d.length cap ∧ StrsB w w.heap.size p d ∧ (∀ s ∈ d, s.size ≤ maxLen) ∧ d.length + 1 ≤ Rows.uptoBulk x.1 := by
  obtain ⟨p, len, cap, rfl, hl, hm, hn, hb, hx⟩ := slice_at (k := 1) str_und3 (by kernel_rfl) (by decide) h
  have hex : ∃ N : Nat → ByteArray, (∀ i, i < len → (N i).size ≤ maxLen) ∧ (0 < len → ∃ b o, p = some ⟨b, o, none⟩ ∧ b < w.heap.size ∧ ∀ i, i < len → w.cell? ⟨b, o + i, none⟩ = some (.string (N i))) := by
    rcases Nat.eq_zero_or_pos len with h0 | h0
    · exact ⟨fun _ => ByteArray.empty, fun i hi => by omega, fun h => by omega⟩
    · obtain ⟨b, o, rfl, hbl, hi⟩ := hx h0
      have : ∀ i, i < len → ∃ N : ByteArray, w.cell? ⟨b, o + i, none⟩ = some (.string N) ∧ N.size ≤ maxLen := by
        intro i hil
        obtain ⟨cs', n, y, h3, h4, h5, _⟩ := hi i hil
        obtain ⟨c, rfl⟩ := one_list h3
        obtain ⟨N, e, _, hs⟩ := DataW.trod_string str_und9 h5
        injection e with e; subst e
        have := h4 0 (by decide)
        rw [Nat.mul_one, Nat.add_zero] at this
        exact ⟨N, this, hs⟩
      obtain ⟨N, hN⟩ := Deep.choose_lt this
      exact ⟨N, fun i hi => (hN i hi).2, fun _ => ⟨b, o, rfl, hbl, fun i hi => (hN i hi).1⟩⟩
  obtain ⟨N, hS, hN⟩ := hex
  refine ⟨p, (List.range len).map N, cap, by simp, fun h0 => ?_, fun s hs => ?_, by simpa using hb⟩
  · simp only [List.length_map, List.length_range] at h0
    obtain ⟨b, o, e, hbl, hi⟩ := hN h0
    refine ⟨b, o, e, hbl, fun i hil => ?_⟩
    have hil2 : i < len := by simpa using hil
    rw [hi i hil2]
    simp
  · obtain ⟨i, hi, rfl⟩ := List.mem_map.1 hs
    exact hS i (List.mem_range.1 hi)

theorem int_und9 : Try.prog.underlying 3 = some (.int .i64) := by kernel_rfl

theorem read_int {fuel : Nat} {v : Value} {x : DataW H × List MemPlace} (h : DataW.trod enc Try.prog w 0 (fun _ => true) true fuel 3 [v] = some x) : ∃ n, v = .int .i64 n := by
  obtain ⟨n, e, _, _⟩ := DataW.trod_int int_und9 h
  injection e with e
  exact ⟨n, e⟩

theorem read_part {fuel : Nat} {cs : List Value} {x : DataW H × List MemPlace} (h : DataW.trod enc Try.prog w 0 (fun _ => true) true fuel 108 cs = some x) : ∃ k n kc, cs = [.int .i64 k, .int .i64 n, .int .i64 kc] := by
  obtain ⟨hl, _, v0, y0, g0, t0, _⟩ := field_at (k := 3) Try.underlying108 h 0 _ rfl (by kernel_rfl) (by kernel_rfl) (by decide)
  obtain ⟨_, _, v1, y1, g1, t1, _⟩ := field_at (k := 3) Try.underlying108 h 1 _ rfl (by kernel_rfl) (by kernel_rfl) (by decide)
  obtain ⟨_, _, v2, y2, g2, t2, _⟩ := field_at (k := 3) Try.underlying108 h 2 _ rfl (by kernel_rfl) (by kernel_rfl) (by decide)
  obtain ⟨a, b, c, rfl⟩ := three_list hl
  obtain ⟨k, rfl⟩ := read_int t0
  obtain ⟨n, rfl⟩ := read_int t1
  obtain ⟨kc, rfl⟩ := read_int t2
  simp at g0 g1 g2
  exact ⟨k, n, kc, by rw [g0, g1, g2]⟩

theorem read_parts {fuel : Nat} {v : Value} {x : DataW H × List MemPlace} (h : DataW.trod enc Try.prog w 0 (fun _ => true) true fuel 67 [v] = some x) :
    ∃ (p : Option Addr) (d : List (Int × Int × Int)) (cap : Nat), v = .slice p d.length cap ∧ PartsB w w.heap.size p d ∧ d.length + 1 ≤ Rows.uptoBulk x.1 := by
  obtain ⟨p, len, cap, rfl, hl, hm, hn, hb, hx⟩ := slice_at (k := 3) part_und3 (by kernel_rfl) (by decide) h
  have hex : ∃ N : Nat → Int × Int × Int, 0 < len → ∃ b o, p = some ⟨b, o, none⟩ ∧ b < w.heap.size ∧ ∀ i, i < len → w.cell? ⟨b, o + i * 3, none⟩ = some (.int .i64 (N i).1) ∧ w.cell? ⟨b, o + i * 3 + 1, none⟩ = some (.int .i64 (N i).2.1) ∧ w.cell? ⟨b, o + i * 3 + 2, none⟩ = some (.int .i64 (N i).2.2) := by
    rcases Nat.eq_zero_or_pos len with h0 | h0
    · exact ⟨fun _ => (0, 0, 0), fun h => by omega⟩
    · obtain ⟨b, o, rfl, hbl, hi⟩ := hx h0
      have : ∀ i, i < len → ∃ N : Int × Int × Int, w.cell? ⟨b, o + i * 3, none⟩ = some (.int .i64 N.1) ∧ w.cell? ⟨b, o + i * 3 + 1, none⟩ = some (.int .i64 N.2.1) ∧ w.cell? ⟨b, o + i * 3 + 2, none⟩ = some (.int .i64 N.2.2) := by
        intro i hil
        obtain ⟨cs', n, y, h3, h4, h5, _⟩ := hi i hil
        obtain ⟨k, m, kc, rfl⟩ := read_part h5
        exact ⟨(k, m, kc), h4 0 (by decide), h4 1 (by decide), h4 2 (by decide)⟩
      obtain ⟨N, hN⟩ := Deep.choose_lt this
      exact ⟨N, fun _ => ⟨b, o, rfl, hbl, hN⟩⟩
  obtain ⟨N, hN⟩ := hex
  refine ⟨p, (List.range len).map N, cap, by simp, fun h0 => ?_, by simpa using hb⟩
  simp only [List.length_map, List.length_range] at h0
  obtain ⟨b, o, e, hbl, hi⟩ := hN h0
  refine ⟨b, o, e, hbl, fun j k n kc hj => ?_⟩
  have hjl := (List.getElem?_eq_some_iff.1 hj).1
  simp only [List.length_map, List.length_range] at hjl
  have := hi j hjl
  have e : N j = (k, n, kc) := by simpa [hjl] using hj
  rw [e] at this
  exact this

/-- What is read of one text. -/
structure TextR (w : World) (b o : Nat) (nm : ByteArray) (d : List Int) (bk : Nat) : Prop where
  c0 : w.cell? ⟨b, o, none⟩ = some (.string nm)
  c1 : ∃ (p : Option Addr) (cap : Nat), w.cell? ⟨b, o + 1, none⟩ = some (.slice p d.length cap) ∧ BytesB w w.heap.size p d ∧ (p = none → cap = 0)
  s0 : nm.size ≤ maxLen
  s1 : d.length ≤ bk

theorem read_texts {fuel : Nat} {v : Value} {x : DataW H × List MemPlace} (h : DataW.trod enc Try.prog w 0 (fun _ => true) true fuel 22 [v] = some x) :
    ∃ (p : Option Addr) (ts : List (ByteArray × List Int)) (cap : Nat), v = .slice p ts.length cap ∧ ts.length ≤ cap ∧ cap ≤ maxLen ∧ ts.length ≤ Rows.uptoBulk x.1 ∧ (0 < ts.length → ∃ b o, p = some ⟨b, o, none⟩ ∧ b < w.heap.size ∧ ∀ i nm d, ts[i]? = some (nm, d) → TextR w b (o + i * 2) nm d (Rows.uptoBulk x.1)) := by
  obtain ⟨p, len, cap, rfl, hl, hm, hn, hb, hx⟩ := slice_at (k := 2) text_und2 (by kernel_rfl) (by decide) h
  have hex : ∃ N : Nat → ByteArray × List Int, 0 < len → ∃ b o, p = some ⟨b, o, none⟩ ∧ b < w.heap.size ∧ ∀ i, i < len → TextR w b (o + i * 2) (N i).1 (N i).2 (Rows.uptoBulk x.1) := by
    rcases Nat.eq_zero_or_pos len with h0 | h0
    · exact ⟨fun _ => (ByteArray.empty, []), fun h => by omega⟩
    · obtain ⟨b, o, rfl, hbl, hi⟩ := hx h0
      have : ∀ i, i < len → ∃ N : ByteArray × List Int, TextR w b (o + i * 2) N.1 N.2 (Rows.uptoBulk x.1) := by
        intro i hil
        obtain ⟨cs', n, y, h3, h4, h5, hyb⟩ := hi i hil
        obtain ⟨_, _, v0, y0, g0, t0, _⟩ := field_at (k := 2) Try.underlying65 h5 0 _ rfl (by kernel_rfl) (by kernel_rfl) (by decide)
        obtain ⟨_, _, v1, y1, g1, t1, hb1⟩ := field_at (k := 2) Try.underlying65 h5 1 _ rfl (by kernel_rfl) (by kernel_rfl) (by decide)
        obtain ⟨nm, e, _, hs⟩ := DataW.trod_string str_und9 t0
        injection e with e; subst e
        obtain ⟨pd, d, cd, rfl, hbd, hnn, hbb⟩ := read_bytes t1
        have k0 := (h4 0 (by decide)).trans g0
        have k1 := (h4 1 (by decide)).trans g1
        exact ⟨(nm, d), k0, ⟨pd, cd, k1, hbd, hnn⟩, hs, by show d.length ≤ _; omega⟩
      obtain ⟨N, hN⟩ := Deep.choose_lt this
      exact ⟨N, fun _ => ⟨b, o, rfl, hbl, hN⟩⟩
  obtain ⟨N, hN⟩ := hex
  refine ⟨p, (List.range len).map N, cap, by simp, by simpa using hl, hm, by simp; omega, fun h0 => ?_⟩
  simp only [List.length_map, List.length_range] at h0
  obtain ⟨b, o, e, hbl, hi⟩ := hN h0
  refine ⟨b, o, e, hbl, fun i nm d hj => ?_⟩
  have hjl := (List.getElem?_eq_some_iff.1 hj).1
  simp only [List.length_map, List.length_range] at hjl
  have := hi i hjl
  have e : N i = (nm, d) := by simpa [hjl] using hj
  rw [e] at this
  exact this

/-- What is read of one function. -/
structure FunR (w : World) (b o : Nat) (f : Fun) (bk : Nat) : Prop where
  c0 : w.cell? ⟨b, o, none⟩ = some (.string f.name)
  c1 : w.cell? ⟨b, o + 1, none⟩ = some (.int .i64 f.args)
  c2 : ∃ (p : Option Addr) (cap : Nat), w.cell? ⟨b, o + 2, none⟩ = some (.slice p f.locals.length cap) ∧ StrsB w w.heap.size p f.locals
  c3 : ∃ (p : Option Addr) (cap : Nat), w.cell? ⟨b, o + 3, none⟩ = some (.slice p f.parts.length cap) ∧ PartsB w w.heap.size p f.parts
  s0 : f.name.size ≤ maxLen
  s1 : ∀ s ∈ f.locals, s.size ≤ maxLen
  s2 : f.locals.length ≤ bk
  s3 : f.parts.length ≤ bk

theorem read_funs {fuel : Nat} {v : Value} {x : DataW H × List MemPlace} (h : DataW.trod enc Try.prog w 0 (fun _ => true) true fuel 23 [v] = some x) :
    ∃ (p : Option Addr) (us : List Fun) (cap : Nat), v = .slice p us.length cap ∧ us.length ≤ Rows.uptoBulk x.1 ∧ (0 < us.length → ∃ b o, p = some ⟨b, o, none⟩ ∧ b < w.heap.size ∧ ∀ i f, us[i]? = some f → FunR w b (o + i * 4) f (Rows.uptoBulk x.1)) := by
  obtain ⟨p, len, cap, rfl, hl, hm, hn, hb, hx⟩ := slice_at (k := 4) fn_und4 (by kernel_rfl) (by decide) h
  have hex : ∃ N : Nat → Fun, 0 < len → ∃ b o, p = some ⟨b, o, none⟩ ∧ b < w.heap.size ∧ ∀ i, i < len → FunR w b (o + i * 4) (N i) (Rows.uptoBulk x.1) := by
    rcases Nat.eq_zero_or_pos len with h0 | h0
    · exact ⟨fun _ => ⟨ByteArray.empty, 0, [], []⟩, fun h => by omega⟩
    · obtain ⟨b, o, rfl, hbl, hi⟩ := hx h0
      have : ∀ i, i < len → ∃ N : Fun, FunR w b (o + i * 4) N (Rows.uptoBulk x.1) := by
        intro i hil
        obtain ⟨cs', n, y, h3, h4, h5, hyb⟩ := hi i hil
        obtain ⟨_, _, v0, y0, g0, t0, _⟩ := field_at (k := 4) Try.underlying69 h5 0 _ rfl (by kernel_rfl) (by kernel_rfl) (by decide)
        obtain ⟨_, _, v1, y1, g1, t1, _⟩ := field_at (k := 4) Try.underlying69 h5 1 _ rfl (by kernel_rfl) (by kernel_rfl) (by decide)
        obtain ⟨_, _, v2, y2, g2, t2, hb2⟩ := field_at (k := 4) Try.underlying69 h5 2 _ rfl (by kernel_rfl) (by kernel_rfl) (by decide)
        obtain ⟨_, _, v3, y3, g3, t3, hb3⟩ := field_at (k := 4) Try.underlying69 h5 3 _ rfl (by kernel_rfl) (by kernel_rfl) (by decide)
        obtain ⟨nm, e, _, hs⟩ := DataW.trod_string str_und9 t0
        injection e with e; subst e
        obtain ⟨ar, rfl⟩ := read_int t1
        obtain ⟨pl, ls, cl, rfl, hsl, hss, hbl2⟩ := read_strs t2
        obtain ⟨pp, qs, cp, rfl, hsp, hbp⟩ := read_parts t3
        have k0 := (h4 0 (by decide)).trans g0
        have k1 := (h4 1 (by decide)).trans g1
        have k2 := (h4 2 (by decide)).trans g2
        have k3 := (h4 3 (by decide)).trans g3
        exact ⟨⟨nm, ar, ls, qs⟩, k0, k1, ⟨pl, cl, k2, hsl⟩, ⟨pp, cp, k3, hsp⟩, hs, hss, by show ls.length ≤ _; omega, by show qs.length ≤ _; omega⟩
      obtain ⟨N, hN⟩ := @Deep.choose_lt _ ⟨(⟨ByteArray.empty, 0, [], []⟩ : Fun)⟩ _ _ this
      exact ⟨N, fun _ => ⟨b, o, rfl, hbl, hN⟩⟩
  obtain ⟨N, hN⟩ := hex
  refine ⟨p, (List.range len).map N, cap, by simp, by simp; omega, fun h0 => ?_⟩
  simp only [List.length_map, List.length_range] at h0
  obtain ⟨b, o, e, hbl, hi⟩ := hN h0
  refine ⟨b, o, e, hbl, fun i f hj => ?_⟩
  have hjl := (List.getElem?_eq_some_iff.1 hj).1
  simp only [List.length_map, List.length_range] at hjl
  have := hi i hjl
  have e : N i = f := by simpa [hjl] using hj
  rw [e] at this
  exact this

theorem read_unit {v : Value} {d : DataW H} {ps : List MemPlace} (hv : ∃ cs, v = .agg cs) (h : DataW.Trod enc Try.prog w 0 (fun _ => true) true 25 v d ps) (hb : Rows.uptoBulk d ≤ 1048576) :
    ∃ (u : Un) (pt pf : Option Addr) (ct cf : Nat), v = .agg #[.slice pt u.texts.length ct, .slice pf u.funcs.length cf] ∧ LawU w w.heap.size pt pf ct u := by
  obtain ⟨cs, rfl⟩ := hv
  obtain ⟨fuel, h⟩ := h
  have h' : DataW.trod enc Try.prog w 0 (fun _ => true) true fuel 25 cs.toList = some (d, ps) := h
  obtain ⟨hl, _, v0, y0, g0, t0, b0⟩ := field_at (k := 2) Try.underlying25 h' 0 _ rfl (by kernel_rfl) (by kernel_rfl) (by decide)
  obtain ⟨_, _, v1, y1, g1, t1, b1⟩ := field_at (k := 2) Try.underlying25 h' 1 _ rfl (by kernel_rfl) (by kernel_rfl) (by decide)
  obtain ⟨pt, ts, ct, rfl, hct, hcm, hbt, ht⟩ := read_texts t0
  obtain ⟨pf, us, cf, rfl, hbf, hf⟩ := read_funs t1
  simp only [] at b0 b1
  refine ⟨⟨ts, us⟩, pt, pf, ct, cf, ?_, ⟨⟨Nat.le_refl _, fun h0 => ?_, fun h0 => ?_⟩, ⟨⟨?_, ?_, ?_, ?_⟩, ?_, hct, hcm, ?_⟩, ⟨?_, ?_, ?_, ?_⟩⟩⟩
  · obtain ⟨a, b, e⟩ := two_list hl
    have : cs = #[a, b] := by
      have := congrArg List.toArray e
      simpa using this
    subst this
    simp at g0 g1
    rw [g0, g1]
  · obtain ⟨b, o, e, hbl, hi⟩ := ht h0
    refine ⟨b, o, e, hbl, fun i nm dd hj => ?_⟩
    have R := hi i nm dd hj
    obtain ⟨p, cap, q1, q2, _⟩ := R.c1
    exact ⟨R.c0, p, cap, q1, q2⟩
  · obtain ⟨b, o, e, hbl, hi⟩ := hf h0
    refine ⟨b, o, e, hbl, fun i f hj => ?_⟩
    have R := hi i f hj
    exact ⟨R.c0, R.c1, R.c2, R.c3⟩
  · show ts.length ≤ _; omega
  · show us.length ≤ _; omega
  · intro x hx
    obtain ⟨i, hi⟩ := List.mem_iff_getElem?.1 hx
    have h0 := (List.getElem?_eq_some_iff.1 hi).1
    obtain ⟨b, o, e, hbl, hii⟩ := ht (show 0 < ts.length from Nat.lt_of_le_of_lt (Nat.zero_le _) h0)
    have R := hii i x.1 x.2 hi
    exact ⟨R.s0, by have := R.s1; omega⟩
  · intro f hx
    obtain ⟨i, hi⟩ := List.mem_iff_getElem?.1 hx
    have h0 := (List.getElem?_eq_some_iff.1 hi).1
    obtain ⟨b, o, e, hbl, hii⟩ := hf (show 0 < us.length from Nat.lt_of_le_of_lt (Nat.zero_le _) h0)
    have R := hii i f hi
    exact ⟨R.s0, by have := R.s2; omega, by have := R.s3; omega, R.s1⟩
  · intro f hx
    obtain ⟨i, hi⟩ := List.mem_iff_getElem?.1 hx
    have h0 := (List.getElem?_eq_some_iff.1 hi).1
    obtain ⟨b, o, e, hbl, hii⟩ := hf (show 0 < us.length from Nat.lt_of_le_of_lt (Nat.zero_le _) h0)
    have R := hii i f hi
    have := R.s3; omega
  · intro i pd n cd b o hp hi hc hn
    obtain ⟨b', o', e, hbl, hii⟩ := ht (by have h9 : i < ts.length := hi; omega)
    rw [hp] at e
    injection e with e; injection e with e1 e2 _; subst e1; subst e2
    obtain ⟨⟨nm, dd⟩, hx⟩ : ∃ x, ts[i]? = some x := ⟨_, List.getElem?_eq_getElem hi⟩
    obtain ⟨p, cap, q1, q2, q3⟩ := (hii i nm dd hx).c1
    rw [q1] at hc
    injection hc with hc
    injection hc with c1 c2 c3
    subst c1; subst c3
    exact q3 hn
  · show ts.length ≤ _; omega
  · show us.length ≤ _; omega
  · intro x hx
    obtain ⟨i, hi⟩ := List.mem_iff_getElem?.1 hx
    have h0 := (List.getElem?_eq_some_iff.1 hi).1
    obtain ⟨b, o, e, hbl, hii⟩ := ht (show 0 < ts.length from Nat.lt_of_le_of_lt (Nat.zero_le _) h0)
    have := (hii i x.1 x.2 hi).s1; omega
  · intro f hx
    obtain ⟨i, hi⟩ := List.mem_iff_getElem?.1 hx
    have h0 := (List.getElem?_eq_some_iff.1 hi).1
    obtain ⟨b, o, e, hbl, hii⟩ := hf (show 0 < us.length from Nat.lt_of_le_of_lt (Nat.zero_le _) h0)
    have R := hii i f hi
    exact ⟨by have := R.s2; omega, by have := R.s3; omega⟩
end

end Go.Proofs.Ytecaolkbllbokaa.TG
