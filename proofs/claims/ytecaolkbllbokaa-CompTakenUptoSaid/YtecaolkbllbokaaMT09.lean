import Derived.Test.YtecaolkbllbokaaMT08
set_option linter.unusedSimpArgs false
set_option linter.unusedVariables false
set_option maxRecDepth 100000
set_option maxHeartbeats 16000000
namespace Go.Proofs.Ytecaolkbllbokaa.TG
open Go.RowKit Go.Great
theorem Yoo (E Bd bx bj j : Nat) (place : Int) (vt vf : Value) (nm : ByteArray) (ar : Int) (vl vp vout vorg vlo vk : Value) (out : List (Int × Int)) (org : List Int) (w : World) (hj : j < out.length) (ho : out.length <= 1000000000000)
 (hC : Yc w E Bd vt vf nm ar vl vp vout vorg vlo vk out org) (hx0 : w.cell? ⟨bx, 0, none⟩ = some (.pointer (some ⟨Bd, 0, none⟩))) (hc : w.cell? ⟨bj, 0, none⟩ = some (.int .i64 j)) :
 Calls Try.prog 98 #[.int .i64 place, .pointer (some ⟨bx, 0, none⟩), .pointer (some ⟨bj, 0, none⟩)] w fun e w' => (∃ v, e = .returned v) /\ Sp (Yj Bd vout vorg) w w' /\ Yc w' E Bd vt vf nm ar vl vp vout vorg vlo vk (Zsy out j place) org := by
 obtain ⟨m, hm⟩ : ∃ m, out.length = m + 1 := ⟨out.length - 1, by omega⟩
 obtain ⟨g, k, rfl⟩ := Yk (n := m) (by rw [<- hm]; exact hC.out)
 have hlast := Zvo (w := w) hC hm.symm j hj place
 have c6 : w.cell? ⟨Bd, 6, none⟩ = some (.slice (some ⟨g, 0, none⟩) (m + 1) k) := Yo hC 6
 have hBd : Bd < w.heap.size := Nat.lt_of_lt_of_le hC.lt hC.le
 have hbj := World.block_lt_of_cell? _ _ hc
 have hbx := World.block_lt_of_cell? _ _ hx0
 have hg := (hC.out.lt g rfl).2
 have hown := hC.out
 rw [hm] at hown
 have hcell : ∃ x, w.cell? ⟨g, j * 2 + 1, none⟩ = some x := by
  have := hown.cellAt (j * 2 + 1) (by omega)
  rw [this]
  exact ⟨_, List.getElem?_eq_getElem (by rw [Zld]; omega)⟩
 obtain ⟨x, hx⟩ := hcell
 have hz : w.frozen? ⟨g, j * 2 + 1, none⟩ = false := hown.frozenAt _
 have HL := Hq hlast
 have hji : (j : Int) < ((m + 1 : Nat) : Int) := by omega
 clear hC hown hlast
 go_enter Try.func98, Try.ntmps98
 go_wp2
 go_region
 go_wp2
 refine bodyPost_end0 rfl rfl ?_
 refine ⟨⟨_, rfl⟩, ?_, ?_⟩
 · exact Zr HL.out.2 (Zl (P := Yj Bd (.slice (some ⟨g, 0, none⟩) (m + 1) k) vorg) (Zf (Ze _ none)) (by simp)) (fun _ _ h => h)
 · exact Zaa HL.out.1 (Zf (Ze _ none))
def Zwh (ts : List (ByteArray × List Int)) (k n : Int) : List (Int × Int) :=
 if k = 14 then [(3, Zy ts n.toNat)] else if k = 15 then [(3, ((ts.getD n.toNat (ByteArray.empty, [])).2.length : Int))]
 else if k = 21 then [(6, 0), (n, 0)] else if k = 22 then [(3, 0), (31, 0)] else Zwi k n
structure PS where
 out : List (Int × Int)
 org : List Int
 V : List (Nat × List Nat)
def PS.emit (s : PS) (a : Nat) (x : Int × Int) : PS := ⟨s.out ++ [x], s.org ++ [(a : Int)], s.V⟩
def PS.mark (s : PS) (j : Nat) : PS := ⟨Zsy s.out j s.out.length, s.org, s.V⟩
def PS.marks : PS -> List Nat -> PS
 | s, [] => s
 | s, j :: r => PS.marks (s.mark j) r
def PS.emits : PS -> Nat -> List (Int × Int) -> PS
 | s, _, [] => s
 | s, a, x :: r => PS.emits (s.emit a x) a r
def PS.push (s : PS) (b : Nat) : PS := ⟨s.out, s.org, (b, []) :: s.V⟩
def PS.pop (s : PS) : PS := ⟨s.out, s.org, s.V.tail⟩
def PS.note (s : PS) (n j : Nat) : PS := ⟨s.out, s.org, s.V.set n ((s.V.getD n (0, [])).1, (s.V.getD n (0, [])).2 ++ [j])⟩
abbrev Fw := PS -> Nat -> PS × Nat
def Jo (F : Fw) (kc : Int) (s : PS) (a : Nat) : PS × Nat :=
 if kc = 2 then ((F ((F s (a + 1)).1.emit a (15, 0)) (F s (a + 1)).2).1.mark (F s (a + 1)).1.out.length, (F ((F s (a + 1)).1.emit a (15, 0)) (F s (a + 1)).2).2)
 else
  ((F (((F ((F s (a + 1)).1.emit a (15, 0)) (F s (a + 1)).2).1.emit a (14, 0)).mark (F s (a + 1)).1.out.length) (F ((F s (a + 1)).1.emit a (15, 0)) (F s (a + 1)).2).2).1.mark (F ((F s (a + 1)).1.emit a (15, 0)) (F s (a + 1)).2).1.out.length,
    (F (((F ((F s (a + 1)).1.emit a (15, 0)) (F s (a + 1)).2).1.emit a (14, 0)).mark (F s (a + 1)).1.out.length) (F ((F s (a + 1)).1.emit a (15, 0)) (F s (a + 1)).2).2).2)
def Yek (b j : Nat) (a : Nat) (y : PS) : PS := PS.marks ((y.emit a (14, (b : Int))).mark j).pop (y.V.getD 0 (0, [])).2
def Ziu (F : Fw) (s : PS) (a : Nat) : PS × Nat :=
 (Yek s.out.length (F s (a + 1)).1.out.length a (F (((F s (a + 1)).1.emit a (15, 0)).push s.out.length) (F s (a + 1)).2).1, (F (((F s (a + 1)).1.emit a (15, 0)).push s.out.length) (F s (a + 1)).2).2)
def Zgc (k : Int) (n : Nat) (s : PS) (a : Nat) : PS × Nat :=
 (if k = 7 then (s.emit a (14, ((s.V.getD n (0, [])).1 : Int))).note n s.out.length else s.emit a (14, ((s.V.getD n (0, [])).1 : Int)), a + 1)
def Ywn (alone : Int) (j a : Nat) (y : PS) : PS :=
 ((((PS.emits y a [(3, 0), (31, 0), (3, 0), (31, 0)]).emit a (14, 0)).mark j).emit a (3, alone)).mark (PS.emits y a [(3, 0), (31, 0), (3, 0), (31, 0)]).out.length
def Zcg (F : Fw) (jump alone : Int) (s : PS) (a : Nat) : PS × Nat :=
 (Ywn alone (F s (a + 1)).1.out.length a (F ((F s (a + 1)).1.emit a (jump, 0)) (F s (a + 1)).2).1, (F ((F s (a + 1)).1.emit a (jump, 0)) (F s (a + 1)).2).2)
def Zic (F : Fw) : Nat -> PS -> Nat -> PS × Nat
 | 0, s, a => (s, a)
 | n + 1, s, a => Zic F n (F s a).1 (F s a).2
def Yx (ts : List (ByteArray × List Int)) (ps : List (Int × Int × Int)) : Nat -> PS -> Nat -> PS × Nat
 | 0, s, a => (s, a)
 | g + 1, s, a =>
   match ps[a]? with
   | none => (s, a)
   | some (k, n, kc) =>
     if k = 5 then Jo (Yx ts ps g) kc s a
     else if k = 6 then Ziu (Yx ts ps g) s a
     else if k = 7 \/ k = 8 then Zgc k n.toNat s a
     else if k = 23 then Zcg (Yx ts ps g) 15 0 s a
     else if k = 24 then Zcg (Yx ts ps g) 16 1 s a
     else (PS.emits (Zic (Yx ts ps g) kc.toNat s (a + 1)).1 a (Zwh ts k n), (Zic (Yx ts ps g) kc.toNat s (a + 1)).2)
def Zas (S : Nat -> Nat) : Nat -> Nat -> Nat
 | 0, a => a
 | n + 1, a => Zas S n (S a)
def Xc (ps : List (Int × Int × Int)) : Nat -> Nat -> Nat
 | 0, a => a
 | g + 1, a => match ps[a]? with
   | none => a
   | some (_, _, kc) => Zas (Xc ps g) kc.toNat (a + 1)
structure Ypm (nt m : Nat) (k n kc : Int) : Prop where
 m1 : m <= 1000
 k1 : 1 <= k
 k2 : k <= 26
 i : k = 5 -> kc = 2 \/ kc = 3
 w : k = 6 \/ k = 23 \/ k = 24 -> kc = 2
 l : k = 7 \/ k = 8 -> kc = 0 /\ 0 <= n /\ n < m
 t : k = 14 \/ k = 15 -> 0 <= n /\ n < nt
def Znn (O : Nat -> Prop) (S : Nat -> Nat) : Nat -> Nat -> Prop
 | 0, _ => True
 | n + 1, a => O a /\ Znn O S n (S a)
def okP (nt : Nat) (ps : List (Int × Int × Int)) : Nat -> Nat -> Nat -> Prop
 | 0, _, _ => False
 | g + 1, m, a => ∃ k n kc, ps[a]? = some (k, n, kc) /\ Ypm nt m k n kc /\ (if k = 6 then okP nt ps g m (a + 1) /\ okP nt ps g (m + 1) (Xc ps g (a + 1)) else Znn (okP nt ps g m) (Xc ps g) kc.toNat (a + 1))
structure PSI (s : PS) : Prop where
 ol : s.org.length = s.out.length
 js : ∀ x ∈ s.V, ∀ j ∈ x.2, j < s.out.length
 jc : ∀ x ∈ s.V, x.2.length <= s.out.length
structure Zhi (s s' : PS) (n : Nat) : Prop where
 lo : s.out.length <= s'.out.length
 hi : s'.out.length <= s.out.length + n
 inv : PSI s'
 v : s'.V.length = s.V.length
theorem Zko {s : PS} (h : PSI s) : Zhi s s 0 := ⟨Nat.le_refl _, Nat.le_refl _, h, rfl⟩
theorem Yf {s s1 s2 : PS} {n m : Nat} (h : Zhi s s1 n) (h2 : Zhi s1 s2 m) : Zhi s s2 (n + m) :=
 ⟨Nat.le_trans h.lo h2.lo, by have := h.hi; have := h2.hi; omega, h2.inv, h2.v.trans h.v⟩
theorem Zcm {s s1 : PS} {n m : Nat} (h : Zhi s s1 n) (hn : n <= m) : Zhi s s1 m := ⟨h.lo, by have := h.hi; omega, h.inv, h.v⟩
theorem Xz {s : PS} (h : PSI s) (a : Nat) (x : Int × Int) : Zhi s (s.emit a x) 1 := by
 refine ⟨by simp [PS.emit], by simp [PS.emit], ⟨by simp [PS.emit, h.ol], fun y hy j hj => ?_, fun y hy => ?_⟩, rfl⟩
 · have := h.js y hy j hj
   simp [PS.emit]; omega
 · have := h.jc y hy
   simp [PS.emit]; omega
theorem Jl {s : PS} (h : PSI s) (j : Nat) : Zhi s (s.mark j) 0 := by
 refine ⟨by simp [PS.mark, Xn], by simp [PS.mark, Xn], ⟨by simp [PS.mark, Xn, h.ol], fun y hy j' hj => ?_, fun y hy => ?_⟩, rfl⟩
 · have := h.js y hy j' hj
   simpa [PS.mark, Xn] using this
 · have := h.jc y hy
   simpa [PS.mark, Xn] using this
theorem Zng : ∀ (l : List Nat) {s : PS}, PSI s -> Zhi s (PS.marks s l) 0
 | [], s, h => Zko h
 | j :: r, s, h => Yf (Jl h j) (Zng r (Jl h j).inv)
theorem Zdu : ∀ (l : List (Int × Int)) {s : PS} (a : Nat), PSI s -> Zhi s (PS.emits s a l) l.length
 | [], s, a, h => Zko h
 | x :: r, s, a, h => Zcm (Yf (Xz h a x) (Zdu r a (Xz h a x).inv)) (by simp; omega)
theorem Zzq {s : PS} (h : PSI s) (b : Nat) : PSI (s.push b) := ⟨h.ol, fun y hy j hj => by
 simp only [PS.push, List.mem_cons] at hy
 rcases hy with rfl | hy
 · cases hj
 · exact h.js y hy j hj, fun y hy => by
 simp only [PS.push, List.mem_cons] at hy
 rcases hy with rfl | hy
 · exact Nat.zero_le _
 · exact h.jc y hy⟩
theorem Ygf {s : PS} (h : PSI s) : PSI s.pop := ⟨h.ol, fun y hy j hj => h.js y (List.mem_of_mem_tail hy) j hj, fun y hy => h.jc y (List.mem_of_mem_tail hy)⟩
theorem Zpm {s : PS} (h : PSI s) (n j : Nat) (hj : j < s.out.length) (hc : (s.V.getD n (0, [])).2.length < s.out.length) : Zhi s (s.note n j) 0 := by
 refine ⟨Nat.le_refl _, Nat.le_refl _, ⟨h.ol, fun y hy i hi => ?_, fun y hy => ?_⟩, by simp [PS.note]⟩
 · simp only [PS.note] at hy ⊢
   rcases List.mem_or_eq_of_mem_set hy with hm | rfl
   · exact h.js y hm i hi
   · rcases List.mem_append.1 hi with hi | hi
     · by_cases hn : n < s.V.length
       · simp only [List.getD, List.getElem?_eq_getElem hn, Option.getD_some] at hi
         exact h.js _ (List.getElem_mem hn) i hi
       · simp [List.getD, List.getElem?_eq_none (by omega : s.V.length <= n)] at hi
     · simp at hi; omega
 · simp only [PS.note] at hy ⊢
   rcases List.mem_or_eq_of_mem_set hy with hm | rfl
   · exact h.jc y hm
   · simp only [List.length_append, List.length_cons, List.length_nil]; omega
theorem Yiz {s : PS} (h : PSI s) (a : Nat) (x : Int × Int) (n : Nat) : ((s.emit a x).V.getD n (0, [])).2.length < (s.emit a x).out.length := by
 have e : (s.emit a x).out.length = s.out.length + 1 := by simp [PS.emit]
 rw [e]
 show (s.V.getD n (0, [])).2.length < _
 by_cases hn : n < s.V.length
 · simp only [List.getD, List.getElem?_eq_getElem hn, Option.getD_some]
   have := h.jc _ (List.getElem_mem hn); omega
 · simp [List.getD, List.getElem?_eq_none (by omega : s.V.length <= n)]
def Ykf (np : Nat) (F : Fw) (O : Nat -> Nat -> Prop) (S : Nat -> Nat) : Prop :=
 ∀ m a s, O m a -> PSI s -> s.V.length = m -> (F s a).2 = S a /\ a < S a /\ S a <= np /\ Zhi s (F s a).1 (7 * (S a - a))
theorem Yuj {α : Type} {p : Prop} [Decidable p] {a b : List α} {n : Nat} (ha : a.length <= n) (hb : b.length <= n) : (if p then a else b).length <= n := by
 by_cases h : p
 · rw [if_pos h]; exact ha
 · rw [if_neg h]; exact hb
theorem Yuz (ts : List (ByteArray × List Int)) (k n : Int) : (Zwh ts k n).length <= 2 := by
 unfold Zwh Zwi
 repeat' apply Yuj
 all_goals simp
theorem Zyo {np : Nat} {F : Fw} {O : Nat -> Nat -> Prop} {S : Nat -> Nat} (hF : Ykf np F O S) {kc : Int} (hk : kc = 2 \/ kc = 3) {s : PS} {a : Nat} (hs : PSI s) (ho : Znn (O s.V.length) S kc.toNat (a + 1)) :
 (Jo F kc s a).2 = Zas S kc.toNat (a + 1) /\ a < Zas S kc.toNat (a + 1) /\ Zas S kc.toNat (a + 1) <= np /\ Zhi s (Jo F kc s a).1 (7 * (Zas S kc.toNat (a + 1) - a)) := by
 have key : O s.V.length (a + 1) -> O s.V.length (S (a + 1)) -> ∃ x y : PS × Nat, F s (a + 1) = x /\ F (x.1.emit a (15, 0)) x.2 = y /\ x.2 = S (a + 1) /\ y.2 = S (S (a + 1)) /\ a + 1 < S (a + 1) /\ S (a + 1) < S (S (a + 1)) /\ S (S (a + 1)) <= np /\ Zhi s y.1 (7 * (S (S (a + 1)) - (a + 1)) + 1) := by
  intro h1 h2
  have g1 := hF _ _ s h1 hs rfl
  have ge := Xz g1.2.2.2.inv a (15, 0)
  have g2 := hF _ (S (a + 1)) ((F s (a + 1)).1.emit a (15, 0)) h2 ge.inv (by rw [ge.v, g1.2.2.2.v])
  rw [<- g1.1] at g2
  refine ⟨_, _, rfl, rfl, g1.1, ?_, g1.2.1, ?_, ?_, ?_⟩
  · rw [g2.1, g1.1]
  · have := g2.2.1; rwa [g1.1] at this
  · have := g2.2.2.1; rwa [g1.1] at this
  · refine Zcm (Yf (Yf g1.2.2.2 ge) g2.2.2.2) ?_
    have := g2.2.1; have := g1.2.1
    rw [g1.1] at *
    omega
 rcases hk with rfl | rfl
 · obtain ⟨h1, h2, -⟩ := ho
   obtain ⟨x, y, e1, e2, ex, ey, l1, l2, l3, gy⟩ := key h1 h2
   have hS : Zas S (2 : Int).toNat (a + 1) = S (S (a + 1)) := rfl
   rw [hS]
   unfold Jo
   rw [if_pos rfl, e1, e2]
   exact ⟨ey, by omega, l3, Zcm (Yf gy (Jl gy.inv _)) (by omega)⟩
 · obtain ⟨h1, h2, h3, -⟩ := ho
   obtain ⟨x, y, e1, e2, ex, ey, l1, l2, l3, gy⟩ := key h1 h2
   have hS : Zas S (3 : Int).toNat (a + 1) = S (S (S (a + 1))) := rfl
   rw [hS]
   unfold Jo
   rw [if_neg (by decide), e1, e2]
   have ge := Xz gy.inv a (14, 0)
   have gm := Jl ge.inv x.1.out.length
   have g3 := hF _ (S (S (a + 1))) ((y.1.emit a (14, 0)).mark x.1.out.length) h3 gm.inv (by rw [gm.v, ge.v, gy.v])
   rw [<- ey] at g3
   refine ⟨by rw [g3.1, ey], ?_, ?_, ?_⟩
   · have := g3.2.1; rw [ey] at this; omega
   · have := g3.2.2.1; rwa [ey] at this
   · have h4 := g3.2.1; have h5 := g3.2.2.2
     refine Zcm (Yf (Yf (Yf (Yf gy ge) gm) h5) (Jl h5.inv _)) ?_
     rw [ey] at *
     omega
theorem Yiw {y : PS} (h : PSI y) (b j a : Nat) : PSI (Yek b j a y) /\ (Yek b j a y).out.length = y.out.length + 1 /\ (Yek b j a y).V.length = y.V.length - 1 := by
 have ge := Xz h a (14, (b : Int))
 have gm := Jl ge.inv j
 have gp := Zng (y.V.getD 0 (0, [])).2 (Ygf gm.inv)
 refine ⟨gp.inv, ?_, ?_⟩
 · have h1 := gp.lo; have h2 := gp.hi
   have e : ((y.emit a (14, (b : Int))).mark j).pop.out.length = y.out.length + 1 := by simp [PS.pop, PS.mark, Xn, PS.emit]
   rw [e] at h1 h2
   unfold Yek; omega
 · unfold Yek
   rw [gp.v]
   simp [PS.pop, PS.mark, PS.emit]
theorem Ybs {np : Nat} {F : Fw} {O : Nat -> Nat -> Prop} {S : Nat -> Nat} (hF : Ykf np F O S) {s : PS} {a : Nat} (hs : PSI s) (h1 : O s.V.length (a + 1)) (h2 : O (s.V.length + 1) (S (a + 1))) :
 (Ziu F s a).2 = S (S (a + 1)) /\ a < S (S (a + 1)) /\ S (S (a + 1)) <= np /\ Zhi s (Ziu F s a).1 (7 * (S (S (a + 1)) - a)) := by
 have g1 := hF _ _ s h1 hs rfl
 have ge := Xz g1.2.2.2.inv a (15, 0)
 have g2 := hF _ (S (a + 1)) (((F s (a + 1)).1.emit a (15, 0)).push s.out.length) h2 (Zzq ge.inv _) (by show ((F s (a + 1)).1.emit a (15, 0)).V.length + 1 = _; rw [ge.v, g1.2.2.2.v])
 rw [<- g1.1] at g2
 have g3 := Yiw g2.2.2.2.inv s.out.length (F s (a + 1)).1.out.length a
 unfold Ziu
 have h3 := g2.2.1; have h4 := g2.2.2.1; have h5 := g1.2.1
 have h6 := g2.2.2.2.hi; have h7 := g2.2.2.2.lo; have h8 := g1.2.2.2.hi; have h9 := g1.2.2.2.lo
 have e1 : (((F s (a + 1)).1.emit a (15, 0)).push s.out.length).out.length = (F s (a + 1)).1.out.length + 1 := by simp [PS.push, PS.emit]
 rw [e1] at h6 h7
 have h10 := g2.2.2.2.v
 have e2 : (((F s (a + 1)).1.emit a (15, 0)).push s.out.length).V.length = s.V.length + 1 := by
  show ((F s (a + 1)).1.emit a (15, 0)).V.length + 1 = _; rw [ge.v, g1.2.2.2.v]
 rw [e2] at h10
 have eS := g1.1
 refine ⟨?_, ?_, ?_, ⟨?_, ?_, g3.1, ?_⟩⟩
 · show (F _ _).2 = _; rw [g2.1, g1.1]
 · rw [eS] at h3; omega
 · rw [eS] at h4; exact h4
 · show _ <= (Yek _ _ _ _).out.length; rw [g3.2.1]; omega
 · show (Yek _ _ _ _).out.length <= _
   rw [g3.2.1]; rw [eS] at h3 h4 h6 h7 ⊢; omega
 · show (Yek _ _ _ _).V.length = _; rw [g3.2.2, h10]; omega
theorem Zob {np : Nat} {F : Fw} {O : Nat -> Nat -> Prop} {S : Nat -> Nat} (hF : Ykf np F O S) (jump alone : Int) {s : PS} {a : Nat} (hs : PSI s) (h1 : O s.V.length (a + 1)) (h2 : O s.V.length (S (a + 1))) :
 (Zcg F jump alone s a).2 = S (S (a + 1)) /\ a < S (S (a + 1)) /\ S (S (a + 1)) <= np /\ Zhi s (Zcg F jump alone s a).1 (7 * (S (S (a + 1)) - a)) := by
 have g1 := hF _ _ s h1 hs rfl
 have ge := Xz g1.2.2.2.inv a (jump, 0)
 have g2 := hF _ (S (a + 1)) ((F s (a + 1)).1.emit a (jump, 0)) h2 ge.inv (by rw [ge.v, g1.2.2.2.v])
 rw [<- g1.1] at g2
 unfold Zcg
 have h3 := g2.2.1; have h4 := g2.2.2.1; have h5 := g1.2.1
 have g3 := Zdu [(3, 0), (31, 0), (3, 0), (31, 0)] a g2.2.2.2.inv
 have g4 := Xz g3.inv a (14, 0)
 have g5 := Jl g4.inv (F s (a + 1)).1.out.length
 have g6 := Xz g5.inv a (3, alone)
 have g7 := Jl g6.inv (PS.emits (F ((F s (a + 1)).1.emit a (jump, 0)) (F s (a + 1)).2).1 a [(3, 0), (31, 0), (3, 0), (31, 0)]).out.length
 have gg := Yf (Yf (Yf (Yf (Yf (Yf (Yf g1.2.2.2 ge) g2.2.2.2) g3) g4) g5) g6) g7
 have eS := g1.1
 refine ⟨?_, ?_, ?_, Zcm gg ?_⟩
 · show (F _ _).2 = _; rw [g2.1, g1.1]
 · rw [eS] at h3; omega
 · rw [eS] at h4; exact h4
 · rw [eS] at h3 h4 ⊢; simp only [List.length_cons, List.length_nil]; omega
theorem Znl {np : Nat} {F : Fw} {O : Nat -> Nat -> Prop} {S : Nat -> Nat} (hF : Ykf np F O S) : ∀ (n : Nat) {s : PS} {a : Nat}, PSI s -> a <= np -> Znn (O s.V.length) S n a ->
 (Zic F n s a).2 = Zas S n a /\ a + n <= Zas S n a /\ Zas S n a <= np /\ Zhi s (Zic F n s a).1 (7 * (Zas S n a - a))
 | 0, s, a, hs, ha, _ => by unfold Zic Zas; exact ⟨rfl, by omega, ha, Zcm (Zko hs) (by omega)⟩
 | n + 1, s, a, hs, ha, ho => by
   obtain ⟨h1, h2⟩ := ho
   have g1 := hF _ _ s h1 hs rfl
   have g2 := Znl hF n (s := (F s a).1) (a := S a) g1.2.2.2.inv g1.2.2.1 (by rw [g1.2.2.2.v]; exact h2)
   rw [<- g1.1] at g2
   unfold Zic Zas
   have h3 := g2.2.1; have h4 := g2.2.2.1; have h5 := g1.2.1
   rw [g1.1] at h3 h4
   refine ⟨by rw [g2.1, g1.1], by omega, h4, Zcm (Yf g1.2.2.2 g2.2.2.2) ?_⟩
   rw [g1.1]; omega
theorem Zjv (ts : List (ByteArray × List Int)) (ps : List (Int × Int × Int)) : ∀ g, Ykf ps.length (Yx ts ps g) (okP ts.length ps g) (Xc ps g)
 | 0 => fun m a s h _ _ => h.elim
 | g + 1 => fun m a s h hs hm => by
   subst hm
   obtain ⟨k, n, kc, hp, hw, ho⟩ := h
   have hlt : a < ps.length := (List.getElem?_eq_some_iff.1 hp).1
   have IH := Zjv ts ps g
   have eS : Xc ps (g + 1) a = Zas (Xc ps g) kc.toNat (a + 1) := by rw [Xc, hp]
   rw [eS]
   unfold Yx
   rw [hp]
   by_cases h5 : k = 5
   · rw [if_neg (by omega)] at ho
     simp only [if_pos h5]
     exact Zyo IH (hw.i h5) hs ho
   by_cases h6 : k = 6
   · rw [if_pos h6] at ho
     have e2 : kc = 2 := hw.w (Or.inl h6)
     subst e2
     simp only [if_neg h5, if_pos h6]
     exact Ybs IH hs ho.1 ho.2
   rw [if_neg h6] at ho
   by_cases h7 : k = 7 \/ k = 8
   · simp only [if_neg h5, if_neg h6, if_pos h7]
     obtain ⟨e0, hn0, hnm⟩ := hw.l h7
     subst e0
     have ge := Xz hs a (14, ((s.V.getD n.toNat (0, [])).1 : Int))
     have e1 : Zas (Xc ps g) (0 : Int).toNat (a + 1) = a + 1 := rfl
     rw [e1]
     unfold Zgc
     refine ⟨rfl, by omega, by omega, ?_⟩
     by_cases hk : k = 7
     · simp only [if_pos hk]
       exact Zcm (Yf ge (Zpm ge.inv _ _ (by simp [PS.emit]) (Yiz hs _ _ _))) (by omega)
     · simp only [if_neg hk]
       exact Zcm ge (by omega)
   by_cases h23 : k = 23
   · have e2 : kc = 2 := hw.w (Or.inr (Or.inl h23))
     subst e2
     simp only [if_neg h5, if_neg h6, if_neg h7, if_pos h23]
     exact Zob IH 15 0 hs ho.1 ho.2.1
   by_cases h24 : k = 24
   · have e2 : kc = 2 := hw.w (Or.inr (Or.inr h24))
     subst e2
     simp only [if_neg h5, if_neg h6, if_neg h7, if_neg h23, if_pos h24]
     exact Zob IH 16 1 hs ho.1 ho.2.1
   · simp only [if_neg h5, if_neg h6, if_neg h7, if_neg h23, if_neg h24]
     have g1 := Znl IH kc.toNat hs (by omega) ho
     have h2 := g1.2.1
     refine ⟨g1.1, by omega, g1.2.2.1, Zcm (Yf g1.2.2.2 (Zdu _ a g1.2.2.2.inv)) ?_⟩
     have := Yuz ts k n
     omega
structure Lp where
 beg : Nat
 ends : Value
 cls : List (Nat × Nat × Nat)
def Yen (x : Nat × Nat × Nat) : Value := .func (.func 98) #[] #[.pointer (some ⟨x.1, 0, none⟩), .pointer (some ⟨x.2.1, 0, none⟩)]
def Zel : List Lp -> List Value
 | [] => []
 | l :: r => .int .i64 l.beg :: l.ends :: Zel r
def Lp.abs (l : Lp) : Nat × List Nat := (l.beg, l.cls.map fun x => x.2.2)
structure Stt where
 vout : Value
 vorg : Value
 vlo : Value
 out : List (Int × Int)
 org : List Int
 L : List Lp
def Stt.abs (s : Stt) : PS := ⟨s.out, s.org, (s.L.map Lp.abs).reverse⟩
structure Cx where
 E : Nat
 Bd : Nat
 bc : Nat
 b6 : Nat
 M : Nat
 B : Nat
 cp : Nat
 ct : Nat
 pt : Option Addr
 pp : Option Addr
 vf : Value
 vl : Value
 nm : ByteArray
 ar : Int
 ts : List (ByteArray × List Int)
 ps : List (Int × Int × Int)
structure Zhj (c : Cx) : Prop where
 lB : c.B <= c.Bd
 nts : c.ts.length <= 1024
 nct : c.ts.length <= c.ct
 mct : c.ct <= maxLen
 wf : ∀ x ∈ c.ts, x.1.size <= maxLen /\ x.2.length <= 17592186044415
 np : c.ps.length <= 17592186044415
def Cx.P (c : Cx) (s : Stt) (k : Nat) : Prop := Yj c.Bd s.vout s.vorg k \/ s.vlo.ownBlock = some k \/ ∃ l ∈ s.L, l.ends.ownBlock = some k
structure AtS (c : Cx) (w : World) (s : Stt) : Prop where
 code : Yc w c.E c.Bd (.slice c.pt c.ts.length c.ct) c.vf c.nm c.ar c.vl (.slice c.pp c.ps.length c.cp) s.vout s.vorg s.vlo (.map (some c.M)) s.out s.org
 lrow : w.ownsRow c.E 180 2 s.vlo s.L.length (Zel s.L)
 lend : ∀ l ∈ s.L, w.ownsRow c.E 140 1 l.ends l.cls.length (l.cls.map Yen)
 ldis : ∀ (i k : Nat) (l l' : Lp), i ≠ k -> s.L[i]? = some l -> s.L[k]? = some l' -> ∀ b, l.ends.ownBlock = some b -> l'.ends.ownBlock ≠ some b
 lbox : ∀ l ∈ s.L, ∀ x ∈ l.cls, (w.cell? ⟨x.1, 0, none⟩ = some (.pointer (some ⟨c.Bd, 0, none⟩)) /\ ¬ c.P s x.1) /\ (w.cell? ⟨x.2.1, 0, none⟩ = some (.int .i64 x.2.2) /\ ¬ c.P s x.2.1)
 inv : PSI s.abs
 pa : Zcw w c.Bd c.pp c.ps
 ki : Zfv w c.Bd c.E c.bc c.b6 c.M
 tx : Zap w c.B c.pt c.ts
structure Go (c : Cx) (w : World) (s : Stt) (w' : World) (s' : Stt) : Prop where
 at_ : AtS c w' s'
 sp : Sp (c.P s) w w'
 row : ∀ k, k < w.heap.size -> c.P s' k -> c.P s k
theorem Yii {c : Cx} {w : World} {s : Stt} (h : AtS c w s) : Go c w s w s := ⟨h, Zim _ _, fun _ _ h => h⟩
theorem Zo {c : Cx} {w w1 w2 : World} {s s1 s2 : Stt} (h : Go c w s w1 s1) (g : Go c w1 s1 w2 s2) : Go c w s w2 s2 :=
 ⟨g.at_, Zr h.sp g.sp fun k hk hp => h.row k hk hp, fun k hk hp => h.row k hk (g.row k (Nat.lt_of_lt_of_le hk h.sp.size) hp)⟩
theorem Yz {P : Nat -> Prop} {w w' : World} {base : Nat} {e : TypeId} {size n : Nat} {v : Value} {xs : List Value} (h : w.ownsRow base e size v n xs) (g : Sp P w w') (hp : ∀ k, v.ownBlock = some k -> ¬ P k) : w'.ownsRow base e size v n xs := by
 obtain ⟨h1, h2⟩ := h
 refine ⟨h1, ?_⟩
 rcases h2 with h2 | ⟨g0, cap, cur, rfl, hb, hg, rest⟩
 · exact .inl h2
 · exact .inr ⟨g0, cap, cur, rfl, hb, by rw [g.block g0 (Gs hg) (hp g0 rfl)]; exact hg, rest⟩
theorem Xm {P : Nat -> Prop} {w w' : World} {b o : Nat} {v : Value} (h : w.cell? ⟨b, o, none⟩ = some v) (g : Sp P w w') (hp : ¬ P b) : w'.cell? ⟨b, o, none⟩ = some v := by
 rw [Ye (g.block b (World.block_lt_of_cell? _ _ h) hp)]; exact h
theorem Ya {w : World} {base : Nat} {e e' : TypeId} {size size' n n' : Nat} {v v' : Value} {xs xs' : List Value} (h : w.ownsRow base e size v n xs) (h' : w.ownsRow base e' size' v' n' xs') (hne : e ≠ e') {k : Nat} (hk : v.ownBlock = some k) : v'.ownBlock ≠ some k := by
 rcases Zbo h h' hne with h1 | h1
 · rw [h1] at hk; cases hk
 · rw [hk] at h1; exact fun e => h1 e.symm
theorem Yql {c : Cx} {w : World} {s : Stt} (h : AtS c w s) {k : Nat} (hk : s.vlo.ownBlock = some k) : ¬ Yj c.Bd s.vout s.vorg k := by
 have hlt := h.code.lt
 rintro (e | e | e)
 · have := (h.lrow.lt k hk).1; omega
 · exact Ya h.lrow h.code.out (by decide) hk e
 · exact Ya h.lrow h.code.org (by decide) hk e
theorem Zye {c : Cx} {w : World} {s : Stt} (h : AtS c w s) {l : Lp} (hl : l ∈ s.L) {k : Nat} (hk : l.ends.ownBlock = some k) : ¬ Yj c.Bd s.vout s.vorg k := by
 have hlt := h.code.lt
 rintro (e | e | e)
 · have := ((h.lend l hl).lt k hk).1; omega
 · exact Ya (h.lend l hl) h.code.out (by decide) hk e
 · exact Ya (h.lend l hl) h.code.org (by decide) hk e
theorem Ydl {c : Cx} {w : World} {s : Stt} (h : AtS c w s) {l : Lp} (hl : l ∈ s.L) {k : Nat} (hk : l.ends.ownBlock = some k) : s.vlo.ownBlock ≠ some k :=
 Ya (h.lend l hl) h.lrow (by decide) hk
theorem Yxb {c : Cx} {w : World} {s : Stt} (h : AtS c w s) {k : Nat} (hk : c.P s k) : k = c.Bd \/ (c.E <= k /\ k < w.heap.size) := by
 rcases hk with (e | e | e) | e | ⟨l, hl, e⟩
 · exact Or.inl e
 · exact Or.inr (h.code.out.lt k e)
 · exact Or.inr (h.code.org.lt k e)
 · exact Or.inr (h.lrow.lt k e)
 · exact Or.inr ((h.lend l hl).lt k e)
theorem Ycj {c : Cx} {w : World} {s : Stt} (h : AtS c w s) {k : Nat} (hk : w.heap.size <= k) : ¬ c.P s k := fun hp => by
 have := h.code.lt; have := h.code.le
 rcases Yxb h hp with e | e <;> omega
theorem Yyc {c : Cx} {w w' : World} {s : Stt} (h : AtS c w s) (sp : Sp (c.P s) w w') : ∀ k, k < c.E -> k ≠ c.Bd -> w'.heap[k]? = w.heap[k]? := fun k hk hne =>
 sp.block k (Nat.lt_of_lt_of_le hk h.code.le) fun hp => by rcases Yxb h hp with e | e <;> omega
theorem Zqn {w w' : World} {B : Nat} {p : Option Addr} {ts : List (ByteArray × List Int)} (h : Zap w B p ts) (hs : ∀ k, k < B -> w'.heap[k]? = w.heap[k]?) : Zap w' B p ts := fun h0 => by
 obtain ⟨b, o, e, hb, hc⟩ := h h0
 refine ⟨b, o, e, hb, fun i nm d hi => ?_⟩
 obtain ⟨h1, pd, cd, h2, h3⟩ := hc i nm d hi
 refine ⟨by rw [Ye (hs b hb)]; exact h1, pd, cd, by rw [Ye (hs b hb)]; exact h2, fun h4 => ?_⟩
 obtain ⟨b', o', e', hb', hc'⟩ := h3 h4
 exact ⟨b', o', e', hb', fun j hj => by rw [Ye (hs b' hb')]; exact hc' j hj⟩
theorem Zwu {c : Cx} (ok : Zhj c) {w w' : World} {s : Stt} (h : AtS c w s) (sp : Sp (c.P s) w w') : Zcw w' c.Bd c.pp c.ps /\ Zfv w' c.Bd c.E c.bc c.b6 c.M /\ Zap w' c.B c.pt c.ts := by
 have hl := Yyc h sp
 have := h.code.lt
 have := ok.lB
 exact ⟨Zje h.pa fun k hk => hl k (by omega) (by omega), Zhv h.ki fun k h1 h2 => hl k h2 (by omega), Zqn h.tx fun k hk => hl k (by omega) (by omega)⟩
theorem Yfs {c : Cx} {s : Stt} {w w' : World} (h : Sp (Yj c.Bd s.vout s.vorg) w w') : Sp (c.P s) w w' := Zaq h fun _ _ h => Or.inl h
theorem Znu {c : Cx} (ok : Zhj c) {w w' : World} {s : Stt} (h : AtS c w s) {vo vg : Value} {out' : List (Int × Int)} {org' : List Int} (sp : Sp (Yj c.Bd s.vout s.vorg) w w')
 (hC : Yc w' c.E c.Bd (.slice c.pt c.ts.length c.ct) c.vf c.nm c.ar c.vl (.slice c.pp c.ps.length c.cp) vo vg s.vlo (.map (some c.M)) out' org') (hr : ∀ k, k < w.heap.size -> Yj c.Bd vo vg k -> Yj c.Bd s.vout s.vorg k) (hi : PSI ⟨out', org', s.abs.V⟩) :
 Go c w s w' ⟨vo, vg, s.vlo, out', org', s.L⟩ := by
 obtain ⟨r1, r2, r3⟩ := Zwu ok h (Yfs sp)
 have hrow : ∀ k, k < w.heap.size -> c.P ⟨vo, vg, s.vlo, out', org', s.L⟩ k -> c.P s k := fun k hk hp => by
  rcases hp with hp | hp
  · exact Or.inl (hr k hk hp)
  · exact Or.inr hp
 refine ⟨⟨hC, Yz h.lrow sp fun k hk => Yql h hk, fun l hl => Yz (h.lend l hl) sp fun k hk => Zye h hl hk, h.ldis, fun l hl x hx => ?_, hi, r1, r2, r3⟩, Yfs sp, hrow⟩
 obtain ⟨⟨h1, h2⟩, h3, h4⟩ := h.lbox l hl x hx
 exact ⟨⟨Xm h1 sp fun hp => h2 (Or.inl hp), fun hp => h2 (hrow _ (World.block_lt_of_cell? _ _ h1) hp)⟩, Xm h3 sp fun hp => h4 (Or.inl hp), fun hp => h4 (hrow _ (World.block_lt_of_cell? _ _ h3) hp)⟩
theorem Zkp {c : Cx} (ok : Zhj c) {w w' : World} {s : Stt} (h : AtS c w s) {a : Nat} {o x : Int} (sp : Sp (Yj c.Bd s.vout s.vorg) w w')
 (hp : ∃ vo vg, Yc w' c.E c.Bd (.slice c.pt c.ts.length c.ct) c.vf c.nm c.ar c.vl (.slice c.pp c.ps.length c.cp) vo vg s.vlo (.map (some c.M)) (s.out ++ [(o, x)]) (s.org ++ [(a : Int)]) /\ (∀ k, k < w.heap.size -> Yj c.Bd vo vg k -> Yj c.Bd s.vout s.vorg k)) :
 ∃ s', Go c w s w' s' /\ s'.abs = s.abs.emit a (o, x) /\ s'.L = s.L /\ s'.vlo = s.vlo := by
 obtain ⟨vo, vg, hC, hr⟩ := hp
 exact ⟨_, Znu ok h sp hC hr (Xz h.inv a (o, x)).inv, rfl, rfl, rfl⟩
theorem Yyq {c : Cx} (ok : Zhj c) {w w' : World} {s : Stt} (h : AtS c w s) {j : Nat} {v : Int} (hv : v = s.out.length) (sp : Sp (Yj c.Bd s.vout s.vorg) w w')
 (hC : Yc w' c.E c.Bd (.slice c.pt c.ts.length c.ct) c.vf c.nm c.ar c.vl (.slice c.pp c.ps.length c.cp) s.vout s.vorg s.vlo (.map (some c.M)) (Zsy s.out j v) s.org) :
 ∃ s', Go c w s w' s' /\ s'.abs = s.abs.mark j /\ s'.L = s.L /\ s'.vlo = s.vlo := by
 subst hv
 exact ⟨_, Znu ok h sp hC (fun _ _ h => h) (Jl h.inv j).inv, rfl, rfl, rfl⟩
theorem Zfo {c : Cx} (ok : Zhj c) {w w' : World} {s : Stt} (h : AtS c w s) (g : w.grownBy w' none) : Go c w s w' s :=
 Znu ok h (Zl g (by simp)) (Zaa h.code g) (fun _ _ h => h) h.inv
theorem Zlz {c : Cx} (ok : Zhj c) {w : World} {s : Stt} (h : AtS c w s) (o : Obj) : Go c w s (w.alloc o) s := Zfo ok h (Ga w o none)
theorem Zfs {c : Cx} {w : World} {s : Stt} (h : AtS c w s) : c.Bd < w.heap.size := Nat.lt_of_lt_of_le h.code.lt h.code.le
def WP (c : Cx) (w : World) (s : Stt) (r : PS × Nat) (e : Ending) (w' : World) : Prop := e = .returned (.int .i64 r.2) /\ ∃ s', Go c w s w' s' /\ s'.abs = r.1
def Yrd (c : Cx) (g : Nat) : Prop := ∀ (s : Stt) (at_ : Nat) (w : World), okP c.ts.length c.ps g s.L.length at_ -> AtS c w s -> s.out.length + 8 * (c.ps.length - at_) + 8 <= 1000000000000 ->
 Calls Try.prog 43 #[.pointer (some ⟨c.Bd, 0, none⟩), .int .i64 at_] w (WP c w s (Yx c.ts c.ps g s.abs at_))
theorem abs_V {s : Stt} : s.abs.V.length = s.L.length := by simp [Stt.abs]
theorem Zft {s' : Stt} {p : PS} (h : s'.abs = p) : s'.out.length = p.out.length /\ s'.L.length = p.V.length := by
 subst h; exact ⟨rfl, abs_V.symm⟩
theorem Zcy {c : Cx} (ok : Zhj c) {w : World} {s : Stt} (h : AtS c w s) (hb : s.out.length <= 1000000000000) (a : Nat) (o x : Int) :
 Calls Try.prog 44 #[.pointer (some ⟨c.Bd, 0, none⟩), .int .i64 a, .int .i64 o, .int .i64 x] w fun e w' => e = .returned (.int .i64 s.out.length) /\ ∃ s', Go c w s w' s' /\ s'.abs = s.abs.emit a (o, x) /\ s'.L = s.L /\ s'.vlo = s.vlo := by
 have hl : s.org.length = s.out.length := h.inv.ol
 refine (Zbq c.E c.Bd _ c.vf c.nm c.ar c.vl _ s.vout s.vorg s.vlo _ s.out s.org a o x w h.code hb (by omega)).mono ?_
 intro e w' hp
 obtain ⟨rfl, sp, hr⟩ := hp
 exact ⟨rfl, Zkp ok h sp hr⟩
theorem Ytb {c : Cx} (ok : Zhj c) {w : World} {s : Stt} (h : AtS c w s) (hb : s.out.length <= 1000000000000) {j bj : Nat} (hj : j < s.out.length) (hc : w.cell? ⟨bj, 0, none⟩ = some (.int .i64 j)) :
 Calls Try.prog 97 #[.pointer (some ⟨c.Bd, 0, none⟩), .slice (some ⟨bj, 0, none⟩) 1 1] w fun e w' => (∃ v, e = .returned v) /\ ∃ s', Go c w s w' s' /\ s'.abs = s.abs.mark j /\ s'.L = s.L /\ s'.vlo = s.vlo := by
 refine (Yme c.E c.Bd bj j _ c.vf c.nm c.ar c.vl _ s.vout s.vorg s.vlo _ s.out s.org w hj hb h.code hc).mono ?_
 intro e w' hp
 obtain ⟨hv, sp, hC⟩ := hp
 exact ⟨hv, Yyq ok h rfl sp hC⟩
theorem Zht {c : Cx} (ok : Zhj c) {w : World} {s : Stt} (h : AtS c w s) (hb : s.out.length <= 1000000000000) {j : Nat} (hj : j < s.out.length) :
 Calls Try.prog 97 #[.pointer (some ⟨c.Bd, 0, none⟩), .slice (some ⟨w.heap.size, 0, none⟩) 1 1] (w.alloc (.cells #[.int .i64 j] 3)) fun e w' => (∃ v, e = .returned v) /\ ∃ s', Go c w s w' s' /\ s'.abs = s.abs.mark j /\ s'.L = s.L /\ s'.vlo = s.vlo := by
 have ga := Zlz ok h (.cells #[.int .i64 j] 3)
 refine (Ytb ok ga.at_ hb hj (Zao w _ _ 0 _ rfl)).mono ?_
 intro e w' hp
 obtain ⟨hv, s', g, h1, h2, h3⟩ := hp
 exact ⟨hv, s', Zo ga g, h1, h2, h3⟩
structure Yee (c : Cx) (g : Nat) (w : World) (s : Stt) (at_ : Nat) (w' : World) (s' : Stt) (p : Nat) : Prop where
 go : Go c w s w' s'
 eq : Yx c.ts c.ps g s.abs at_ = (s'.abs, p)
 sk : p = Xc c.ps g at_
 lt : at_ < p
 le : p <= c.ps.length
 hi : s'.out.length <= s.out.length + 7 * (p - at_)
 lo : s.out.length <= s'.out.length
 L : s'.L.length = s.L.length
theorem Xy {c : Cx} (ok : Zhj c) {g : Nat} (hI : Yrd c g) {s : Stt} {at_ : Nat} {w : World} (ho : okP c.ts.length c.ps g s.L.length at_) (h : AtS c w s) (hb : s.out.length + 8 * (c.ps.length - at_) + 8 <= 1000000000000) :
 Calls Try.prog 43 #[.pointer (some ⟨c.Bd, 0, none⟩), .int .i64 at_] w fun e w' => ∃ (s' : Stt) (p : Nat), e = .returned (.int .i64 p) /\ Yee c g w s at_ w' s' p := by
 refine (hI s at_ w ho h hb).mono ?_
 intro e w' hp
 obtain ⟨rfl, s', gg, ha⟩ := hp
 have hg := Zjv c.ts c.ps g s.L.length at_ s.abs ho h.inv abs_V
 obtain ⟨e1, e2, e3, e4⟩ := hg
 refine ⟨s', _, rfl, gg, ?_, e1, by rw [e1]; exact e2, by rw [e1]; exact e3, ?_, ?_, ?_⟩
 · rw [ha]
 · have := e4.hi; rw [<- ha] at this; rw [e1]; exact this
 · have := e4.lo; rw [<- ha] at this; exact this
 · have := e4.v; rw [<- ha, abs_V, abs_V] at this; exact this
theorem Zmy {c : Cx} {w : World} {s : Stt} (h : AtS c w s) {at_ : Nat} (hlt : at_ < c.ps.length) : ∃ bp op : Nat, c.pp = some ⟨bp, op, none⟩ := by
 obtain ⟨b, o, e, _⟩ := h.pa (by omega)
 exact ⟨b, o, e⟩
structure Xcb (c : Cx) (w : World) (bp op at_ : Nat) (k n kc : Int) : Prop where
 c5 : w.cell? ⟨c.Bd, 5, none⟩ = some (.slice (some ⟨bp, op, none⟩) c.ps.length c.cp)
 p0 : w.cell? ⟨bp, op + at_ * 3, none⟩ = some (.int .i64 k)
 p1 : w.cell? ⟨bp, op + at_ * 3 + 1, none⟩ = some (.int .i64 n)
 p2 : w.cell? ⟨bp, op + at_ * 3 + 2, none⟩ = some (.int .i64 kc)
 lb : bp < w.heap.size
 ld : c.Bd < w.heap.size
theorem Zde {c : Cx} {w : World} {s : Stt} (h : AtS c w s) {bp op at_ : Nat} (hpp : c.pp = some ⟨bp, op, none⟩) {k n kc : Int} (hp : c.ps[at_]? = some (k, n, kc)) : Xcb c w bp op at_ k n kc := by
 have hja : at_ < c.ps.length := (List.getElem?_eq_some_iff.1 hp).1
 obtain ⟨b, o, e, hb, hc⟩ := h.pa (by omega)
 rw [hpp] at e
 injection e with e; injection e with e1 e2 _; subst e1; subst e2
 obtain ⟨p0, p1, p2⟩ := hc _ _ _ _ hp
 have c5 := Yo h.code 5
 rw [hpp] at c5
 exact ⟨c5, p0, p1, p2, Nat.lt_trans hb (Zfs h), Zfs h⟩
theorem Ypi {F : Fw} {s s1 s2 s3 s4 : PS} {a p1 p2 : Nat} (h1 : F s (a + 1) = (s1, p1)) (h2 : s2 = s1.emit a (15, 0)) (h3 : F s2 p1 = (s3, p2)) (h4 : s4 = s3.mark s1.out.length) : Jo F 2 s a = (s4, p2) := by
 subst h2; subst h4
 unfold Jo
 rw [if_pos rfl, h1, h3]
theorem Yph {F : Fw} {s s1 s2 s3 s4 s5 s6 s7 : PS} {a p1 p2 p3 : Nat} (h1 : F s (a + 1) = (s1, p1)) (h2 : s2 = s1.emit a (15, 0)) (h3 : F s2 p1 = (s3, p2)) (h4 : s4 = s3.emit a (14, 0)) (h5 : s5 = s4.mark s1.out.length) (h6 : F s5 p2 = (s6, p3))
 (h7 : s7 = s6.mark s3.out.length) : Jo F 3 s a = (s7, p3) := by
 subst h2; subst h4; subst h5; subst h7
 unfold Jo
 rw [if_neg (by decide), h1, h3, h6]
def Bud (c : Cx) (s : Stt) (p k : Nat) : Prop := s.out.length + 8 * (c.ps.length - p) + 8 + k <= 1000000000000
theorem Zhd {c : Cx} {s : Stt} {at_ : Nat} (hb : s.out.length + 8 * (c.ps.length - at_) + 8 <= 1000000000000) (h : at_ < c.ps.length) : Bud c s (at_ + 1) 8 := by unfold Bud; omega
theorem Zaw {c : Cx} {s s' : Stt} {g p q k : Nat} {w w' : World} (h : Bud c s p k) (g : Yee c g w s p w' s' q) : Bud c s' q k := by
 unfold Bud at *; have := g.hi; have := g.lt; have := g.le; omega
theorem Zbr {c : Cx} {s s' : Stt} {p k a : Nat} {x : Int × Int} (h : Bud c s p (k + 1)) (e : s'.abs = s.abs.emit a x) : Bud c s' p k := by
 have := (Zft e).1
 have e2 : (s.abs.emit a x).out.length = s.out.length + 1 := by simp [PS.emit, Stt.abs]
 unfold Bud at *; omega
theorem Zsm {c : Cx} {s s' : Stt} {p k j : Nat} (h : Bud c s p k) (e : s'.abs = s.abs.mark j) : Bud c s' p k := by
 have := (Zft e).1
 have e2 : (s.abs.mark j).out.length = s.out.length := by simp [PS.mark, Stt.abs, Xn]
 unfold Bud at *; omega
theorem Jn {c : Cx} {s : Stt} {p k : Nat} (h : Bud c s p k) : s.out.length <= 1000000000000 := by unfold Bud at h; omega
theorem Zih {c : Cx} {s : Stt} {p k : Nat} (h : Bud c s p k) : s.out.length + 8 * (c.ps.length - p) + 8 <= 1000000000000 := by unfold Bud at h; omega
theorem Zjf {nt : Nat} {ps : List (Int × Int × Int)} {g m m' p q : Nat} (h : okP nt ps g m p) (hq : q = p) (hm : m' = m) : okP nt ps g m' q := by subst hq; subst hm; exact h
theorem Zee {s s' : Stt} {a : Nat} {x : Int × Int} (e : s'.abs = s.abs.emit a x) : s'.out.length = s.out.length + 1 := by
 have := (Zft e).1
 have e2 : (s.abs.emit a x).out.length = s.out.length + 1 := by simp [PS.emit, Stt.abs]
 omega
theorem Zrp {s s' : Stt} {j : Nat} (e : s'.abs = s.abs.mark j) : s'.out.length = s.out.length := by
 have := (Zft e).1
 have e2 : (s.abs.mark j).out.length = s.out.length := by simp [PS.mark, Stt.abs, Xn]
 omega
theorem Zxq {c : Cx} {g p q a : Nat} {w w' : World} {x : Int × Int} {s1 s2 s3 : Stt} (e : s2.abs = s1.abs.emit a x) (h : Yee c g w s2 p w' s3 q) : s1.out.length < s3.out.length := by
 have := Zee e; have := h.lo; omega
theorem Zsa {a : Nat} {x : Int × Int} {s3 s4 : Stt} {j : Nat} (h : j < s3.out.length) (e : s4.abs = s3.abs.emit a x) : j < s4.out.length := by
 have := Zee e; omega
theorem Ynz {c : Cx} {g p q a j : Nat} {w w' : World} {x : Int × Int} {s1 s2 s3 s4 : Stt} (e : s2.abs = s1.abs.emit a x) (e2 : s3.abs = s2.abs.mark j) (h : Yee c g w s3 p w' s4 q) : s1.out.length < s4.out.length := by
 have := Zee e; have := Zrp e2; have := h.lo; omega
theorem Ydv (c : Cx) (ok : Zhj c) (g : Nat) (hI : Yrd c g) (s : Stt) (at_ : Nat) (w : World) (n : Int) (hp : c.ps[at_]? = some (5, n, 2)) (h1 : okP c.ts.length c.ps g s.L.length (at_ + 1)) (h2 : okP c.ts.length c.ps g s.L.length (Xc c.ps g (at_ + 1)))
 (h : AtS c w s) (hb : s.out.length + 8 * (c.ps.length - at_) + 8 <= 1000000000000) :
 Calls Try.prog 75 #[.pointer (some ⟨c.Bd, 0, none⟩), .int .i64 at_] w (WP c w s (Jo (Yx c.ts c.ps g) 2 s.abs at_)) := by
 have hja : at_ < c.ps.length := (List.getElem?_eq_some_iff.1 hp).1
 obtain ⟨bp, op, hpp⟩ := Zmy h hja
 have hji : (at_ : Int) < (c.ps.length : Int) := by omega
 have hnp := ok.np
 have B0 := Hq (Zhd hb hja)
 have hw := Xy ok hI h1 h (Zih B0.out)
 rw [show ((at_ + 1 : Nat) : Int) = (at_ : Int) + 1 from rfl] at hw
 have W1 := Hq hw
 have HP := Hq hp
 have H2 := Hq h2
 have HI := Hq hI
 clear hw hp h1 h2 h hb hI
 go_enter Try.func75, Try.ntmps75
 go_wp2_with (first
  | (go_at_call 43; refine W1.out.mono ?_; clear W1; intro e w1 hq; obtain ⟨s1, q1, rfl, g1⟩ := hq; have G1 := Hq g1; have B1 := Hq (Zaw B0.out g1); have E1 := Hq (Zcy ok g1.go.at_ (Jn B1.out) at_ 15 0); clear g1)
  | (go_at_call 44; refine E1.out.mono ?_; clear E1; intro e w2 hq; obtain ⟨rfl, s2, g2, a2, l2, v2⟩ := hq; have G2 := Hq g2; have A2 := Hq a2; have B2 := Hq (Zbr B1.out a2); have W2 := Hq (Xy ok HI.out (Zjf H2.out G1.out.sk ((congrArg List.length l2).trans G1.out.L)) g2.at_ (Zih B2.out)); clear g2 a2 l2 v2)
  | (go_at_call 43; refine W2.out.mono ?_; clear W2; intro e w3 hq; obtain ⟨s3, q2, rfl, g3⟩ := hq; have G3 := Hq g3; have B3 := Hq (Zaw B2.out g3); have M1 := Hq (Zht ok g3.go.at_ (Jn B3.out) (Zxq A2.out g3)); obtain ⟨c5, p0, p1, p2, lb, ld⟩ := Zde g3.go.at_ hpp HP.out; clear g3 p0 p1)
  | (go_at_call 97; refine M1.out.mono ?_; clear M1; intro e w4 hq; obtain ⟨⟨v4, rfl⟩, s4, g4, a4, l4, v4'⟩ := hq; have G4 := Hq g4; have A4 := Hq a4; clear g4 a4 l4 v4'))
 go_ret
 rw [Ypi G1.out.eq A2.out G3.out.eq A4.out]
 exact ⟨rfl, _, Zo (Zo (Zo G1.out.go G2.out) G3.out.go) G4.out, rfl⟩
end Go.Proofs.Ytecaolkbllbokaa.TG
