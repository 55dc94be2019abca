import Derived.Test.YtecaolkbllbokaaMT15
import Derived.StillTailTactics
import Derived.Maps.AppendAt
import Derived.Test.YtecaolkbllbokaaMT12
import Derived.Laws.ResultCell
import Derived.Test.YtecaolkbllbokaaMT13
import Derived.Test.YtecaolkbllbokaaMT11
import Derived.Test.YtecaolkbllbokaaMT14
import Derived.Test.YtecaolkbllbokaaMT08
import Derived.Test.YtecaolkbllbokaaRows
import Derived.Deep.Strs
import Derived.ChangeArms
set_option linter.unusedSimpArgs false
set_option linter.unusedVariables false
set_option maxRecDepth 100000
set_option maxHeartbeats 16000000
namespace Go.Proofs.Ytecaolkbllbokaa.TG
open Go.RowKit Go.Great
def Zay : Nat -> List Ln -> List (Int × Int)
 | _, [] => []
 | k, x :: r => (x.op, bif x.j then x.a + (k : Int) else x.a) :: Zay (k + 1) r
theorem Zdn : ∀ (k : Nat) (r : List Ln), (Zay k r).length = r.length
 | k, [] => rfl
 | k, x :: r => by simp [Zay, Zdn (k + 1) r]
def Zln : List Fun -> List Value -> List Value
 | f :: fs, r :: rs => .int .i64 f.args :: .int .i64 f.locals.length :: .int .i64 1 :: r :: Zln fs rs
 | _, _ => []
abbrev Vs := List (Nat × List Nat)
def bgV (V : Vs) (n : Nat) : Nat := (V.getD n (0, [])).1
def Zos (V : Vs) (n j : Nat) : Vs := V.set n ((V.getD n (0, [])).1, (V.getD n (0, [])).2 ++ [j])
def Zor (bg : Nat -> Nat) (i : Nat) (x : Ln) : Int × Int := (x.op, if 0 < x.out then (bg (x.out - 1).toNat : Int) else bif x.j then x.a + (i : Int) else x.a)
def Zmh (bg : Nat -> Nat) : Nat -> List Ln -> List (Int × Int)
 | _, [] => []
 | i, x :: r => Zor bg i x :: Zmh bg (i + 1) r
def Zmg : Vs -> Nat -> List Ln -> Vs
 | V, _, [] => V
 | V, i, x :: r => Zmg (if 0 < x.out /\ x.ag = false then Zos V (x.out - 1).toNat i else V) (i + 1) r
def Zeb (R : List Ln) : List Int := R.map fun x => x.part
theorem Zci (bg : Nat -> Nat) : ∀ (i : Nat) (R : List Ln), (Zmh bg i R).length = R.length
 | i, [] => rfl
 | i, x :: r => by simp [Zmh, Zci bg (i + 1) r]
theorem Zfu (bg : Nat -> Nat) : ∀ (i : Nat) (R S : List Ln), Zmh bg i (R ++ S) = Zmh bg i R ++ Zmh bg (i + R.length) S
 | i, [], S => by simp [Zmh]
 | i, x :: r, S => by simp only [List.cons_append, Zmh, Zfu bg (i + 1) r S, List.length_cons]; congr 2; congr 1; omega
theorem Zch : ∀ (V : Vs) (i : Nat) (R S : List Ln), Zmg V i (R ++ S) = Zmg (Zmg V i R) (i + R.length) S
 | V, i, [], S => by simp [Zmg]
 | V, i, x :: r, S => by
   simp only [List.cons_append, Zmg, Zch _ (i + 1) r S, List.length_cons]
   congr 1; omega
theorem Yvi (V : Vs) (n j : Nat) : bgV (Zos V n j) = bgV V := by
 funext m
 unfold bgV Zos
 rw [List.getD_eq_getElem?_getD, List.getD_eq_getElem?_getD, List.getElem?_set]
 by_cases h : n = m
 · subst h
   rw [if_pos rfl]
   by_cases hl : n < V.length
   · simp [hl]
   · simp [hl]
 · rw [if_neg h, List.getD_eq_getElem?_getD]
theorem Yjq : ∀ (V : Vs) (i : Nat) (R : List Ln), bgV (Zmg V i R) = bgV V
 | V, i, [] => rfl
 | V, i, x :: r => by
   rw [Zmg, Yjq]
   split
   · exact Yvi V _ _
   · rfl
theorem Zxg (V : Vs) (n j : Nat) : (Zos V n j).length = V.length := by unfold Zos; simp
theorem Zom : ∀ (V : Vs) (i : Nat) (R : List Ln), (Zmg V i R).length = V.length
 | V, i, [] => rfl
 | V, i, x :: r => by
   rw [Zmg, Zom]
   split
   · exact Zxg V _ _
   · rfl
def Wr (R : List Ln) (s s' : PS) : Prop := s' = ⟨s.out ++ Zmh (bgV s.V) s.out.length R, s.org ++ Zeb R, Zmg s.V s.out.length R⟩
theorem Ypy (s : PS) : Wr [] s s := by simp [Wr, Zmh, Zmg, Zeb]
theorem Zis {R : List Ln} {s s' : PS} (h : Wr R s s') : s'.out.length = s.out.length + R.length := by
 rw [h]; simp [Zci]
theorem Yki {R : List Ln} {s s' : PS} (h : Wr R s s') : s'.V.length = s.V.length := by
 rw [h]; exact Zom _ _ _
theorem Ywb {R : List Ln} {s s' : PS} (h : Wr R s s') : bgV s'.V = bgV s.V := by
 rw [h]; exact Yjq _ _ _
theorem Zbl {R1 R2 : List Ln} {s s1 s2 : PS} (h1 : Wr R1 s s1) (h2 : Wr R2 s1 s2) : Wr (R1 ++ R2) s s2 := by
 have hl := Zis h1
 have hb := Ywb h1
 unfold Wr at h2
 rw [hb, hl] at h2
 rw [h2]
 unfold Wr at *
 rw [h1]
 simp only [Zeb, Zfu, Zch, List.map_append, List.append_assoc]
theorem Zfe (s : PS) (a : Nat) (op x : Int) : Wr [Ym a op x] s (s.emit a (op, x)) := by
 simp [Wr, PS.emit, Zmh, Zmg, Zeb, Ym, Zor]
theorem Zql (a : Nat) : ∀ (l : List (Int × Int)) (s : PS), Wr (l.map fun x => Ym a x.1 x.2) s (PS.emits s a l)
 | [], s => Ypy s
 | x :: r, s => by
   rw [List.map_cons, PS.emits]
   exact Zbl (R1 := [Ym a x.1 x.2]) (Zfe s a x.1 x.2) (Zql a r _)
theorem Zqt (A B : List (Int × Int)) (x y v : Int) : Zsy (A ++ (x, y) :: B) A.length v = A ++ (x, v) :: B := by
 unfold Zsy
 rw [List.getD_eq_getElem?_getD, List.getElem?_append_right (Nat.le_refl _), List.set_append_right _ _ (Nat.le_refl _)]
 simp
theorem Ysc {A B : List (Int × Int)} {x y v : Int} {n : Nat} (h : n = A.length) : Zsy (A ++ (x, y) :: B) n v = A ++ (x, v) :: B := by
 subst h; exact Zqt A B x y v
theorem Zmn {A B : List Ln} {p op y d : Int} {s s3 : PS} {j : Nat} (h : Wr (A ++ [Ym p op y] ++ B) s s3) (hj : j = s.out.length + A.length) (hd : d = (B.length : Int) + 1) : Wr (A ++ [Js p op d] ++ B) s (s3.mark j) := by
 have hl := Zis h
 unfold Wr at h
 unfold Wr PS.mark
 rw [hl]
 rw [h]
 simp only [PS.mk.injEq]
 refine ⟨?_, ?_, ?_⟩
 · simp only [List.append_assoc, Zfu, List.singleton_append, Zmh]
   have e : Zor (bgV s.V) (s.out.length + A.length) (Ym p op y) = (op, y) := by simp [Zor, Ym]
   have e2 : Zor (bgV s.V) (s.out.length + A.length) (Js p op d) = (op, d + ((s.out.length + A.length : Nat) : Int)) := by simp [Zor, Js]
   rw [e, e2, <- List.append_assoc, <- List.append_assoc]
   rw [Ysc (by simp [Zci, hj])]
   congr 3
   simp only [List.length_append, List.length_cons, List.length_nil]
   omega
 · simp [Zeb, Ym, Js]
 · simp only [List.append_assoc, Zch, List.singleton_append, Zmg]
   simp [Ym, Js]
def Yqh : Nat -> List Ln -> List Nat
 | _, [] => []
 | i, x :: r => (if x.out = 1 /\ x.ag = false then [i] else []) ++ Yqh (i + 1) r
def Zep : List (Int × Int) -> List Nat -> Int -> List (Int × Int)
 | o, [], _ => o
 | o, j :: r, v => Zep (Zsy o j v) r v
theorem Zjb : ∀ (o : List (Int × Int)) (l m : List Nat) (v : Int), Zep o (l ++ m) v = Zep (Zep o l v) m v
 | o, [], m, v => rfl
 | o, j :: r, m, v => by rw [List.cons_append, Zep, Zep, Zjb]
theorem Yaf : ∀ (l : List Nat) (s : PS), PS.marks s l = ⟨Zep s.out l s.out.length, s.org, s.V⟩
 | [], s => rfl
 | j :: r, s => by
   rw [PS.marks, Yaf r (s.mark j)]
   simp only [PS.mark, Zep, Xn]
theorem Zyp (b : Nat) (l : List Nat) (V : Vs) (n : Nat) : bgV ((b, l) :: V) (n + 1) = bgV V n := rfl
theorem Yiu (k b i : Nat) (x : Ln) : (Zem k b i x).part = x.part := by
 unfold Zem
 split
 · rfl
 · split <;> rfl
theorem Zpz (k b : Nat) : ∀ (i : Nat) (R : List Ln), Zeb (Xq k b i R) = Zeb R
 | i, [] => rfl
 | i, x :: r => by
   have ih := Zpz k b (i + 1) r
   simp only [Zeb] at ih ⊢
   simp [Xq, ih, Yiu]
theorem Zfb (k b b0 : Nat) : ∀ (R : List Ln) (i i' : Nat) (l : List Nat) (V : Vs), Zmg ((b0, l) :: V) i R = (b0, l ++ Yqh i R) :: Zmg V i (Xq k b i' R)
 | [], i, i', l, V => by simp [Zmg, Yqh, Xq]
 | x :: r, i, i', l, V => by
   rw [Zmg, Yqh, Xq, Zmg]
   by_cases h1 : x.out = 1
   · have ef : ¬ (0 < (Zem k b i' x).out /\ (Zem k b i' x).ag = false) := by
      unfold Zem; rw [if_pos h1]; simp
     rw [if_neg ef]
     cases hag : x.ag with
     | true =>
       rw [if_neg (by simp), if_neg (by simp), Zfb k b b0 r (i + 1) (i' + 1) l V]
       simp
     | false =>
       rw [if_pos ⟨by omega, rfl⟩, if_pos ⟨h1, rfl⟩]
       have e : Zos ((b0, l) :: V) (x.out - 1).toNat i = (b0, l ++ [i]) :: V := by
        rw [h1]; rfl
       rw [e, Zfb k b b0 r (i + 1) (i' + 1) (l ++ [i]) V]
       simp
   · by_cases h0 : 0 < x.out
     · have e : Zem k b i' x = { x with out := x.out - 1 } := by unfold Zem; rw [if_neg h1, if_pos h0]
       rw [e]
       simp only []
       rw [if_neg (by simp [h1] : ¬ (x.out = 1 /\ x.ag = false))]
       cases hag : x.ag with
       | true =>
         rw [if_neg (by simp), if_neg (by simp), Zfb k b b0 r (i + 1) (i' + 1) l V]
         simp
       | false =>
         rw [if_pos ⟨h0, rfl⟩, if_pos ⟨by omega, rfl⟩]
         have en : (x.out - 1).toNat = (x.out - 1 - 1).toNat + 1 := by omega
         have e2 : Zos ((b0, l) :: V) (x.out - 1).toNat i = (b0, l) :: Zos V (x.out - 1 - 1).toNat i := by rw [en]; rfl
         rw [e2, Zfb k b b0 r (i + 1) (i' + 1) l _]
         simp
     · have e : Zem k b i' x = x := by unfold Zem; rw [if_neg h1, if_neg h0]
       rw [e, if_neg (fun h => h0 h.1), if_neg (fun h => h1 h.1), if_neg (fun h => h0 h.1), Zfb k b b0 r (i + 1) (i' + 1) l V]
       simp
theorem Zzk (k b b0 v : Nat) (l : List Nat) (V : Vs) (post : List (Int × Int)) : ∀ (R : List Ln) (pre : List (Int × Int)) (i' : Nat), b0 + k + 1 + i' = pre.length -> v = b0 + k + 1 + b + 1 -> (∀ x ∈ R, 0 <= x.out) ->
 Zep (pre ++ Zmh (bgV ((b0, l) :: V)) pre.length R ++ post) (Yqh pre.length R) v = pre ++ Zmh (bgV V) pre.length (Xq k b i' R) ++ post
 | [], pre, i', hp, hv, ho => rfl
 | x :: r, pre, i', hp, hv, ho => by
   have ih := fun y : Int × Int => Zzk k b b0 v l V post r (pre ++ [y]) (i' + 1) (by simp; omega) hv (fun z hz => ho z (List.mem_cons_of_mem _ hz))
   simp only [List.length_append, List.length_cons, List.length_nil, List.append_assoc, List.singleton_append, List.cons_append, List.nil_append, Nat.zero_add] at ih
   have hx := ho x (List.mem_cons_self ..)
   rw [Yqh, Zmh, Xq, Zmh, Zjb]
   simp only [List.append_assoc, List.cons_append]
   by_cases h1 : x.out = 1
   · cases hag : x.ag with
     | true =>
       rw [if_neg (by simp)]
       have e : Zor (bgV V) pre.length (Zem k b i' x) = Zor (bgV ((b0, l) :: V)) pre.length x := by
        unfold Zem Zor; rw [if_pos h1, h1, hag]; simp [bgV]; omega
       rw [e, Zep]
       exact ih _
     | false =>
       rw [if_pos ⟨h1, rfl⟩]
       have e : Zor (bgV V) pre.length (Zem k b i' x) = (x.op, (v : Int)) := by
        unfold Zem Zor; rw [if_pos h1, hag]; simp; omega
       rw [e, Zep, Zep]
       unfold Zor
       rw [Zqt]
       exact ih _
   · rw [if_neg (fun h => h1 h.1), Zep]
     have e : Zor (bgV V) pre.length (Zem k b i' x) = Zor (bgV ((b0, l) :: V)) pre.length x := by
      by_cases h0 : 0 < x.out
      · unfold Zem Zor; rw [if_neg h1, if_pos h0]
        have en : (x.out - 1).toNat = (x.out - 1 - 1).toNat + 1 := by omega
        simp only []
        rw [if_pos h0, if_pos (by omega), en, Zyp]
      · unfold Zem Zor; rw [if_neg h1, if_neg h0, if_neg h0, if_neg h0]
     rw [e]
     exact ih _
theorem Yri {K B : List Ln} {s s1 y : PS} {a : Nat} (h1 : Wr K s s1) (h2 : Wr B ((s1.emit a (15, 0)).push s.out.length) y) (ho : ∀ x ∈ B, 0 <= x.out) : Wr (Zlm a K B) s (Yek s.out.length s1.out.length a y) := by
 have l1 := Zis h1
 have b1 := Ywb h1
 have v1 := Yki h1
 have hy := h2
 have ly := Zis h2
 unfold Wr at hy
 simp only [PS.push, PS.emit] at hy ly
 have hs1 := h1
 unfold Wr at hs1
 unfold Yek
 rw [Yaf]
 have hyV : y.V = (s.out.length, Yqh (s1.out.length + 1) B) :: Zmg s1.V (s1.out.length + 1) (Xq K.length B.length 0 B) := by
  rw [hy]; simp only [List.length_append, List.length_cons, List.length_nil, Nat.zero_add]
  rw [Zfb K.length B.length s.out.length B (s1.out.length + 1) 0 [] s1.V]
  rfl
 have hyo : y.out = s1.out ++ [(15, 0)] ++ Zmh (bgV ((s.out.length, []) :: s1.V)) (s1.out.length + 1) B := by
  rw [hy]; simp
 have hyg : y.org = s1.org ++ [(a : Int)] ++ Zeb B := by rw [hy]
 have eb : bgV ((s.out.length, []) :: s1.V) = bgV ((s.out.length, []) :: s.V) := by
  funext n
  cases n with
  | zero => rfl
  | succ n => rw [Zyp, Zyp, b1]
 unfold Wr
 simp only [PS.mark, PS.emit, PS.pop, PS.mk.injEq]
 refine ⟨?_, ?_, ?_⟩
 · rw [Xn]
   have hd : (y.V.getD 0 (0, [])).2 = Yqh (s1.out.length + 1) B := by rw [hyV]; rfl
   rw [hd, hyo]
   simp only [List.append_assoc, List.singleton_append, List.cons_append, List.nil_append]
   rw [Zqt]
   have hlen : (s1.out ++ (15, (0 : Int)) :: (Zmh (bgV ((s.out.length, []) :: s1.V)) (s1.out.length + 1) B ++ [(14, (s.out.length : Int))])).length = s.out.length + K.length + 1 + B.length + 1 := by
    simp [Zci, l1]; omega
   rw [hlen, eb]
   have hsl := Zzk K.length B.length s.out.length (s.out.length + K.length + 1 + B.length + 1) [] s.V [(14, (s.out.length : Int))] B (s1.out ++ [(15, ((s.out.length + K.length + 1 + B.length + 1 : Nat) : Int))]) 0 (by simp [l1]) rfl ho
   simp only [List.length_append, List.length_cons, List.length_nil, List.append_assoc, List.singleton_append, List.cons_append, List.nil_append, Nat.zero_add] at hsl
   rw [hsl, hs1]
   simp only [Zlm, List.nil_append, Zfu, List.append_assoc, Zmh, List.length_append, Zci, List.length_cons, List.length_nil, List.cons_append, Yw]
   congr 2
   congr 1
   · simp [Zor, Js]; omega
   congr 1
   · simp [Zor, Js]; omega
 · rw [hyg, hs1]
   simp [Zlm, Zeb, Js]
   exact (Zpz K.length B.length 0 B).symm
 · rw [hyV, hs1]
   simp only [List.tail_cons]
   rw [Zlm, List.nil_append, Zch, Zch, Zch]
   simp [Zmg, Js, Zci, Yw]
   congr 1
def WrF (F : Fw) (L : Nat -> List Ln) (S : Nat -> Nat) (m a : Nat) : Prop := ∀ s : PS, s.V.length = m -> Wr (L a) s (F s a).1 /\ (F s a).2 = S a
theorem Zij {R R' : List Ln} {s s' : PS} (h : Wr R s s') (e : R = R') : Wr R' s s' := e ▸ h
theorem Ydx {F : Fw} {L : Nat -> List Ln} {S : Nat -> Nat} {m a : Nat} (h1 : WrF F L S m (a + 1)) (h2 : WrF F L S m (S (a + 1))) {s : PS} (hs : s.V.length = m) :
 Wr (Zcz a (L (a + 1)) (L (S (a + 1))) [] false) s (Jo F 2 s a).1 /\ (Jo F 2 s a).2 = S (S (a + 1)) := by
 obtain ⟨w1, p1⟩ := h1 s hs
 have e := Zfe (F s (a + 1)).1 a 15 0
 obtain ⟨w2, p2⟩ := h2 _ (by rw [Yki e, Yki w1, hs] : ((F s (a + 1)).1.emit a (15, 0)).V.length = m)
 unfold Jo
 rw [if_pos rfl, p1]
 exact ⟨Zmn (Zbl (Zbl w1 e) w2) (Zis w1) rfl, p2⟩
theorem Ydw {F : Fw} {L : Nat -> List Ln} {S : Nat -> Nat} {m a : Nat} (h1 : WrF F L S m (a + 1)) (h2 : WrF F L S m (S (a + 1))) (h3 : WrF F L S m (S (S (a + 1)))) {s : PS} (hs : s.V.length = m) :
 Wr (Zcz a (L (a + 1)) (L (S (a + 1))) (L (S (S (a + 1)))) true) s (Jo F 3 s a).1 /\ (Jo F 3 s a).2 = S (S (S (a + 1))) := by
 obtain ⟨w1, p1⟩ := h1 s hs
 have e := Zfe (F s (a + 1)).1 a 15 0
 obtain ⟨w2, p2⟩ := h2 _ (by rw [Yki e, Yki w1, hs] : ((F s (a + 1)).1.emit a (15, 0)).V.length = m)
 have e2 := Zfe (F ((F s (a + 1)).1.emit a (15, 0)) (S (a + 1))).1 a 14 0
 have x1 := Zij (Zbl (Zbl (Zbl w1 e) w2) e2) (R' := L (a + 1) ++ [Ym a 15 0] ++ (L (S (a + 1)) ++ [Ym a 14 0])) (by simp)
 have x2 := Zmn (d := ((L (S (a + 1)) ++ [Ym a 14 0]).length : Int) + 1) x1 (Zis w1) rfl
 obtain ⟨w3, p3⟩ := h3 _ (by rw [Yki x2, hs] : (((F ((F s (a + 1)).1.emit a (15, 0)) (S (a + 1))).1.emit a (14, 0)).mark (F s (a + 1)).1.out.length).V.length = m)
 have x3 := Zij (Zbl x2 w3) (R' := (L (a + 1) ++ [Js a 15 (((L (S (a + 1)) ++ [Ym a 14 0]).length : Int) + 1)] ++ L (S (a + 1))) ++ [Ym a 14 0] ++ L (S (S (a + 1)))) (by simp)
 have l2 := Zis (Zbl (Zbl w1 e) w2)
 have x4 := Zmn (d := ((L (S (S (a + 1)))).length : Int) + 1) (j := (F ((F s (a + 1)).1.emit a (15, 0)) (S (a + 1))).1.out.length) x3 (by rw [l2]; simp) rfl
 unfold Jo
 rw [if_neg (by decide), p1, p2]
 refine ⟨Zij x4 ?_, p3⟩
 have el : ((L (S (a + 1)) ++ [Ym a 14 0]).length : Int) + 1 = (L (S (a + 1))).length + 2 := by simp; omega
 rw [el]
 rfl
theorem Zvh {F : Fw} {L : Nat -> List Ln} {S : Nat -> Nat} {m a : Nat} {jump alone : Int} (h1 : WrF F L S m (a + 1)) (h2 : WrF F L S m (S (a + 1))) {s : PS} (hs : s.V.length = m) :
 Wr (Zcj a jump (L (a + 1)) (L (S (a + 1))) alone) s (Zcg F jump alone s a).1 /\ (Zcg F jump alone s a).2 = S (S (a + 1)) := by
 obtain ⟨w1, p1⟩ := h1 s hs
 have e := Zfe (F s (a + 1)).1 a jump 0
 obtain ⟨w2, p2⟩ := h2 _ (by rw [Yki e, Yki w1, hs] : ((F s (a + 1)).1.emit a (jump, 0)).V.length = m)
 unfold Zcg
 rw [p1]
 refine ⟨?_, p2⟩
 have hy := Zbl (Zbl w1 e) w2
 generalize hyy : (F ((F s (a + 1)).1.emit a (jump, 0)) (S (a + 1))).1 = y at *
 have e4 := Zql a [(3, 0), (31, 0), (3, 0), (31, 0)] y
 have e5 := Zfe (PS.emits y a [(3, 0), (31, 0), (3, 0), (31, 0)]) a 14 0
 have l4 := Zis (Zbl hy e4)
 have x1 := Zij (Zbl (Zbl hy e4) e5) (R' := L (a + 1) ++ [Ym a jump 0] ++ (L (S (a + 1)) ++ [Ym a 3 0, Ym a 31 0, Ym a 3 0, Ym a 31 0] ++ [Ym a 14 0])) (by simp)
 have x2 := Zmn (d := ((L (S (a + 1))).length : Int) + 6) x1 (Zis w1) (by simp; omega)
 have e6 := Zfe (((PS.emits y a [(3, 0), (31, 0), (3, 0), (31, 0)]).emit a (14, 0)).mark (F s (a + 1)).1.out.length) a 3 alone
 have x3 := Zij (Zbl x2 e6) (R' := (L (a + 1) ++ [Js a jump ((L (S (a + 1))).length + 6)] ++ L (S (a + 1)) ++ [Ym a 3 0, Ym a 31 0, Ym a 3 0, Ym a 31 0]) ++ [Ym a 14 0] ++ [Ym a 3 alone]) (by simp)
 have x4 := Zmn (d := 2) (j := (PS.emits y a [(3, 0), (31, 0), (3, 0), (31, 0)]).out.length) x3 (by rw [l4]; simp) rfl
 unfold Ywn
 refine Zij x4 ?_
 simp [Zcj]
theorem Yna (k n : Int) (hk : k = 7 \/ k = 8) (hn : 0 <= n) (s : PS) (a : Nat) : Wr [⟨14, 0, a, false, n + 1, decide (k = 8)⟩] s (Zgc k n.toNat s a).1 := by
 have e : (n + 1 - 1).toNat = n.toNat := by congr 1; omega
 have h0 : 0 < n + 1 := by omega
 rcases hk with rfl | rfl
 · simp [Wr, Zgc, PS.emit, PS.note, Zmh, Zmg, Zor, Zeb, Zos, bgV, e, h0]
 · simp [Wr, Zgc, PS.emit, PS.note, Zmh, Zmg, Zor, Zeb, Zos, bgV, e, h0]
theorem Yht {F : Fw} {L : Nat -> List Ln} {S : Nat -> Nat} {m : Nat} {O : Nat -> Prop} (hO : ∀ a, O a -> WrF F L S m a) : ∀ (n a : Nat), Znn O S n a -> ∀ s : PS, s.V.length = m -> Wr (Zlb L S n a) s (Zic F n s a).1 /\ (Zic F n s a).2 = Zas S n a
 | 0, a, _, s, _ => ⟨Ypy s, rfl⟩
 | n + 1, a, ho, s, hs => by
   obtain ⟨w1, p1⟩ := hO a ho.1 s hs
   obtain ⟨w2, p2⟩ := Yht hO n (S a) ho.2 (F s a).1 (by rw [Yki w1, hs])
   rw [Zic, Zlb, Zas, p1]
   exact ⟨Zbl w1 w2, p2⟩
theorem Zno {L : Nat -> List Ln} {S : Nat -> Nat} {m : Nat} {O : Nat -> Prop} (hO : ∀ a, O a -> Zmj m (L a)) : ∀ (n a : Nat), Znn O S n a -> Zmj m (Zlb L S n a)
 | 0, a, _ => Zfk m
 | n + 1, a, ho => Xb (hO a ho.1) (Zno hO n (S a) ho.2)
theorem Zjh (ts : List (ByteArray × List Int)) (ps : List (Int × Int × Int)) : ∀ (g m a : Nat), okP ts.length ps g m a -> Zmj m (Jr ts ps g a)
 | 0, m, a, h => h.elim
 | g + 1, m, a, h => by
   obtain ⟨k, n, kc, hp, hw, ho⟩ := h
   have IH := Zjh ts ps g
   rw [Jr, hp]
   simp only []
   by_cases h5 : k = 5
   · rw [if_neg (by omega)] at ho
     rw [if_pos h5]
     rcases hw.i h5 with rfl | rfl
     · rw [if_neg (by decide)]
       exact Zmz (b := false) (IH m _ ho.1) (IH m _ ho.2.1) (Zfk m)
     · rw [if_pos rfl]
       exact Zmz (b := true) (IH m _ ho.1) (IH m _ ho.2.1) (IH m _ ho.2.2.1)
   rw [if_neg h5]
   by_cases h6 : k = 6
   · rw [if_pos h6] at ho
     rw [if_pos h6]
     exact Ygo (IH m _ ho.1) (IH (m + 1) _ ho.2)
   rw [if_neg h6] at ho
   rw [if_neg h6]
   by_cases h7 : k = 7 \/ k = 8
   · rw [if_pos h7]
     obtain ⟨_, h8, h9⟩ := hw.l h7
     intro x hx
     simp at hx; subst hx
     simp only []; omega
   rw [if_neg h7]
   by_cases h23 : k = 23
   · rw [if_pos h23]
     have := hw.w (Or.inr (Or.inl h23)); subst this
     exact Zkv (IH m _ ho.1) (IH m _ ho.2.1)
   rw [if_neg h23]
   by_cases h24 : k = 24
   · rw [if_pos h24]
     have := hw.w (Or.inr (Or.inr h24)); subst this
     exact Zkv (IH m _ ho.1) (IH m _ ho.2.1)
   rw [if_neg h24]
   exact Xb (Zno (fun a h => IH m a h) _ _ ho) (Zqz _ _)
theorem Zzf (ts : List (ByteArray × List Int)) (ps : List (Int × Int × Int)) : ∀ (g m a : Nat), okP ts.length ps g m a -> WrF (Yx ts ps g) (Jr ts ps g) (Xc ps g) m a
 | 0, m, a, h => h.elim
 | g + 1, m, a, h => by
   obtain ⟨k, n, kc, hp, hw, ho⟩ := h
   have IH := Zzf ts ps g
   have eS : Xc ps (g + 1) a = Zas (Xc ps g) kc.toNat (a + 1) := by rw [Xc, hp]
   intro s hs
   rw [eS, Yx, Jr, hp]
   simp only []
   by_cases h5 : k = 5
   · rw [if_neg (by omega)] at ho
     rw [if_pos h5, if_pos h5]
     rcases hw.i h5 with rfl | rfl
     · rw [if_neg (by decide)]
       exact Ydx (IH m _ ho.1) (IH m _ ho.2.1) hs
     · rw [if_pos rfl]
       exact Ydw (IH m _ ho.1) (IH m _ ho.2.1) (IH m _ ho.2.2.1) hs
   rw [if_neg h5, if_neg h5]
   by_cases h6 : k = 6
   · rw [if_pos h6] at ho
     rw [if_pos h6, if_pos h6]
     have := hw.w (Or.inl h6); subst this
     obtain ⟨w1, p1⟩ := IH m _ ho.1 s hs
     obtain ⟨w2, p2⟩ := IH (m + 1) _ ho.2 (((Yx ts ps g s (a + 1)).1.emit a (15, 0)).push s.out.length) (by simp only [PS.push, PS.emit, List.length_cons]; rw [Yki w1, hs])
     unfold Ziu
     rw [p1]
     exact ⟨Yri w1 w2 (fun x hx => (Zjh ts ps g (m + 1) _ ho.2 x hx).1), p2⟩
   rw [if_neg h6] at ho
   rw [if_neg h6, if_neg h6]
   by_cases h7 : k = 7 \/ k = 8
   · rw [if_pos h7, if_pos h7]
     obtain ⟨h0, h8, h9⟩ := hw.l h7
     subst h0
     exact ⟨Yna k n h7 h8 s a, rfl⟩
   rw [if_neg h7, if_neg h7]
   by_cases h23 : k = 23
   · rw [if_pos h23, if_pos h23]
     have := hw.w (Or.inr (Or.inl h23)); subst this
     exact Zvh (IH m _ ho.1) (IH m _ ho.2.1) hs
   rw [if_neg h23, if_neg h23]
   by_cases h24 : k = 24
   · rw [if_pos h24, if_pos h24]
     have := hw.w (Or.inr (Or.inr h24)); subst this
     exact Zvh (IH m _ ho.1) (IH m _ ho.2.1) hs
   rw [if_neg h24, if_neg h24]
   obtain ⟨w1, p1⟩ := Yht (fun a h => IH m a h) _ _ ho s hs
   exact ⟨Zbl w1 (Zql a (Zwh ts k n) _), p1⟩
theorem Zol (bg : Nat -> Nat) : ∀ (i : Nat) (R : List Ln), Zmj 0 R -> Zmh bg i R = Zay i R
 | i, [], _ => rfl
 | i, x :: r, h => by
   have hx := h x (List.mem_cons_self ..)
   rw [Zmh, Zay, Zol bg (i + 1) r (fun y hy => h y (List.mem_cons_of_mem _ hy))]
   unfold Zor
   rw [if_neg (by omega)]
def Zsg (u : Un) (f : Fun) : List Ln := Jr u.texts f.parts 65 0 ++ [Ym 0 3 0, Ym 0 18 0]
theorem Yim (u : Un) (f : Fun) (h : okP u.texts.length f.parts 65 0 0) : (Zbf u.texts f.parts).out = Zay 0 (Zsg u f) /\ (Zbf u.texts f.parts).org = Zeb (Zsg u f) := by
 obtain ⟨w1, _⟩ := Zzf u.texts f.parts 65 0 0 h ⟨[], [], []⟩ rfl
 have w2 := Zbl (Zbl w1 (Zfe _ 0 3 0)) (Zfe _ 0 18 0)
 have w3 := Zij w2 (R' := Zsg u f) (by simp [Zsg])
 have ho : Zmj 0 (Zsg u f) := Xb (Zjh u.texts f.parts 65 0 0 h) (Zqz 0 [(3, 0), (18, 0)])
 have e : Zbf u.texts f.parts = ⟨[] ++ Zmh (bgV []) 0 (Zsg u f), [] ++ Zeb (Zsg u f), Zmg [] 0 (Zsg u f)⟩ := w3
 rw [e]
 simp only [List.nil_append]
 exact ⟨Zol _ 0 _ ho, trivial⟩
theorem Yoj (u : Un) (f : Fun) (h : okP u.texts.length f.parts 65 0 0) : (Zbf u.texts f.parts).out.length = (Jr u.texts f.parts 65 0).length + 2 := by
 rw [(Yim u f h).1, Zdn, Zsg, List.length_append]; rfl
structure Xae (w : World) (B : Nat) (pt pf : Option Addr) (ct : Nat) (u : Un) : Prop where
 at_ : Zab w B pt pf u
 ok : Yzj w pt ct u
 sz : Xcd u
section
variable {H : Type} {enc : TypeId × Value -> H} {P : Program} {w : World}
theorem Ybi (d : DataW H) : 1 <= Rows.uptoBulk d := by
 cases d with
 | lit l => cases l <;> simp [Rows.uptoBulk]
 | nil => simp [Rows.uptoBulk]
 | ptr d => simp [Rows.uptoBulk]
 | slice elems spare => simp [Rows.uptoBulk]
 | agg parts => simp [Rows.uptoBulk]
 | iface t d => simp [Rows.uptoBulk]
 | map entries => simp [Rows.uptoBulk]
 | held h => simp [Rows.uptoBulk]
theorem Zyn {d : DataW H} : ∀ {l : List (DataW H)}, d ∈ l -> Rows.uptoBulk d <= Rows.uptoBulkAll l
 | x :: r, h => by
   simp only [Rows.uptoBulkAll]
   rcases List.mem_cons.1 h with e | e
   · subst e; omega
   · have := Zyn e; omega
theorem Ybj : ∀ (l : List (DataW H)), l.length <= Rows.uptoBulkAll l
 | [] => by simp [Rows.uptoBulkAll]
 | x :: r => by have := Ybi x; have := Ybj r; simp only [Rows.uptoBulkAll, List.length_cons]; omega
theorem Zbp {t : TypeId} {fs : Array Field} {fuel : Nat} {cs : List Value} {x : DataW H × List MemPlace} (ht : P.underlying t = some (.struct fs)) (h : DataW.trod enc P w 0 (fun _ => true) true fuel t cs = some x) (i : Nat) (f : Field) (hf : fs[i]? = some f) (hc : P.cellsOf f.type = 1) (k : Nat) (hk : P.cellsOf t = k) (ho : f.offset < k) :
 cs.length = k /\ ∃ n v y, cs[f.offset]? = some v /\ DataW.trod enc P w 0 (fun _ => true) true n f.type [v] = some y /\ Rows.uptoBulk y.1 + 1 <= Rows.uptoBulk x.1 := by
 obtain ⟨xs, n, _, rfl, hl, hlen, hfl⟩ := DataW.trod_struct ht h
 rw [hk] at hl
 have hi : i < xs.length := by rw [hlen]; exact (Gs hf)
 have h1 := hfl i f hf
 have ho' : f.offset < cs.length := by omega
 have hx : (cs.drop f.offset).take (P.cellsOf f.type) = [cs[f.offset]] := by
  rw [hc, List.drop_eq_getElem_cons ho']; rfl
 rw [hx, List.getElem?_eq_getElem hi] at h1
 refine ⟨hl, n, cs[f.offset], xs[i], List.getElem?_eq_getElem ho', h1, ?_⟩
 have := Zyn (List.mem_map.2 ⟨xs[i], List.getElem_mem hi, rfl⟩ : xs[i].1 ∈ xs.map (·.1))
 simp only [Rows.uptoBulk]; omega
theorem Yjy (b o i j : Nat) : ((⟨b, o, none⟩ : Addr).add i).add j = ⟨b, o + i + j, none⟩ := by rw [Zvw, Zvw]
theorem Ziz {t e : TypeId} {fuel : Nat} {v : Value} {x : DataW H × List MemPlace} (ht : P.underlying t = some (.slice e)) (k : Nat) (hk : P.cellsOf e = k) (k0 : 0 < k) (h : DataW.trod enc P w 0 (fun _ => true) true fuel t [v] = some x) :
 ∃ (p : Option Addr) (len cap : Nat), v = .slice p len cap /\ len <= cap /\ cap <= maxLen /\ (p = none -> cap = 0) /\ len + 1 <= Rows.uptoBulk x.1 /\ (0 < len -> ∃ b o, p = some ⟨b, o, none⟩ /\ b < w.heap.size /\ ∀ i, i < len -> ∃ cs' n y, cs'.length = k /\ (∀ j, j < k -> w.cell? ⟨b, o + i * k + j, none⟩ = cs'[j]?) /\ DataW.trod enc P w 0 (fun _ => true) true n e cs' = some y /\ Rows.uptoBulk y.1 + 1 <= Rows.uptoBulk x.1) := by
 rcases Deep.open_slice ht h with ⟨hcs, rfl⟩ | ⟨a, len, cap, m, n, D, Pl, hcs, _, hl, hm, hmm, rfl, hx⟩
 · injection hcs with hcs _
   exact ⟨none, 0, 0, hcs, Nat.le_refl _, Nat.zero_le _, (fun _ => rfl), Ybi _, fun h => absurd h (Nat.lt_irrefl _)⟩
 · injection hcs with hcs _
   simp only [if_true] at hmm
   subst hmm
   refine ⟨some a, len, m, hcs, hl, hm, (fun h => by cases h), ?_, fun h0 => ?_⟩
   · have := Ybj ((List.range len).map D)
     simp only [Rows.uptoBulk]
     rw [List.length_map, List.length_range] at this
     omega
   · obtain ⟨b, o, spot⟩ := a
     have hcell : ∀ i, i < m -> ∃ cs', cs'.length = k /\ (∀ j, j < k -> w.cell? (((⟨b, o, spot⟩ : Addr).add (i * k)).add j) = cs'[j]?) /\ DataW.trod enc P w 0 (fun _ => true) true n e cs' = some (D i, Pl i) := by
      intro i hi
      obtain ⟨cs', h1, h2⟩ := hx i hi
      rw [hk] at h1
      obtain ⟨_, h3, h4⟩ := World.cells?_some h1
      exact ⟨cs', h3, h4, h2⟩
     have hspot : spot = none := by
      obtain ⟨cs', h3, h4, _⟩ := hcell 0 (by omega)
      have h5 := h4 0 k0
      rw [List.getElem?_eq_getElem (by omega)] at h5
      have h6 := World.cell?_spot h5
      simpa [Addr.add] using h6
     subst hspot
     refine ⟨b, o, rfl, ?_, fun i hi => ?_⟩
     · obtain ⟨cs', h3, h4, _⟩ := hcell 0 (by omega)
       have h5 := h4 0 k0
       rw [List.getElem?_eq_getElem (by omega), Yjy] at h5
       exact World.block_lt_of_cell? _ _ h5
     · obtain ⟨cs', h3, h4, h5⟩ := hcell i (by omega)
       refine ⟨cs', n, _, h3, fun j hj => by rw [<- Yjy]; exact h4 j hj, h5, ?_⟩
       have := Zyn (List.mem_map.2 ⟨i, List.mem_range.2 hi, rfl⟩ : D i ∈ (List.range len).map D)
       simp only [Rows.uptoBulk]; omega
theorem Zzw {α : Type} {l : List α} (h : l.length = 1) : ∃ a, l = [a] := by
 match l, h with
 | [a], _ => exact ⟨a, rfl⟩
theorem Ykv {α : Type} {l : List α} (h : l.length = 2) : ∃ a b, l = [a, b] := by
 match l, h with
 | [a, b], _ => exact ⟨a, b, rfl⟩
theorem Ybv {α : Type} {l : List α} (h : l.length = 3) : ∃ a b c, l = [a, b, c] := by
 match l, h with
 | [a, b, c], _ => exact ⟨a, b, c, rfl⟩
end
section
variable {H : Type} {enc : TypeId × Value -> H} {w : World}
theorem Yce {fuel : Nat} {v : Value} {x : DataW H × List MemPlace} (h : DataW.trod enc Try.prog w 0 (fun _ => true) true fuel 29 [v] = some x) :
 ∃ (p : Option Addr) (d : List Int) (cap : Nat), v = .slice p d.length cap /\ Zwe w w.heap.size p d /\ (p = none -> cap = 0) /\ d.length + 1 <= Rows.uptoBulk x.1 := by
 obtain ⟨p, len, cap, rfl, hl, hm, hn, hb, hx⟩ := Ziz (k := 1) Yjl (by kernel_rfl) (by decide) h
 have hex : ∃ N : Nat -> Int, 0 < len -> ∃ b o, p = some ⟨b, o, none⟩ /\ b < w.heap.size /\ ∀ i, i < len -> w.cell? ⟨b, o + i, none⟩ = some (.int .u8 (N i)) := by
  rcases Nat.eq_zero_or_pos len with h0 | h0
  · exact ⟨fun _ => 0, fun h => by omega⟩
  · obtain ⟨b, o, rfl, hbl, hi⟩ := hx h0
    have : ∀ i, i < len -> ∃ N : Int, w.cell? ⟨b, o + i, none⟩ = some (.int .u8 N) := by
     intro i hil
     obtain ⟨cs', n, y, h3, h4, h5, _⟩ := hi i hil
     obtain ⟨c, rfl⟩ := Zzw h3
     obtain ⟨N, e, _, _⟩ := DataW.trod_int Yjk h5
     injection e with e; subst e
     have := h4 0 (by decide)
     rw [Nat.mul_one, Nat.add_zero] at this
     exact ⟨N, this⟩
    obtain ⟨N, hN⟩ := Deep.choose_lt this
    exact ⟨N, fun _ => ⟨b, o, rfl, hbl, hN⟩⟩
 obtain ⟨N, hN⟩ := hex
 refine ⟨p, (List.range len).map N, cap, by simp, fun h0 => ?_, hn, by simpa using hb⟩
 simp only [List.length_map, List.length_range] at h0
 obtain ⟨b, o, e, hbl, hi⟩ := hN h0
 refine ⟨b, o, e, hbl, fun i hil => ?_⟩
 simp only [List.length_map, List.length_range] at hil
 rw [hi i hil]
 simp [List.getD_eq_getElem?_getD, hil]
theorem Yfz {fuel : Nat} {v : Value} {x : DataW H × List MemPlace} (h : DataW.trod enc Try.prog w 0 (fun _ => true) true fuel 66 [v] = some x) :
 ∃ (p : Option Addr) (d : List ByteArray) (cap : Nat), v = .slice p d.length cap /\ Zyw w w.heap.size p d /\ (∀ s ∈ d, s.size <= maxLen) /\ d.length + 1 <= Rows.uptoBulk x.1 := by
 obtain ⟨p, len, cap, rfl, hl, hm, hn, hb, hx⟩ := Ziz (k := 1) Ylb (by kernel_rfl) (by decide) h
 have hex : ∃ N : Nat -> ByteArray, (∀ i, i < len -> (N i).size <= maxLen) /\ (0 < len -> ∃ b o, p = some ⟨b, o, none⟩ /\ b < w.heap.size /\ ∀ i, i < len -> w.cell? ⟨b, o + i, none⟩ = some (.string (N i))) := by
  rcases Nat.eq_zero_or_pos len with h0 | h0
  · exact ⟨fun _ => ByteArray.empty, fun i hi => by omega, fun h => by omega⟩
  · obtain ⟨b, o, rfl, hbl, hi⟩ := hx h0
    have : ∀ i, i < len -> ∃ N : ByteArray, w.cell? ⟨b, o + i, none⟩ = some (.string N) /\ N.size <= maxLen := by
     intro i hil
     obtain ⟨cs', n, y, h3, h4, h5, _⟩ := hi i hil
     obtain ⟨c, rfl⟩ := Zzw h3
     obtain ⟨N, e, _, hs⟩ := DataW.trod_string Zqr h5
     injection e with e; subst e
     have := h4 0 (by decide)
     rw [Nat.mul_one, Nat.add_zero] at this
     exact ⟨N, this, hs⟩
    obtain ⟨N, hN⟩ := Deep.choose_lt this
    exact ⟨N, fun i hi => (hN i hi).2, fun _ => ⟨b, o, rfl, hbl, fun i hi => (hN i hi).1⟩⟩
 obtain ⟨N, hS, hN⟩ := hex
 refine ⟨p, (List.range len).map N, cap, by simp, fun h0 => ?_, fun s hs => ?_, by simpa using hb⟩
 · simp only [List.length_map, List.length_range] at h0
   obtain ⟨b, o, e, hbl, hi⟩ := hN h0
   refine ⟨b, o, e, hbl, fun i hil => ?_⟩
   have hil2 : i < len := by simpa using hil
   rw [hi i hil2]
   simp
 · obtain ⟨i, hi, rfl⟩ := List.mem_map.1 hs
   exact hS i (List.mem_range.1 hi)
theorem Yap : Try.prog.underlying 3 = some (.int .i64) := by kernel_rfl
theorem Zls {fuel : Nat} {v : Value} {x : DataW H × List MemPlace} (h : DataW.trod enc Try.prog w 0 (fun _ => true) true fuel 3 [v] = some x) : ∃ n, v = .int .i64 n := by
 obtain ⟨n, e, _, _⟩ := DataW.trod_int Yap h
 injection e with e
 exact ⟨n, e⟩
theorem Yga {fuel : Nat} {cs : List Value} {x : DataW H × List MemPlace} (h : DataW.trod enc Try.prog w 0 (fun _ => true) true fuel 108 cs = some x) : ∃ k n kc, cs = [.int .i64 k, .int .i64 n, .int .i64 kc] := by
 obtain ⟨hl, _, v0, y0, g0, t0, _⟩ := Zbp (k := 3) Try.underlying108 h 0 _ rfl (by kernel_rfl) (by kernel_rfl) (by decide)
 obtain ⟨_, _, v1, y1, g1, t1, _⟩ := Zbp (k := 3) Try.underlying108 h 1 _ rfl (by kernel_rfl) (by kernel_rfl) (by decide)
 obtain ⟨_, _, v2, y2, g2, t2, _⟩ := Zbp (k := 3) Try.underlying108 h 2 _ rfl (by kernel_rfl) (by kernel_rfl) (by decide)
 obtain ⟨a, b, c, rfl⟩ := Ybv hl
 obtain ⟨k, rfl⟩ := Zls t0
 obtain ⟨n, rfl⟩ := Zls t1
 obtain ⟨kc, rfl⟩ := Zls t2
 simp at g0 g1 g2
 exact ⟨k, n, kc, by rw [g0, g1, g2]⟩
theorem Ycd {fuel : Nat} {v : Value} {x : DataW H × List MemPlace} (h : DataW.trod enc Try.prog w 0 (fun _ => true) true fuel 67 [v] = some x) :
 ∃ (p : Option Addr) (d : List (Int × Int × Int)) (cap : Nat), v = .slice p d.length cap /\ Zcw w w.heap.size p d /\ d.length + 1 <= Rows.uptoBulk x.1 := by
 obtain ⟨p, len, cap, rfl, hl, hm, hn, hb, hx⟩ := Ziz (k := 3) Ygi (by kernel_rfl) (by decide) h
 have hex : ∃ N : Nat -> Int × Int × Int, 0 < len -> ∃ b o, p = some ⟨b, o, none⟩ /\ b < w.heap.size /\ ∀ i, i < len -> w.cell? ⟨b, o + i * 3, none⟩ = some (.int .i64 (N i).1) /\ w.cell? ⟨b, o + i * 3 + 1, none⟩ = some (.int .i64 (N i).2.1) /\ w.cell? ⟨b, o + i * 3 + 2, none⟩ = some (.int .i64 (N i).2.2) := by
  rcases Nat.eq_zero_or_pos len with h0 | h0
  · exact ⟨fun _ => (0, 0, 0), fun h => by omega⟩
  · obtain ⟨b, o, rfl, hbl, hi⟩ := hx h0
    have : ∀ i, i < len -> ∃ N : Int × Int × Int, w.cell? ⟨b, o + i * 3, none⟩ = some (.int .i64 N.1) /\ w.cell? ⟨b, o + i * 3 + 1, none⟩ = some (.int .i64 N.2.1) /\ w.cell? ⟨b, o + i * 3 + 2, none⟩ = some (.int .i64 N.2.2) := by
     intro i hil
     obtain ⟨cs', n, y, h3, h4, h5, _⟩ := hi i hil
     obtain ⟨k, m, kc, rfl⟩ := Yga h5
     exact ⟨(k, m, kc), h4 0 (by decide), h4 1 (by decide), h4 2 (by decide)⟩
    obtain ⟨N, hN⟩ := Deep.choose_lt this
    exact ⟨N, fun _ => ⟨b, o, rfl, hbl, hN⟩⟩
 obtain ⟨N, hN⟩ := hex
 refine ⟨p, (List.range len).map N, cap, by simp, fun h0 => ?_, by simpa using hb⟩
 simp only [List.length_map, List.length_range] at h0
 obtain ⟨b, o, e, hbl, hi⟩ := hN h0
 refine ⟨b, o, e, hbl, fun j k n kc hj => ?_⟩
 have hjl := (List.getElem?_eq_some_iff.1 hj).1
 simp only [List.length_map, List.length_range] at hjl
 have := hi j hjl
 have e : N j = (k, n, kc) := by simpa [hjl] using hj
 rw [e] at this
 exact this
structure Yvk (w : World) (b o : Nat) (nm : ByteArray) (d : List Int) (bk : Nat) : Prop where
 c0 : w.cell? ⟨b, o, none⟩ = some (.string nm)
 c1 : ∃ (p : Option Addr) (cap : Nat), w.cell? ⟨b, o + 1, none⟩ = some (.slice p d.length cap) /\ Zwe w w.heap.size p d /\ (p = none -> cap = 0)
 s0 : nm.size <= maxLen
 s1 : d.length <= bk
theorem Ycc {fuel : Nat} {v : Value} {x : DataW H × List MemPlace} (h : DataW.trod enc Try.prog w 0 (fun _ => true) true fuel 22 [v] = some x) :
 ∃ (p : Option Addr) (ts : List (ByteArray × List Int)) (cap : Nat), v = .slice p ts.length cap /\ ts.length <= cap /\ cap <= maxLen /\ ts.length <= Rows.uptoBulk x.1 /\ (0 < ts.length -> ∃ b o, p = some ⟨b, o, none⟩ /\ b < w.heap.size /\ ∀ i nm d, ts[i]? = some (nm, d) -> Yvk w b (o + i * 2) nm d (Rows.uptoBulk x.1)) := by
 obtain ⟨p, len, cap, rfl, hl, hm, hn, hb, hx⟩ := Ziz (k := 2) Yfe (by kernel_rfl) (by decide) h
 have hex : ∃ N : Nat -> ByteArray × List Int, 0 < len -> ∃ b o, p = some ⟨b, o, none⟩ /\ b < w.heap.size /\ ∀ i, i < len -> Yvk w b (o + i * 2) (N i).1 (N i).2 (Rows.uptoBulk x.1) := by
  rcases Nat.eq_zero_or_pos len with h0 | h0
  · exact ⟨fun _ => (ByteArray.empty, []), fun h => by omega⟩
  · obtain ⟨b, o, rfl, hbl, hi⟩ := hx h0
    have : ∀ i, i < len -> ∃ N : ByteArray × List Int, Yvk w b (o + i * 2) N.1 N.2 (Rows.uptoBulk x.1) := by
     intro i hil
     obtain ⟨cs', n, y, h3, h4, h5, hyb⟩ := hi i hil
     obtain ⟨_, _, v0, y0, g0, t0, _⟩ := Zbp (k := 2) Try.underlying65 h5 0 _ rfl (by kernel_rfl) (by kernel_rfl) (by decide)
     obtain ⟨_, _, v1, y1, g1, t1, hb1⟩ := Zbp (k := 2) Try.underlying65 h5 1 _ rfl (by kernel_rfl) (by kernel_rfl) (by decide)
     obtain ⟨nm, e, _, hs⟩ := DataW.trod_string Zqr t0
     injection e with e; subst e
     obtain ⟨pd, d, cd, rfl, hbd, hnn, hbb⟩ := Yce t1
     have k0 := (h4 0 (by decide)).trans g0
     have k1 := (h4 1 (by decide)).trans g1
     exact ⟨(nm, d), k0, ⟨pd, cd, k1, hbd, hnn⟩, hs, by show d.length <= _; omega⟩
    obtain ⟨N, hN⟩ := Deep.choose_lt this
    exact ⟨N, fun _ => ⟨b, o, rfl, hbl, hN⟩⟩
 obtain ⟨N, hN⟩ := hex
 refine ⟨p, (List.range len).map N, cap, by simp, by simpa using hl, hm, by simp; omega, fun h0 => ?_⟩
 simp only [List.length_map, List.length_range] at h0
 obtain ⟨b, o, e, hbl, hi⟩ := hN h0
 refine ⟨b, o, e, hbl, fun i nm d hj => ?_⟩
 have hjl := (List.getElem?_eq_some_iff.1 hj).1
 simp only [List.length_map, List.length_range] at hjl
 have := hi i hjl
 have e : N i = (nm, d) := by simpa [hjl] using hj
 rw [e] at this
 exact this
structure Yzu (w : World) (b o : Nat) (f : Fun) (bk : Nat) : Prop where
 c0 : w.cell? ⟨b, o, none⟩ = some (.string f.name)
 c1 : w.cell? ⟨b, o + 1, none⟩ = some (.int .i64 f.args)
 c2 : ∃ (p : Option Addr) (cap : Nat), w.cell? ⟨b, o + 2, none⟩ = some (.slice p f.locals.length cap) /\ Zyw w w.heap.size p f.locals
 c3 : ∃ (p : Option Addr) (cap : Nat), w.cell? ⟨b, o + 3, none⟩ = some (.slice p f.parts.length cap) /\ Zcw w w.heap.size p f.parts
 s0 : f.name.size <= maxLen
 s1 : ∀ s ∈ f.locals, s.size <= maxLen
 s2 : f.locals.length <= bk
 s3 : f.parts.length <= bk
theorem Ygb {fuel : Nat} {v : Value} {x : DataW H × List MemPlace} (h : DataW.trod enc Try.prog w 0 (fun _ => true) true fuel 23 [v] = some x) :
 ∃ (p : Option Addr) (us : List Fun) (cap : Nat), v = .slice p us.length cap /\ us.length <= Rows.uptoBulk x.1 /\ (0 < us.length -> ∃ b o, p = some ⟨b, o, none⟩ /\ b < w.heap.size /\ ∀ i f, us[i]? = some f -> Yzu w b (o + i * 4) f (Rows.uptoBulk x.1)) := by
 obtain ⟨p, len, cap, rfl, hl, hm, hn, hb, hx⟩ := Ziz (k := 4) Yuy (by kernel_rfl) (by decide) h
 have hex : ∃ N : Nat -> Fun, 0 < len -> ∃ b o, p = some ⟨b, o, none⟩ /\ b < w.heap.size /\ ∀ i, i < len -> Yzu w b (o + i * 4) (N i) (Rows.uptoBulk x.1) := by
  rcases Nat.eq_zero_or_pos len with h0 | h0
  · exact ⟨fun _ => ⟨ByteArray.empty, 0, [], []⟩, fun h => by omega⟩
  · obtain ⟨b, o, rfl, hbl, hi⟩ := hx h0
    have : ∀ i, i < len -> ∃ N : Fun, Yzu w b (o + i * 4) N (Rows.uptoBulk x.1) := by
     intro i hil
     obtain ⟨cs', n, y, h3, h4, h5, hyb⟩ := hi i hil
     obtain ⟨_, _, v0, y0, g0, t0, _⟩ := Zbp (k := 4) Try.underlying69 h5 0 _ rfl (by kernel_rfl) (by kernel_rfl) (by decide)
     obtain ⟨_, _, v1, y1, g1, t1, _⟩ := Zbp (k := 4) Try.underlying69 h5 1 _ rfl (by kernel_rfl) (by kernel_rfl) (by decide)
     obtain ⟨_, _, v2, y2, g2, t2, hb2⟩ := Zbp (k := 4) Try.underlying69 h5 2 _ rfl (by kernel_rfl) (by kernel_rfl) (by decide)
     obtain ⟨_, _, v3, y3, g3, t3, hb3⟩ := Zbp (k := 4) Try.underlying69 h5 3 _ rfl (by kernel_rfl) (by kernel_rfl) (by decide)
     obtain ⟨nm, e, _, hs⟩ := DataW.trod_string Zqr t0
     injection e with e; subst e
     obtain ⟨ar, rfl⟩ := Zls t1
     obtain ⟨pl, ls, cl, rfl, hsl, hss, hbl2⟩ := Yfz t2
     obtain ⟨pp, qs, cp, rfl, hsp, hbp⟩ := Ycd t3
     have k0 := (h4 0 (by decide)).trans g0
     have k1 := (h4 1 (by decide)).trans g1
     have k2 := (h4 2 (by decide)).trans g2
     have k3 := (h4 3 (by decide)).trans g3
     exact ⟨⟨nm, ar, ls, qs⟩, k0, k1, ⟨pl, cl, k2, hsl⟩, ⟨pp, cp, k3, hsp⟩, hs, hss, by show ls.length <= _; omega, by show qs.length <= _; omega⟩
    obtain ⟨N, hN⟩ := @Deep.choose_lt _ ⟨(⟨ByteArray.empty, 0, [], []⟩ : Fun)⟩ _ _ this
    exact ⟨N, fun _ => ⟨b, o, rfl, hbl, hN⟩⟩
 obtain ⟨N, hN⟩ := hex
 refine ⟨p, (List.range len).map N, cap, by simp, by simp; omega, fun h0 => ?_⟩
 simp only [List.length_map, List.length_range] at h0
 obtain ⟨b, o, e, hbl, hi⟩ := hN h0
 refine ⟨b, o, e, hbl, fun i f hj => ?_⟩
 have hjl := (List.getElem?_eq_some_iff.1 hj).1
 simp only [List.length_map, List.length_range] at hjl
 have := hi i hjl
 have e : N i = f := by simpa [hjl] using hj
 rw [e] at this
 exact this
theorem Yfy {v : Value} {d : DataW H} {ps : List MemPlace} (hv : ∃ cs, v = .agg cs) (h : DataW.Trod enc Try.prog w 0 (fun _ => true) true 25 v d ps) (hb : Rows.uptoBulk d <= 1048576) :
 ∃ (u : Un) (pt pf : Option Addr) (ct cf : Nat), v = .agg #[.slice pt u.texts.length ct, .slice pf u.funcs.length cf] /\ Xae w w.heap.size pt pf ct u := by
 obtain ⟨cs, rfl⟩ := hv
 obtain ⟨fuel, h⟩ := h
 have h' : DataW.trod enc Try.prog w 0 (fun _ => true) true fuel 25 cs.toList = some (d, ps) := h
 obtain ⟨hl, _, v0, y0, g0, t0, b0⟩ := Zbp (k := 2) Try.underlying25 h' 0 _ rfl (by kernel_rfl) (by kernel_rfl) (by decide)
 obtain ⟨_, _, v1, y1, g1, t1, b1⟩ := Zbp (k := 2) Try.underlying25 h' 1 _ rfl (by kernel_rfl) (by kernel_rfl) (by decide)
 obtain ⟨pt, ts, ct, rfl, hct, hcm, hbt, ht⟩ := Ycc t0
 obtain ⟨pf, us, cf, rfl, hbf, hf⟩ := Ygb t1
 simp only [] at b0 b1
 refine ⟨⟨ts, us⟩, pt, pf, ct, cf, ?_, ⟨⟨Nat.le_refl _, fun h0 => ?_, fun h0 => ?_⟩, ⟨⟨?_, ?_, ?_, ?_⟩, ?_, hct, hcm, ?_⟩, ⟨?_, ?_, ?_, ?_⟩⟩⟩
 · obtain ⟨a, b, e⟩ := Ykv hl
   have : cs = #[a, b] := by
    have := congrArg List.toArray e
    simpa using this
   subst this
   simp at g0 g1
   rw [g0, g1]
 · obtain ⟨b, o, e, hbl, hi⟩ := ht h0
   refine ⟨b, o, e, hbl, fun i nm dd hj => ?_⟩
   have R := hi i nm dd hj
   obtain ⟨p, cap, q1, q2, _⟩ := R.c1
   exact ⟨R.c0, p, cap, q1, q2⟩
 · obtain ⟨b, o, e, hbl, hi⟩ := hf h0
   refine ⟨b, o, e, hbl, fun i f hj => ?_⟩
   have R := hi i f hj
   exact ⟨R.c0, R.c1, R.c2, R.c3⟩
 · show ts.length <= _; omega
 · show us.length <= _; omega
 · intro x hx
   obtain ⟨i, hi⟩ := List.mem_iff_getElem?.1 hx
   have h0 := (List.getElem?_eq_some_iff.1 hi).1
   obtain ⟨b, o, e, hbl, hii⟩ := ht (show 0 < ts.length from Nat.lt_of_le_of_lt (Nat.zero_le _) h0)
   have R := hii i x.1 x.2 hi
   exact ⟨R.s0, by have := R.s1; omega⟩
 · intro f hx
   obtain ⟨i, hi⟩ := List.mem_iff_getElem?.1 hx
   have h0 := (List.getElem?_eq_some_iff.1 hi).1
   obtain ⟨b, o, e, hbl, hii⟩ := hf (show 0 < us.length from Nat.lt_of_le_of_lt (Nat.zero_le _) h0)
   have R := hii i f hi
   exact ⟨R.s0, by have := R.s2; omega, by have := R.s3; omega, R.s1⟩
 · intro f hx
   obtain ⟨i, hi⟩ := List.mem_iff_getElem?.1 hx
   have h0 := (List.getElem?_eq_some_iff.1 hi).1
   obtain ⟨b, o, e, hbl, hii⟩ := hf (show 0 < us.length from Nat.lt_of_le_of_lt (Nat.zero_le _) h0)
   have R := hii i f hi
   have := R.s3; omega
 · intro i pd n cd b o hp hi hc hn
   obtain ⟨b', o', e, hbl, hii⟩ := ht (by have h9 : i < ts.length := hi; omega)
   rw [hp] at e
   injection e with e; injection e with e1 e2 _; subst e1; subst e2
   obtain ⟨⟨nm, dd⟩, hx⟩ : ∃ x, ts[i]? = some x := ⟨_, List.getElem?_eq_getElem hi⟩
   obtain ⟨p, cap, q1, q2, q3⟩ := (hii i nm dd hx).c1
   rw [q1] at hc
   injection hc with hc
   injection hc with c1 c2 c3
   subst c1; subst c3
   exact q3 hn
 · show ts.length <= _; omega
 · show us.length <= _; omega
 · intro x hx
   obtain ⟨i, hi⟩ := List.mem_iff_getElem?.1 hx
   have h0 := (List.getElem?_eq_some_iff.1 hi).1
   obtain ⟨b, o, e, hbl, hii⟩ := ht (show 0 < ts.length from Nat.lt_of_le_of_lt (Nat.zero_le _) h0)
   have := (hii i x.1 x.2 hi).s1; omega
 · intro f hx
   obtain ⟨i, hi⟩ := List.mem_iff_getElem?.1 hx
   have h0 := (List.getElem?_eq_some_iff.1 hi).1
   obtain ⟨b, o, e, hbl, hii⟩ := hf (show 0 < us.length from Nat.lt_of_le_of_lt (Nat.zero_le _) h0)
   have R := hii i f hi
   exact ⟨by have := R.s2; omega, by have := R.s3; omega⟩
end
end Go.Proofs.Ytecaolkbllbokaa.TG
