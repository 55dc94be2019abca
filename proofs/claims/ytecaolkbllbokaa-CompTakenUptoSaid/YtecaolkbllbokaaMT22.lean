import Derived.Test.YtecaolkbllbokaaMT21
import Derived.Test.YtecaolkbllbokaaMT16
import Derived.Deep.Cut
set_option linter.unusedSimpArgs false
set_option linter.unusedVariables false
set_option maxRecDepth 100000
set_option maxHeartbeats 16000000
namespace Go.Proofs.Ytecaolkbllbokaa.CK
open Go.RowKit Go.Great
def opE (nf len : Nat) (lo : Int) (x : Int × Int) : Int :=
 if x.1 = 14 \/ x.1 = 15 \/ x.1 = 16 then (if (len : Int) <= x.2 then 131 else 0)
 else if x.1 = 7 \/ x.1 = 8 then (if lo <= x.2 then 132 else 0)
 else if x.1 = 17 then (if (nf : Int) <= x.2 then 133 else 0) else 0
structure Yzs (fs : List FnP) (fn : FnP) (op a : Int) : Prop where
 ok : Xcc fs op a
 t0 : 0 <= (Yq fs fn.2.2.1 op a).1
 t1 : (Yq fs fn.2.2.1 op a).1 <= 64
 g0 : 0 <= (Yq fs fn.2.2.1 op a).2
 g1 : (Yq fs fn.2.2.1 op a).2 <= 64
 copy : op = 5 -> 0 <= a /\ a < 256
 jump : op = 14 \/ op = 15 \/ op = 16 -> 0 <= a /\ a < fn.2.2.2.length
structure Zvy (fs : List FnP) : Prop where
 nf : fs.length <= 64
 n1 : 1 <= fs.length
 args : ∀ fn ∈ fs, 0 <= fn.1 /\ fn.1 <= 16 /\ fn.1 <= fn.2.1 /\ fn.2.1 <= 64 /\ 0 <= fn.2.2.1 /\ fn.2.2.1 <= 1
 len : ∀ fn ∈ fs, 1 <= fn.2.2.2.length /\ fn.2.2.2.length <= 4096
 ins : ∀ fn ∈ fs, ∀ x ∈ fn.2.2.2, Yzs fs fn x.1 x.2
theorem Zny : ∀ {fs : List FnP}, Yej fs = 0 -> ∀ fn ∈ fs, fnE fn = 0
 | [], _, fn, h => by cases h
 | f :: r, h, fn, hm => by
   unfold Yej at h
   by_cases h0 : fnE f = 0
   · rw [if_pos h0] at h
     rcases List.mem_cons.1 hm with rfl | hm
     · exact h0
     · exact Zny h fn hm
   · rw [if_neg h0] at h; exact absurd h h0
theorem Zvg : ∀ {l : List (Int × Int)}, Zsj l = 0 -> ∀ x ∈ l, ∃ s, Xe x.1 = some s /\ Zop s.2.1.toNat x.2 = true
 | [], _, x, h => by cases h
 | y :: r, h, x, hm => by
   unfold Zsj at h
   cases hs : Xe y.1 with
   | none => rw [hs] at h; cases h
   | some s =>
     rw [hs] at h
     simp only [] at h
     by_cases hk : Zop s.2.1.toNat y.2 = true
     · rw [if_pos hk] at h
       rcases List.mem_cons.1 hm with rfl | hm
       · exact ⟨s, hs, hk⟩
       · exact Zvg h x hm
     · rw [if_neg hk] at h; cases h
theorem Yli : ∀ n : Nat, n < 46 -> ∀ nm o t g, shapeT[n]? = some (nm, o, t, g) -> (n = 17 -> o = 4) /\ (n = 19 -> o = 5) /\ (n = 5 -> o = 6) /\ (n = 14 \/ n = 15 \/ n = 16 -> o = 3) /\ (n ≠ 17 -> n ≠ 18 -> n ≠ 19 -> 0 <= t /\ t <= 64 /\ 0 <= g /\ g <= 64) := by
 intro n hn nm o t g h
 rcases n with _ | n
 · cases h; exact ⟨by decide, by decide, by decide, by decide, by decide⟩
 iterate 45 (rcases n with _ | n; · cases h; exact ⟨by decide, by decide, by decide, by decide, by decide⟩)
 omega
theorem Zwo : ∀ n : Nat, n < 5 -> 0 <= Yy n /\ Yy n <= 64 := by decide
theorem Zro {k : Nat} {a : Int} (hk : 2 <= k) (h : Zop k a = true) : 0 <= a /\ a < bK k := by
 unfold Zop at h
 rw [if_neg (by omega), if_neg (by omega)] at h
 simpa using h
theorem Yso {mem : Int} {nd : Nat} {fs : List FnP} (h : Zda mem nd fs = 0) (ho : ∀ fn ∈ fs, ∀ x ∈ fn.2.2.2, opE fs.length fn.2.2.2.length fn.2.1 x = 0) : Zvy fs := by
 unfold Zda at h
 by_cases hb : mem < 0 \/ 65536 < mem \/ mem < nd \/ fs.length < 1 \/ 64 < fs.length
 · rw [if_pos hb] at h; cases h
 rw [if_neg hb] at h
 have hz := Zny h
 have hfn : ∀ fn ∈ fs, (0 <= fn.1 /\ fn.1 <= 16 /\ fn.1 <= fn.2.1 /\ fn.2.1 <= 64 /\ 0 <= fn.2.2.1 /\ fn.2.2.1 <= 1) /\ (1 <= fn.2.2.2.length /\ fn.2.2.2.length <= 4096) /\ Zsj fn.2.2.2 = 0 := by
  intro fn hm
  have h1 := hz fn hm
  unfold fnE at h1
  by_cases hc : fn.1 < 0 \/ 16 < fn.1 \/ fn.2.1 < fn.1 \/ 64 < fn.2.1 \/ fn.2.2.1 < 0 \/ 1 < fn.2.2.1 \/ fn.2.2.2.length < 1 \/ 4096 < fn.2.2.2.length
  · rw [if_pos hc] at h1; cases h1
  · rw [if_neg hc] at h1
    exact ⟨by omega, by omega, h1⟩
 refine ⟨by omega, by omega, fun fn hm => (hfn fn hm).1, fun fn hm => (hfn fn hm).2.1, fun fn hm x hx => ?_⟩
 obtain ⟨⟨nm, o, t, g⟩, hs, hk⟩ := Zvg (hfn fn hm).2.2 x hx
 have hr := hfn fn hm
 have hoe := ho fn hm x hx
 obtain ⟨op, a⟩ := x
 simp only [] at hs hk hoe ⊢
 have hop : 0 <= op /\ op < 46 := by
  by_cases hop : 0 <= op /\ op < 46
  · exact hop
  · rw [Zgl hop] at hs; cases hs
 obtain ⟨n, y, rfl, hn, hy, hs2⟩ := Zgk hop
 rw [hs] at hs2
 injection hs2 with hs2
 subst hs2
 obtain ⟨p17, p19, p5, pj, pt⟩ := Yli n hn _ _ _ _ hy
 have call : (n : Int) = 17 -> 0 <= a /\ a < fs.length := fun e => by
  have e' : n = 17 := by omega
  have h1 := p17 e'
  subst h1
  obtain ⟨h2, h3⟩ := Zro (by decide) hk
  unfold opE at hoe
  simp only [] at hoe
  rw [if_neg (by omega), if_neg (by omega), if_pos e] at hoe
  by_cases hc : (fs.length : Int) <= a
  · rw [if_pos hc] at hoe; cases hoe
  · exact ⟨h2, by omega⟩
 have sys : (n : Int) = 19 -> 0 <= a /\ a < 5 := fun e => by
  have h1 := p19 (by omega)
  subst h1
  exact Zro (k := 5) (by decide) hk
 have hT : 0 <= (Yq fs fn.2.2.1 n a).1 /\ (Yq fs fn.2.2.1 n a).1 <= 64 /\ 0 <= (Yq fs fn.2.2.1 n a).2 /\ (Yq fs fn.2.2.1 n a).2 <= 64 := by
  unfold Yq
  by_cases h17 : (n : Int) = 17
  · rw [if_pos h17]
    obtain ⟨c0, c1⟩ := call h17
    obtain ⟨k, rfl⟩ := Int.eq_ofNat_of_zero_le c0
    obtain ⟨gg, hg⟩ : ∃ gg, fs[k]? = some gg := ⟨_, List.getElem?_eq_getElem (by omega)⟩
    rw [Int.toNat_natCast, hg]
    have := hfn gg (List.mem_of_getElem? hg)
    simp only []
    omega
  · rw [if_neg h17]
    by_cases h18 : (n : Int) = 18
    · rw [if_pos h18]; simp only []; omega
    · rw [if_neg h18]
      by_cases h19 : (n : Int) = 19
      · rw [if_pos h19]
        obtain ⟨c0, c1⟩ := sys h19
        have := Zwo a.toNat (by omega)
        simp only []; omega
      · rw [if_neg h19, hs]
        have := pt (by omega) (by omega) (by omega)
        simp only []; omega
 refine ⟨⟨⟨_, hs⟩, call, sys⟩, hT.1, hT.2.1, hT.2.2.1, hT.2.2.2, fun e => ?_, fun e => ?_⟩
 · have h1 := p5 (by omega)
   subst h1
   exact Zro (k := 6) (by decide) hk
 · have h1 := pj (by omega)
   subst h1
   obtain ⟨h2, h3⟩ := Zro (k := 3) (by decide) hk
   unfold opE at hoe
   simp only [] at hoe
   rw [if_pos (by omega)] at hoe
   by_cases hc : (fn.2.2.2.length : Int) <= a
   · rw [if_pos hc] at hoe; cases hoe
   · exact ⟨h2, by omega⟩
structure HS where
 h : List Int
 wt : List Bool
 top : Int
def goL (b : Int) : List Nat -> List Int -> List Bool -> Nat -> Option (List Int × List Bool × Nat)
 | [], h, wt, least => some (h, wt, least)
 | n :: r, h, wt, least => if h.getD n 0 = -1 then goL b r (h.set n b) (wt.set n true) (min least n) else if h.getD n 0 = b then goL b r h wt least else none
def Zgs (code : List (Int × Int)) (pl : Nat) : List Nat := match code[pl]? with | some x => (Ji x.1 x.2 pl).map Int.toNat | none => []
def Zgi (fs : List FnP) (fn : FnP) (pl : Nat) (h : Int) : Int × Int := match fn.2.2.2[pl]? with | some x => Zdy fs fn pl x.1 x.2 h | none => (0, 0)
inductive HStep (fs : List FnP) (fn : FnP) : HS -> Nat -> HS -> Nat -> Prop
 | skip {s : HS} {pl : Nat} : pl < fn.2.2.2.length -> s.wt.getD pl false = false -> HStep fs fn s pl s (pl + 1)
 | take {s : HS} {pl : Nat} {b : Int} {h' : List Int} {wt' : List Bool} {least : Nat} : pl < fn.2.2.2.length -> s.wt.getD pl false = true -> Zgi fs fn pl (s.h.getD pl 0) = (0, b) ->
    goL b (Zgs fn.2.2.2 pl) s.h (s.wt.set pl false) pl = some (h', wt', least) -> HStep fs fn s pl ⟨h', wt', max (max s.top (s.h.getD pl 0)) b⟩ least
inductive HRun (fs : List FnP) (fn : FnP) : HS -> Nat -> HS -> Nat -> Prop
 | refl (s : HS) (pl : Nat) : HRun fs fn s pl s pl
 | step {s s1 s2 : HS} {p p1 p2 : Nat} : HRun fs fn s p s1 p1 -> HStep fs fn s1 p1 s2 p2 -> HRun fs fn s p s2 p2
def hs0 (n : Nat) : HS := ⟨(List.replicate n (-1)).set 0 0, (List.replicate n false).set 0 true, 0⟩
def Xcg (fs : List FnP) (fn : FnP) (s : HS) (pl : Nat) (e : Int) : Prop :=
 pl < fn.2.2.2.length /\ s.wt.getD pl false = true /\ ((e ≠ 0 /\ (Zgi fs fn pl (s.h.getD pl 0)).1 = e) \/ (e = 136 /\ ∃ b, Zgi fs fn pl (s.h.getD pl 0) = (0, b) /\ goL b (Zgs fn.2.2.2 pl) s.h (s.wt.set pl false) pl = none))
structure Yeg (n : Nat) (s : HS) : Prop where
 hl : s.h.length = n
 wl : s.wt.length = n
 rng : ∀ i : Nat, i < n -> s.h.getD i 0 = -1 \/ (0 <= s.h.getD i 0 /\ s.h.getD i 0 <= 256)
 wts : ∀ i : Nat, i < n -> s.wt.getD i false = true -> 0 <= s.h.getD i 0
 t0 : 0 <= s.top
 t1 : s.top <= 256
theorem Zi {α : Type} (l : List α) (i j : Nat) (d x : α) (hi : i < l.length) : (l.set i x).getD j d = if j = i then x else l.getD j d := by
 simp only [List.getD_eq_getElem?_getD, List.getElem?_set]
 by_cases h : i = j
 · subst h; simp [hi]
 · rw [if_neg h, if_neg (Ne.symm h)]
theorem Yqq {n : Nat} (h : 1 <= n) : Yeg n (hs0 n) := by
 refine ⟨by simp [hs0], by simp [hs0], fun i hi => ?_, fun i hi hw => ?_, by simp [hs0], by simp [hs0]⟩
 · simp only [hs0]
   rw [Zi _ _ _ _ _ (by simp; omega)]
   split
   · right; decide
   · left; simp [List.getD_eq_getElem?_getD, List.getElem?_replicate, hi]
 · simp only [hs0] at hw ⊢
   rw [Zi _ _ _ _ _ (by simp; omega)] at hw ⊢
   by_cases e : i = 0
   · rw [if_pos e]; decide
   · rw [if_neg e] at hw; simp [List.getD_eq_getElem?_getD, List.getElem?_replicate, hi] at hw
theorem Ztg {fs : List FnP} {fn : FnP} {pl : Nat} {op a h b : Int} (hi : Yzs fs fn op a) (hh : 0 <= h /\ h <= 256) (hs : Zdy fs fn pl op a h = (0, b)) : (0 <= b /\ b <= 256) /\ ∀ n ∈ Ji op a pl, 0 <= n /\ n < fn.2.2.2.length := by
 unfold Zdy at hs
 have hj := hi.jump
 have hc := hi.copy
 have h1 := hi.t0; have h2 := hi.t1; have h3 := hi.g0; have h4 := hi.g1
 by_cases h18 : op = 18
 · rw [if_pos h18] at hs
   by_cases hr : h = fn.2.2.1
   · rw [if_pos hr] at hs
     injection hs with _ hs
     subst hs
     refine ⟨by decide, fun n hn => ?_⟩
     unfold Ji at hn
     rw [if_pos (Or.inr (Or.inr h18))] at hn
     cases hn
   · rw [if_neg hr] at hs; cases hs
 · rw [if_neg h18] at hs
   by_cases hw : h < (if op = 5 then a + 1 else (Yq fs fn.2.2.1 op a).1)
   · rw [if_pos hw] at hs; cases hs
   · rw [if_neg hw] at hs
     by_cases hb : 256 < h - (Yq fs fn.2.2.1 op a).1 + (Yq fs fn.2.2.1 op a).2
     · rw [if_pos hb] at hs; cases hs
     · rw [if_neg hb] at hs
       by_cases ha : (Ji op a pl).any (fun n => decide ((fn.2.2.2.length : Int) <= n)) = true
       · rw [if_pos ha] at hs; cases hs
       · rw [if_neg ha] at hs
         injection hs with _ hs
         have hw2 : (Yq fs fn.2.2.1 op a).1 <= h \/ (op = 5 /\ (Yq fs fn.2.2.1 op a).1 = 0) := by
          by_cases h5 : op = 5
          · right
            refine ⟨h5, ?_⟩
            unfold Yq
            rw [if_neg (by omega), if_neg (by omega), if_neg (by omega), h5]
            rfl
          · rw [if_neg h5] at hw; left; omega
         refine ⟨by omega, fun n hn => ?_⟩
         have hlt : n < (fn.2.2.2.length : Int) := by
          rcases Int.lt_or_le n (fn.2.2.2.length : Int) with h | h
          · exact h
          · exact absurd (List.any_eq_true.2 ⟨n, hn, by simpa using h⟩) ha
         refine ⟨?_, hlt⟩
         unfold Ji at hn
         split at hn
         · cases hn
         · split at hn
           · simp at hn; subst hn
             exact (hj (Or.inl (by assumption))).1
           · split at hn
             · rename_i hq
               have := hj (Or.inr hq.1)
               simp at hn
               rcases hn with rfl | rfl <;> omega
             · simp at hn; omega
theorem Yof {n k : Nat} {b : Int} {h : List Int} {wt : List Bool} {t : Int} (hI : Yeg n ⟨h, wt, t⟩) (hk : k < n) (hb : 0 <= b /\ b <= 256) : Yeg n ⟨h.set k b, wt.set k true, t⟩ := by
 obtain ⟨h1, h2, h3, h4, h5, h6⟩ := hI
 simp only [] at h1 h2 h3 h4 h5 h6
 refine ⟨by simp [h1], by simp [h2], fun i hi => ?_, fun i hi hw => ?_, h5, h6⟩
 · simp only []
   rw [Zi _ _ _ _ _ (by omega)]
   split
   · exact Or.inr hb
   · exact h3 i hi
 · simp only [] at hw ⊢
   rw [Zi _ _ _ _ _ (by omega)] at hw ⊢
   split
   · exact hb.1
   · rename_i hne
     rw [if_neg hne] at hw
     exact h4 i hi hw
theorem Yog {n k : Nat} {h : List Int} {wt : List Bool} {t t' : Int} (hI : Yeg n ⟨h, wt, t⟩) (hk : k < n) (ht : 0 <= t' /\ t' <= 256) : Yeg n ⟨h, wt.set k false, t'⟩ := by
 obtain ⟨h1, h2, h3, h4, h5, h6⟩ := hI
 simp only [] at h1 h2 h3 h4 h5 h6
 refine ⟨h1, by simp [h2], h3, fun i hi hw => ?_, ht.1, ht.2⟩
 simp only [] at hw ⊢
 rw [Zi _ _ _ _ _ (by omega)] at hw
 by_cases e : i = k
 · rw [if_pos e] at hw; cases hw
 · rw [if_neg e] at hw; exact h4 i hi hw
def mI (h : List Int) (wt : List Bool) (i : Nat) : Nat := (if h.getD i 0 = -1 then 2 else 0) + (if wt.getD i false = true then 1 else 0)
def mS (n : Nat) (h : List Int) (wt : List Bool) : Nat := ((List.range n).map (mI h wt)).sum
theorem Yqe {f g : Nat -> Nat} : ∀ (l : List Nat), (∀ i ∈ l, f i <= g i) -> (l.map f).sum <= (l.map g).sum
 | [], _ => Nat.le_refl _
 | x :: r, h => by
   simp only [List.map_cons, List.sum_cons]
   exact Nat.add_le_add (h x (List.mem_cons_self ..)) (Yqe r fun i hi => h i (List.mem_cons_of_mem _ hi))
theorem Yfk {f g : Nat -> Nat} : ∀ (l : List Nat) (j : Nat), j ∈ l -> f j < g j -> (∀ i ∈ l, f i <= g i) -> (l.map f).sum < (l.map g).sum
 | x :: r, j, hj, hlt, h => by
   simp only [List.map_cons, List.sum_cons]
   rcases List.mem_cons.1 hj with rfl | hj
   · have := Yqe r fun i hi => h i (List.mem_cons_of_mem _ hi); omega
   · have := Yfk r j hj hlt fun i hi => h i (List.mem_cons_of_mem _ hi)
     have := h x (List.mem_cons_self ..); omega
theorem Yxp {n k : Nat} {b : Int} {h : List Int} {wt : List Bool} (hl : h.length = n) (hw : wt.length = n) (hk : k < n) (hm : h.getD k 0 = -1) (hb : 0 <= b) : mS n (h.set k b) (wt.set k true) < mS n h wt := by
 refine Yfk _ k (List.mem_range.2 hk) ?_ fun i hi => ?_
 · unfold mI
   rw [Zi _ _ _ _ _ (by omega), Zi _ _ _ _ _ (by omega), if_pos rfl, if_pos rfl, if_pos rfl, if_pos hm, if_neg (by omega)]
   split <;> omega
 · unfold mI
   rw [Zi _ _ _ _ _ (by omega), Zi _ _ _ _ _ (by omega)]
   by_cases e : i = k
   · subst e
     rw [if_pos rfl, if_pos rfl, if_pos rfl, if_pos hm, if_neg (by omega)]
     split <;> omega
   · rw [if_neg e, if_neg e]; exact Nat.le_refl _
theorem Yxq {n k : Nat} {h : List Int} {wt : List Bool} (hw : wt.length = n) (hk : k < n) (hm : wt.getD k false = true) : mS n h (wt.set k false) < mS n h wt := by
 refine Yfk _ k (List.mem_range.2 hk) ?_ fun i hi => ?_
 · unfold mI
   rw [Zi _ _ _ _ _ (by omega), if_pos rfl, hm]
   simp
 · unfold mI
   rw [Zi _ _ _ _ _ (by omega)]
   by_cases e : i = k
   · subst e; rw [if_pos rfl, hm]; simp
   · rw [if_neg e]; exact Nat.le_refl _
end Go.Proofs.Ytecaolkbllbokaa.CK
namespace Go.Proofs.Ytecaolkbllbokaa.CT
open Go.Proofs.Ytecaolkbllbokaa.TG (Ln Ym Js)
def eff (args : List Int) (op a : Int) : Int × Int :=
 if op = 17 then (args.getD a.toNat 0, 1) else if op = 18 then (1, 0) else if op = 19 then (CK.Yy a.toNat, 1)
 else match CK.Xe op with | some s => (s.2.2.1, s.2.2.2) | none => (0, 0)
structure OkI (args : List Int) (nl op a : Int) : Prop where
 sh : ∃ s, CK.Xe op = some s /\ CK.Zop s.2.1.toNat a = true
 nj : op ≠ 14 /\ op ≠ 15 /\ op ≠ 16 /\ op ≠ 5
 lo : op = 7 \/ op = 8 -> a < nl
 ca : op = 17 -> 0 <= a /\ a < args.length
 sy : op = 19 -> 0 <= a /\ a < 5
structure Yzn (args : List Int) (nl : Int) (H : Nat -> Int) (N p : Nat) (x : Ln) : Prop where
 pend : x.out ≠ 0 -> 0 < x.out /\ x.op = 14 /\ H p = 0
 jump : x.out = 0 -> x.j = true -> (x.op = 14 \/ x.op = 15 \/ x.op = 16) /\ 0 <= (p : Int) + x.a /\ (p : Int) + x.a <= N /\ H ((p : Int) + x.a).toNat = H p - (if x.op = 14 then 0 else 1) /\ (x.op ≠ 14 -> 1 <= H p /\ H (p + 1) = H p - 1 /\ p + 1 <= N)
 line : x.out = 0 -> x.j = false -> OkI args nl x.op x.a /\ (eff args x.op x.a).1 <= H p /\ H p - (eff args x.op x.a).1 + (eff args x.op x.a).2 <= 256 /\ (x.op = 18 -> H p = 1) /\ (x.op ≠ 1 -> x.op ≠ 2 -> x.op ≠ 18 -> H (p + 1) = H p - (eff args x.op x.a).1 + (eff args x.op x.a).2 /\ p + 1 <= N)
structure TyH (args : List Int) (nl : Int) (R : List Ln) (Hs : List Int) (h1 : Int) : Prop where
 len : Hs.length = R.length
 bd : ∀ h ∈ Hs, 0 <= h /\ h <= 256
 ok : ∀ (H : Nat -> Int) (N off : Nat), (∀ i, i <= R.length -> H (off + i) = (Hs ++ [h1]).getD i 0) -> off + R.length <= N -> ∀ (i : Nat) (x : Ln), R[i]? = some x -> Yzn args nl H N (off + i) x
def Ty (args : List Int) (nl : Int) (R : List Ln) (h0 h1 : Int) : Prop := ∃ Hs, TyH args nl R Hs h1 /\ (Hs ++ [h1]).getD 0 0 = h0
def Xad (args : List Int) (nl : Int) (R : List Ln) (h0 h1 : Int) (d : Nat) (hd : Int) : Prop := ∃ Hs, TyH args nl R Hs h1 /\ (Hs ++ [h1]).getD 0 0 = h0 /\ d <= R.length /\ (Hs ++ [h1]).getD d 0 = hd
theorem Yaz (k b : Nat) : ∀ (R : List Ln) (i j : Nat) (y : Ln), R[j]? = some y -> (TG.Xq k b i R)[j]? = some (TG.Zem k b (i + j) y)
 | [], i, j, y, h => by simp at h
 | x :: r, i, 0, y, h => by
   simp at h
   subst h
   rfl
 | x :: r, i, j + 1, y, h => by
   have h' : r[j]? = some y := by simpa using h
   have := Yaz k b r (i + 1) j y h'
   rw [TG.Xq, List.getElem?_cons_succ, this, show i + 1 + j = i + (j + 1) by omega]
section
variable {args : List Int} {nl : Int}
theorem Zmt {R R' : List Ln} {h0 h1 : Int} (h : Ty args nl R h0 h1) (e : R = R') : Ty args nl R' h0 h1 := e ▸ h
theorem Zwm {R : List Ln} {h0 h1 hd : Int} {d : Nat} (h : Xad args nl R h0 h1 d hd) : Ty args nl R h0 h1 := by
 obtain ⟨Hs, a, b, _⟩ := h
 exact ⟨Hs, a, b⟩
theorem Zau {l m : List Int} {i : Nat} (h : i < l.length) : (l ++ m).getD i 0 = l.getD i 0 := by
 rw [List.getD_eq_getElem?_getD, List.getElem?_append_left h, List.getD_eq_getElem?_getD]
theorem Xl {l m : List Int} {i : Nat} : (l ++ m).getD (l.length + i) 0 = m.getD i 0 := by
 rw [List.getD_eq_getElem?_getD, List.getElem?_append_right (by omega), List.getD_eq_getElem?_getD]
 congr 2; omega
theorem Zsf {l m : List Int} : (l ++ m).getD l.length 0 = m.getD 0 0 := Xl (i := 0)
theorem Yqa (h : Int) : Ty args nl [] h h := ⟨[], ⟨rfl, (fun x hx => by cases hx), fun H N off _ _ i x hx => by simp at hx⟩, rfl⟩
theorem Yrq {R1 R2 : List Ln} {H1 H2 : List Int} {h1 h2 : Int} (a : TyH args nl R1 H1 h1) (b : TyH args nl R2 H2 h2) (e : (H2 ++ [h2]).getD 0 0 = h1) : TyH args nl (R1 ++ R2) (H1 ++ H2) h2 := by
 have la := a.len
 have lb := b.len
 refine ⟨by simp [la, lb], fun x hx => (List.mem_append.1 hx).elim (a.bd x) (b.bd x), fun H N off hH hN i x hx => ?_⟩
 rw [List.length_append] at hN hH
 have g2 : ∀ i, i <= R2.length -> H (off + R1.length + i) = (H2 ++ [h2]).getD i 0 := fun i hi => by
  have := hH (R1.length + i) (by omega)
  rw [<- Nat.add_assoc, List.append_assoc, <- la] at this
  rw [<- la, this, Xl]
 by_cases hi : i < R1.length
 · rw [List.getElem?_append_left hi] at hx
   refine a.ok H N off (fun j hj => ?_) (by omega) i x hx
   by_cases hj2 : j < R1.length
   · rw [hH j (by omega), List.append_assoc, Zau (by omega), Zau (by omega)]
   · have ej : j = R1.length := by omega
     subst ej
     have := g2 0 (Nat.zero_le _)
     rw [Nat.add_zero] at this
     rw [this, e, <- la, show (H1 ++ [h1]).getD H1.length 0 = (H1 ++ [h1]).getD (H1.length + 0) 0 from rfl, Xl]
     rfl
 · rw [List.getElem?_append_right (by omega)] at hx
   have := b.ok H N (off + R1.length) g2 (by omega) (i - R1.length) x hx
   rwa [show off + R1.length + (i - R1.length) = off + i by omega] at this
theorem Yfo {H1 H2 : List Int} {h0 h1 h2 : Int} (e1 : (H1 ++ [h1]).getD 0 0 = h0) (e2 : (H2 ++ [h2]).getD 0 0 = h1) : (H1 ++ H2 ++ [h2]).getD 0 0 = h0 := by
 cases H1 with
 | nil =>
   simp only [List.nil_append] at e1 ⊢
   rw [e2]
   simpa using e1
 | cons y r => simpa using e1
theorem Zif {R1 R2 : List Ln} {h0 h1 h2 : Int} (h : Ty args nl R1 h0 h1) (g : Ty args nl R2 h1 h2) : Ty args nl (R1 ++ R2) h0 h2 := by
 obtain ⟨H1, a, e1⟩ := h
 obtain ⟨H2, b, e2⟩ := g
 exact ⟨H1 ++ H2, Yrq a b e2, Yfo e1 e2⟩
theorem Zpk {x y : Ln} {i : Nat} (h : [x][i]? = some y) : i = 0 /\ x = y := by
 cases i with
 | zero => exact ⟨rfl, by simpa using h⟩
 | succ n => simp at h
theorem Zwl {p op a h : Int} (hi : OkI args nl op a) (h18 : op ≠ 18) (ht : (eff args op a).1 <= h) (h0 : 0 <= h) (hm : h <= 256) (hb : h - (eff args op a).1 + (eff args op a).2 <= 256) : Ty args nl [Ym p op a] h (h - (eff args op a).1 + (eff args op a).2) := by
 refine ⟨[h], ⟨rfl, fun x hx => by simp at hx; subst hx; exact ⟨h0, hm⟩, fun H N off hH hN i x hx => ?_⟩, rfl⟩
 obtain ⟨rfl, rfl⟩ := Zpk hx
 have e0 := hH 0 (by simp)
 have e1 := hH 1 (by simp)
 simp at e0 e1 hN
 refine ⟨fun e => absurd rfl e, fun _ e => (by cases e), fun _ _ => ⟨hi, ?_, ?_, fun e => absurd e h18, fun _ _ _ => ⟨?_, ?_⟩⟩⟩
 · simp only [Ym, Nat.add_zero]; rw [e0]; exact ht
 · simp only [Ym, Nat.add_zero]; rw [e0]; exact hb
 · simp only [Ym, Nat.add_zero]; rw [e0, e1]
 · simp; omega
theorem Yfb {p op a h h' : Int} (hi : OkI args nl op a) (hs : op = 2 \/ op = 18) (ht : (eff args op a).1 <= h) (h0 : 0 <= h) (hm : h <= 256) (hb : h - (eff args op a).1 + (eff args op a).2 <= 256) (hr : op = 18 -> h = 1) : Ty args nl [Ym p op a] h h' := by
 refine ⟨[h], ⟨rfl, fun x hx => by simp at hx; subst hx; exact ⟨h0, hm⟩, fun H N off hH hN i x hx => ?_⟩, rfl⟩
 obtain ⟨rfl, rfl⟩ := Zpk hx
 have e0 := hH 0 (by simp)
 simp at e0 hN
 refine ⟨fun e => absurd rfl e, fun _ e => (by cases e), fun _ _ => ⟨hi, ?_, ?_, fun e => ?_, fun q1 q2 q3 => ?_⟩⟩
 · simp only [Ym, Nat.add_zero]; rw [e0]; exact ht
 · simp only [Ym, Nat.add_zero]; rw [e0]; exact hb
 · simp only [Ym, Nat.add_zero] at e ⊢; rw [e0]; exact hr e
 · exfalso
   simp only [Ym] at q1 q2 q3
   rcases hs with h | h
   · exact q2 h
   · exact q3 h
theorem Yro {p n : Int} {ag : Bool} (hn : 0 <= n) : Ty args nl [⟨14, 0, p, false, n + 1, ag⟩] 0 0 := by
 refine ⟨[0], ⟨rfl, fun x hx => by simp at hx; subst hx; decide, fun H N off hH hN i x hx => ?_⟩, rfl⟩
 obtain ⟨rfl, rfl⟩ := Zpk hx
 have e0 := hH 0 (by simp)
 simp at e0
 exact ⟨fun _ => ⟨by simp only []; omega, rfl, by rw [Nat.add_zero]; exact e0⟩, fun e => by simp only [] at e; omega, fun e => by simp only [] at e; omega⟩
theorem Yku {A X : List Ln} {HA HX : List Int} {p op hj h1 : Int} {d : Nat} (a : TyH args nl A HA hj) (b : TyH args nl X HX h1) (hop : op = 14 \/ op = 15 \/ op = 16) (hd : d <= X.length) (ht : (HX ++ [h1]).getD d 0 = hj - (if op = 14 then 0 else 1)) (hf : op ≠ 14 -> 1 <= hj /\ (HX ++ [h1]).getD 0 0 = hj - 1) (h0 : 0 <= hj) (hm : hj <= 256) :
 TyH args nl (A ++ [Js p op ((d : Int) + 1)] ++ X) (HA ++ [hj] ++ HX) h1 := by
 have la := a.len
 have lb := b.len
 refine ⟨by simp [la, lb], fun x hx => ?_, fun H N off hH hN i x hx => ?_⟩
 · rcases List.mem_append.1 hx with hx | hx
   · rcases List.mem_append.1 hx with hx | hx
     · exact a.bd x hx
     · simp at hx; subst hx; exact ⟨h0, hm⟩
   · exact b.bd x hx
 · simp only [List.length_append, List.length_singleton] at hN hH
   have gX : ∀ i, i <= X.length -> H (off + (A.length + 1) + i) = (HX ++ [h1]).getD i 0 := fun i hi => by
    have := hH (A.length + 1 + i) (by omega)
    rw [show off + (A.length + 1) + i = off + (A.length + 1 + i) by omega, this, List.append_assoc, show A.length + 1 + i = (HA ++ [hj]).length + i by simp [la], Xl]
   have gJ : H (off + A.length) = hj := by
    have := hH A.length (by omega)
    rw [this, List.append_assoc, List.append_assoc, <- la, show (HA ++ ([hj] ++ (HX ++ [h1]))).getD HA.length 0 = (HA ++ ([hj] ++ (HX ++ [h1]))).getD (HA.length + 0) 0 from rfl, Xl]
    rfl
   rcases Nat.lt_trichotomy i A.length with hi | hi | hi
   · rw [List.append_assoc, List.getElem?_append_left hi] at hx
     refine a.ok H N off (fun j hj2 => ?_) (by omega) i x hx
     by_cases hj3 : j < A.length
     · rw [hH j (by omega), List.append_assoc, List.append_assoc, Zau (by omega), Zau (by omega)]
     · have ej : j = A.length := by omega
       subst ej
       rw [gJ, <- la, show (HA ++ [hj]).getD HA.length 0 = (HA ++ [hj]).getD (HA.length + 0) 0 from rfl, Xl]
       rfl
   · subst hi
     rw [List.append_assoc, List.getElem?_append_right (Nat.le_refl _), Nat.sub_self] at hx
     simp at hx
     subst hx
     refine ⟨fun e => absurd rfl e, fun _ _ => ⟨hop, ?_, ?_, ?_, fun e => ⟨?_, ?_, ?_⟩⟩, fun _ e => (by cases e)⟩
     · simp only [Js]; omega
     · simp only [Js]; omega
     · simp only [Js]
       rw [show ((((off + A.length : Nat) : Int) + ((d : Int) + 1)).toNat) = off + (A.length + 1) + d by omega, gX d hd, gJ, ht]
       rfl
     · rw [gJ]; exact (hf e).1
     · have := gX 0 (Nat.zero_le _)
       rw [Nat.add_zero] at this
       rw [show off + A.length + 1 = off + (A.length + 1) by omega, this, gJ]
       exact (hf e).2
     · omega
   · rw [List.getElem?_append_right (by simp; omega)] at hx
     simp only [List.length_append, List.length_singleton] at hx
     have := b.ok H N (off + (A.length + 1)) gX (by omega) (i - (A.length + 1)) x hx
     rwa [show off + (A.length + 1) + (i - (A.length + 1)) = off + i by omega] at this
theorem Zms {A X : List Ln} {p op h0 hj hf h1 hd : Int} {d : Nat} (a : Ty args nl A h0 hj) (b : Xad args nl X hf h1 d hd) (hop : op = 14 \/ op = 15 \/ op = 16) (ht : hd = hj - (if op = 14 then 0 else 1)) (hq : op ≠ 14 -> 1 <= hj /\ hf = hj - 1) (hj0 : 0 <= hj) (hm : hj <= 256) :
 Xad args nl (A ++ [Js p op ((d : Int) + 1)] ++ X) h0 h1 (A.length + 1) hf := by
 obtain ⟨HA, a1, a2⟩ := a
 obtain ⟨HX, b1, b2, b3, b4⟩ := b
 refine ⟨HA ++ [hj] ++ HX, Yku a1 b1 hop b3 (by rw [b4, ht]) (fun e => ⟨(hq e).1, by rw [b2]; exact (hq e).2⟩) hj0 hm, ?_, by simp, ?_⟩
 · cases HA with
   | nil => simpa using a2
   | cons y r => simpa using a2
 · rw [List.append_assoc, show A.length + 1 = (HA ++ [hj]).length + 0 by simp [a1.len], Xl, b2]
theorem Yfc {R : List Ln} {h0 h1 : Int} (h : Ty args nl R h0 h1) : Xad args nl R h0 h1 R.length h1 := by
 obtain ⟨Hs, a, b⟩ := h
 refine ⟨Hs, a, b, Nat.le_refl _, ?_⟩
 rw [<- a.len, show (Hs ++ [h1]).getD Hs.length 0 = (Hs ++ [h1]).getD (Hs.length + 0) 0 from rfl, Xl]
 rfl
theorem Ybu {p : Int} {K one : List Ln} (hk : Ty args nl K 0 1) (h1 : Ty args nl one 0 0) : Ty args nl (TG.Zcz p K one [] false) 0 0 := by
 have := Zwm (Zms (p := p) (op := 15) hk (Yfc h1) (Or.inr (Or.inl rfl)) (by decide) (fun _ => ⟨by decide, by decide⟩) (by decide) (by decide))
 exact Zmt this (by simp [TG.Zcz])
theorem Ybt {p : Int} {K one two : List Ln} (hk : Ty args nl K 0 1) (h1 : Ty args nl one 0 0) (h2 : Ty args nl two 0 0) : Ty args nl (TG.Zcz p K one two true) 0 0 := by
 have x := Zms (p := p) (op := 14) h1 (Yfc h2) (Or.inl rfl) (by decide) (fun e => absurd rfl e) (by decide) (by decide)
 have y := Zwm (Zms (p := p) (op := 15) hk x (Or.inr (Or.inl rfl)) (by decide) (fun _ => ⟨by decide, by decide⟩) (by decide) (by decide))
 refine Zmt y ?_
 simp [TG.Zcz]
 congr 1
theorem Ygq (args : List Int) (nl a : Int) : OkI args nl 3 a := ⟨⟨_, rfl, rfl⟩, by decide, fun h => by omega, fun h => by omega, fun h => by omega⟩
theorem Yxi (args : List Int) (nl : Int) : OkI args nl 31 0 := ⟨⟨_, rfl, rfl⟩, by decide, fun h => by omega, fun h => by omega, fun h => by omega⟩
theorem Zzg {p a h : Int} (h0 : 0 <= h) (hm : h + 1 <= 256) : Ty args nl [Ym p 3 a] h (h + 1) := by
 have := Zwl (args := args) (nl := nl) (p := p) (h := h) (Ygq args nl a) (by decide) h0 h0 (by omega) (show h - 0 + 1 <= 256 by omega)
 rwa [show h - (eff args 3 a).1 + (eff args 3 a).2 = h + 1 by show h - 0 + 1 = h + 1; omega] at this
theorem Ywm {p h : Int} (h0 : 0 <= h) (hm : h + 2 <= 256) : Ty args nl [Ym p 31 0] (h + 2) (h + 1) := by
 have := Zwl (args := args) (nl := nl) (p := p) (h := h + 2) (Yxi args nl) (by decide) (show (2 : Int) <= h + 2 by omega) (by omega) (by omega) (show h + 2 - 2 + 1 <= 256 by omega)
 rwa [show h + 2 - (eff args 31 0).1 + (eff args 31 0).2 = h + 1 by show h + 2 - 2 + 1 = h + 1; omega] at this
theorem Zpa {p op non h : Int} {one two : List Ln} (hop : op = 15 \/ op = 16) (h0 : 0 <= h) (hm : h + 2 <= 256) (h1 : Ty args nl one h (h + 1)) (h2 : Ty args nl two h (h + 1)) : Ty args nl (TG.Zcj p op one two non) h (h + 1) := by
 have n1 := Zzg (args := args) (nl := nl) (p := p) (a := 0) (h := h + 1) (by omega) (by omega)
 have e1 := Ywm (args := args) (nl := nl) (p := p) h0 hm
 rw [show h + 1 + 1 = h + 2 by omega] at n1
 have l4 := Zif (Zif (Zif (Zif h2 n1) e1) n1) e1
 have nn := Yfc (Zzg (args := args) (nl := nl) (p := p) (a := non) h0 (by omega))
 have x := Zms (p := p) (op := 14) l4 nn (Or.inl rfl) (by simp) (fun e => absurd rfl e) (by omega) (by omega)
 have y := Zwm (Zms (p := p) (op := op) h1 x (Or.inr hop) (by rcases hop with rfl | rfl <;> simp) (fun _ => ⟨by omega, by omega⟩) (by omega) (by omega))
 refine Zmt y ?_
 simp [TG.Zcj]
 congr 1
theorem Yrp {p : Int} {K B : List Ln} (hk : Ty args nl K 0 1) (hb : Ty args nl B 0 0) : Ty args nl (TG.Zlm p K B) 0 0 := by
 obtain ⟨HK, k1, k2⟩ := hk
 obtain ⟨HB, b1, b2⟩ := hb
 have lk := k1.len
 have lb := b1.len
 refine ⟨HK ++ [1] ++ HB ++ [0], ⟨by simp [TG.Zlm, TG.Yw, lk, lb], fun x hx => ?_, fun H N off hH hN i x hx => ?_⟩, ?_⟩
 · rcases List.mem_append.1 hx with hx | hx
   · rcases List.mem_append.1 hx with hx | hx
     · rcases List.mem_append.1 hx with hx | hx
       · exact k1.bd x hx
       · simp at hx; subst hx; decide
     · exact b1.bd x hx
   · simp at hx; subst hx; decide
 · have hlen : (TG.Zlm p K B).length = K.length + 1 + B.length + 1 := by simp [TG.Zlm, TG.Yw]; omega
   rw [hlen] at hN hH
   have gB : ∀ i, i <= B.length -> H (off + (K.length + 1) + i) = (HB ++ [0]).getD i 0 := fun i hi => by
    have := hH (K.length + 1 + i) (by omega)
    rw [show off + (K.length + 1) + i = off + (K.length + 1 + i) by omega, this]
    rw [show K.length + 1 + i = (HK ++ [1]).length + i by simp [lk], show HK ++ [1] ++ HB ++ [0] ++ [0] = (HK ++ [1]) ++ (HB ++ [0] ++ [0]) by simp, Xl]
    by_cases h : i < (HB ++ [0]).length
    · exact Zau h
    · simp at h; omega
   have gJ : H (off + K.length) = 1 := by
    rw [hH K.length (by omega), show HK ++ [1] ++ HB ++ [0] ++ [0] = HK ++ ([1] ++ HB ++ [0] ++ [0]) by simp, <- lk, Zsf]
    rfl
   have gE : H (off + (K.length + 1 + B.length + 1)) = 0 := by
    rw [hH _ (Nat.le_refl _), show K.length + 1 + B.length + 1 = (HK ++ [1] ++ HB ++ [0]).length + 0 by simp [lk, lb]; omega, Xl]
    rfl
   have gL : H (off + (K.length + 1 + B.length)) = 0 := by
    have := gB B.length (Nat.le_refl _)
    rw [show off + (K.length + 1) + B.length = off + (K.length + 1 + B.length) by omega] at this
    rw [this, <- lb, Zsf]
    rfl
   have g0 : H off = 0 := by
    have := hH 0 (by omega)
    rw [Nat.add_zero] at this
    rw [this]
    cases HK with
    | nil => simp at k2
    | cons y r => simpa using k2
   have hx' : ((K ++ [Js p 15 ((B.length : Int) + 2)]) ++ TG.Xq K.length B.length 0 B ++ [Js p 14 (-(K.length : Int) - 1 - (B.length : Int))])[i]? = some x := by simpa [TG.Zlm] using hx
   rcases (by omega : i < K.length \/ i = K.length \/ (K.length < i /\ i < K.length + 1 + B.length) \/ K.length + 1 + B.length <= i) with hi | hi | hi | hi
   · rw [List.append_assoc, List.append_assoc, List.getElem?_append_left hi] at hx'
     refine k1.ok H N off (fun j hj => ?_) (by omega) i x hx'
     by_cases hj2 : j < K.length
     · rw [hH j (by omega), show HK ++ [1] ++ HB ++ [0] ++ [0] = HK ++ ([1] ++ HB ++ [0] ++ [0]) by simp, Zau (by omega), Zau (by omega)]
     · have ej : j = K.length := by omega
       subst ej
       rw [gJ, <- lk, Zsf]
       rfl
   · subst hi
     rw [List.append_assoc, List.append_assoc, List.getElem?_append_right (Nat.le_refl _), Nat.sub_self] at hx'
     simp at hx'
     subst hx'
     refine ⟨fun e => absurd rfl e, fun _ _ => ⟨Or.inr (Or.inl rfl), ?_, ?_, ?_, fun e => ⟨?_, ?_, ?_⟩⟩, fun _ e => (by cases e)⟩
     · simp only [Js]; omega
     · simp only [Js]; omega
     · simp only [Js]
       rw [show ((((off + K.length : Nat) : Int) + ((B.length : Int) + 2)).toNat) = off + (K.length + 1 + B.length + 1) by omega, gE, gJ]
       rfl
     · rw [gJ]; decide
     · have := gB 0 (Nat.zero_le _)
       rw [Nat.add_zero] at this
       rw [show off + K.length + 1 = off + (K.length + 1) by omega, this, gJ, b2]
       rfl
     · omega
   · obtain ⟨j, rfl⟩ : ∃ j, i = K.length + 1 + j := ⟨i - (K.length + 1), by omega⟩
     have hj : j < B.length := by omega
     obtain ⟨y, hy⟩ : ∃ y, B[j]? = some y := ⟨_, List.getElem?_eq_getElem hj⟩
     rw [List.getElem?_append_left (by simp [TG.Yw]; omega), List.getElem?_append_right (by simp)] at hx'
     have hfl : (TG.Xq K.length B.length 0 B)[j]? = some (TG.Zem K.length B.length j y) := Yaz K.length B.length B 0 j y hy |>.trans (by rw [Nat.zero_add])
     simp only [List.length_append, List.length_singleton] at hx'
     rw [show K.length + 1 + j - (K.length + 1) = j by omega, hfl] at hx'
     injection hx' with hx'
     subst hx'
     have hb := b1.ok H N (off + (K.length + 1)) gB (by omega) j y hy
     rw [show off + (K.length + 1) + j = off + (K.length + 1 + j) by omega] at hb
     unfold TG.Zem
     by_cases h1 : y.out = 1
     · rw [if_pos h1]
       obtain ⟨q1, q2, q3⟩ := hb.pend (by omega)
       refine ⟨fun e => absurd rfl e, fun _ _ => ⟨Or.inl q2, ?_, ?_, ?_, fun e => absurd q2 e⟩, fun _ e => (by cases e)⟩
       · simp only []; cases y.ag <;> simp only [cond_true, cond_false] <;> omega
       · simp only []; cases y.ag <;> simp only [cond_true, cond_false] <;> omega
       · simp only []
         rw [if_pos q2, q3]
         cases y.ag
         · simp only [cond_false]
           rw [show ((((off + (K.length + 1 + j) : Nat) : Int) + ((B.length : Int) + 1 - (j : Int))).toNat) = off + (K.length + 1 + B.length + 1) by omega, gE]; rfl
         · simp only [cond_true]
           rw [show ((((off + (K.length + 1 + j) : Nat) : Int) + (-(K.length : Int) - 1 - (j : Int))).toNat) = off by omega, g0]; rfl
     · rw [if_neg h1]
       by_cases h2 : 0 < y.out
       · rw [if_pos h2]
         obtain ⟨q1, q2, q3⟩ := hb.pend (by omega)
         exact ⟨fun _ => ⟨by simp only []; omega, q2, q3⟩, fun e => by simp only [] at e; omega, fun e => by simp only [] at e; omega⟩
       · rw [if_neg h2]; exact hb
   · rw [List.getElem?_append_right (by simp [TG.Yw]; omega)] at hx'
     simp only [List.length_append, List.length_singleton, TG.Yw] at hx'
     obtain ⟨hi0, rfl⟩ := Zpk hx'
     have ei : i = K.length + 1 + B.length := by omega
     subst ei
     refine ⟨fun e => absurd rfl e, fun _ _ => ⟨Or.inl rfl, ?_, ?_, ?_, fun e => absurd rfl e⟩, fun _ e => (by cases e)⟩
     · simp only [Js]; omega
     · simp only [Js]; omega
     · simp only [Js]
       rw [show ((((off + (K.length + 1 + B.length) : Nat) : Int) + (-(K.length : Int) - 1 - (B.length : Int))).toNat) = off by omega, g0, gL]; rfl
 · cases HK with
   | nil => simp at k2
   | cons y r => simpa using k2
end
open Go.Proofs.Ytecaolkbllbokaa.TG (Ln Ym Js)
section
variable {args : List Int} {nl : Int}
theorem Ziw {p op a h t g : Int} (hi : OkI args nl op a) (h18 : op ≠ 18) (he : eff args op a = (t, g)) (ht : t <= h) (h0 : 0 <= h) (hm : h <= 256) (hb : h - t + g <= 256) : Ty args nl [Ym p op a] h (h - t + g) := by
 have := Zwl (args := args) (nl := nl) (p := p) (h := h) hi h18 (by rw [he]; exact ht) h0 hm (by rw [he]; exact hb)
 rwa [he] at this
theorem Zff {R : List Ln} {h0 h1 h2 : Int} (h : Ty args nl R h0 h1) (e : h1 = h2) : Ty args nl R h0 h2 := e ▸ h
theorem Je (op : Int) (h : ∃ s, CK.Xe op = some s /\ s.2.1 = 0) (nj : op ≠ 14 /\ op ≠ 15 /\ op ≠ 16 /\ op ≠ 5) (h1 : op ≠ 7 /\ op ≠ 8 /\ op ≠ 17 /\ op ≠ 19) : OkI args nl op 0 := by
 obtain ⟨s, h2, h3⟩ := h
 exact ⟨⟨s, h2, by rw [h3]; rfl⟩, nj, fun e => by omega, fun e => by omega, fun e => by omega⟩
theorem Ysq : ∀ m : Nat, m < 46 -> TG.opn m = 1 -> 20 <= m /\ ∃ nm, CK.shapeT[m]? = some (nm, 0, 1, 1) := by
 intro m hm h
 iterate 46 (rcases m with _ | m; · first | exact ⟨by decide, _, rfl⟩ | (exact absurd h (by decide)))
 omega
theorem Yrs : ∀ m : Nat, m < 46 -> TG.opn m = 2 -> 20 <= m /\ ∃ nm, CK.shapeT[m]? = some (nm, 0, 2, 1) := by
 intro m hm h
 iterate 46 (rcases m with _ | m; · first | exact ⟨by decide, _, rfl⟩ | (exact absurd h (by decide)))
 omega
theorem Yji {n : Int} {t : Int} (ht : t = 1 \/ t = 2) (h : TG.opn n = t) : OkI args nl n 0 /\ n ≠ 18 /\ eff args n 0 = (t, 1) := by
 have hn : ¬ (n < 0 \/ 46 <= n) := fun h1 => by rw [TG.Zwy n h1] at h; omega
 obtain ⟨m, rfl⟩ := Int.eq_ofNat_of_zero_le (show 0 <= n by omega)
 have hm : m < 46 := by omega
 have key : 20 <= m /\ ∃ nm, CK.shapeT[m]? = some (nm, 0, t, 1) := by
  rcases ht with rfl | rfl
  · exact Ysq m hm h
  · exact Yrs m hm h
 obtain ⟨h20, nm, hs⟩ := key
 have hso : CK.Xe (m : Int) = some (nm, 0, t, 1) := by
  unfold CK.Xe
  rw [if_pos (by omega), Int.toNat_natCast]; exact hs
 refine ⟨Je _ ⟨_, hso, rfl⟩ ⟨by omega, by omega, by omega, by omega⟩ ⟨by omega, by omega, by omega, by omega⟩, by omega, ?_⟩
 unfold eff
 rw [if_neg (by omega), if_neg (by omega), if_neg (by omega), hso]
theorem Zah {x n e : Int} (he : e ≠ 0) (h : TG.Jb x n e = 0) : 0 <= x /\ x < n := by
 unfold TG.Jb at h
 split at h <;> omega
theorem Zrn {b : Bool} (h : TG.Zlk b = 0) : b = true := by
 unfold TG.Zlk at h
 cases b
 · simp at h
 · rfl
theorem Ylt {nt : Nat} {ts : List (ByteArray × List Int)} {loops k n kc h : Int} {me : Int} (hnl : nl <= 64) (hna : args.length <= 64) (hk : 12 <= k /\ k <= 26) (h23 : k ≠ 23 /\ k ≠ 24) (hn : TG.Zpl nl nt args.length loops k n = 0) (hkc : TG.Zex (args.getD n.toNat 0) k n kc = 0)
 (h0 : 0 <= h) (hc0 : 0 <= kc) (hc : h + kc <= 256) (h1 : h + 1 <= 256) (h22 : k = 22 -> h + 2 <= 256) : Ty args nl (TG.Yxc ts me k n) (h + kc) (h + 1) := by
 unfold TG.Zpl at hn
 unfold TG.Zex at hkc
 have hcs : k = 12 \/ k = 13 \/ k = 14 \/ k = 15 \/ k = 16 \/ k = 17 \/ k = 18 \/ k = 19 \/ k = 20 \/ k = 21 \/ k = 22 \/ k = 25 \/ k = 26 := by omega
 have num : ∀ v : Int, Ty args nl [Ym me 3 v] h (h + 1) := fun v => Zzg h0 h1
 rcases hcs with rfl | rfl | rfl | rfl | rfl | rfl | rfl | rfl | rfl | rfl | rfl | rfl | rfl
 · have : kc = 0 := by simp at hkc; omega
   subst this
   rw [Int.add_zero]; exact num n
 · have : kc = 0 := by simp at hkc; omega
   subst this
   have := Zah (by decide) (show TG.Jb n nl 173 = 0 by simpa using hn)
   rw [Int.add_zero]
   exact Zff (Ziw (op := 7) (a := n) (t := 0) (g := 1) ⟨⟨_, rfl, by simp [CK.Zop, CK.bK]; omega⟩, by decide, fun _ => this.2, fun e => by omega, fun e => by omega⟩ (by decide) rfl (by omega) h0 (by omega) (by omega)) (by omega)
 · have : kc = 0 := by simp at hkc; omega
   subst this
   rw [Int.add_zero]; exact num _
 · have : kc = 0 := by simp at hkc; omega
   subst this
   rw [Int.add_zero]; exact num _
 · have : kc = 0 := by simp at hkc; omega
   subst this
   rw [Int.add_zero]
   exact Zff (Ziw (t := 0) (g := 1) (Je 13 ⟨_, rfl, rfl⟩ (by decide) (by decide)) (by decide) rfl (by omega) h0 (by omega) (by omega)) (by omega)
 · have : kc = 1 := by simp at hkc; omega
   subst this
   exact Zff (Ziw (t := 1) (g := 1) (Je 9 ⟨_, rfl, rfl⟩ (by decide) (by decide)) (by decide) rfl (by omega) (by omega) (by omega) (by omega)) (by omega)
 · have : kc = 1 := by simp at hkc; omega
   subst this
   exact Zff (Ziw (t := 1) (g := 1) (Je 11 ⟨_, rfl, rfl⟩ (by decide) (by decide)) (by decide) rfl (by omega) (by omega) (by omega) (by omega)) (by omega)
 · have : kc = 1 := by simp at hkc; omega
   subst this
   have ho : TG.opn n = 1 := by have := Zrn (by simpa using hn); simpa using this
   obtain ⟨q1, q2, q3⟩ := Yji (args := args) (nl := nl) (Or.inl rfl) ho
   exact Zff (Ziw q1 q2 q3 (by omega) (by omega) (by omega) (by omega)) (by omega)
 · have : kc = 2 := by simp at hkc; omega
   subst this
   have ho : TG.opn n = 2 := by have := Zrn (by simpa using hn); simpa using this
   obtain ⟨q1, q2, q3⟩ := Yji (args := args) (nl := nl) (Or.inr rfl) ho
   exact Zff (Ziw q1 q2 q3 (by omega) (by omega) (by omega) (by omega)) (by omega)
 · have : kc = 2 := by simp at hkc; omega
   subst this
   have ho := Zrn (by simpa using hn)
   have hcase : n = 32 \/ n = 33 \/ n = 41 := by simp at ho; omega
   have x := Zff (Ziw (args := args) (nl := nl) (p := me) (t := 2) (g := 2) (h := h + 2) (Je 6 ⟨_, rfl, rfl⟩ (by decide) (by decide)) (by decide) rfl (by omega) (by omega) (by omega) (by omega)) (show h + 2 - 2 + 2 = h + 2 by omega)
   have y : Ty args nl [Ym me n 0] (h + 2) (h + 1) := by
    rcases hcase with rfl | rfl | rfl
    all_goals
     exact Zff (Ziw (t := 2) (g := 1) (Je _ ⟨_, rfl, rfl⟩ (by decide) (by decide)) (by decide) rfl (by omega) (by omega) (by omega) (by omega)) (by omega)
   exact Zmt (Zif x y) rfl
 · have : kc = 1 := by simp at hkc; omega
   subst this
   have h2 := h22 rfl
   exact Zmt (Zif (Zff (Zzg (p := me) (a := 0) (h := h + 1) (by omega) (by omega)) (show h + 1 + 1 = h + 2 by omega)) (Ywm h0 h2)) rfl
 · have hkc' : kc = args.getD n.toNat 0 := by simp at hkc; simpa using hkc
   have := Zah (by decide) (show TG.Jb n args.length 173 = 0 by simpa using hn)
   refine Zff (Ziw (op := 17) (a := n) (t := kc) (g := 1) ⟨⟨_, rfl, by simp [CK.Zop, CK.bK]; omega⟩, by decide, fun e => by omega, fun _ => this, fun e => by omega⟩ (by decide) (by unfold eff; rw [if_pos rfl, hkc']) (by omega) (by omega) (by omega) (by omega)) (by omega)
 · have hkc' : kc = TG.Yy n.toNat := by simp at hkc; simpa using hkc
   have := Zah (by decide) (show TG.Jb n 5 171 = 0 by simpa using hn)
   refine Zff (Ziw (op := 19) (a := n) (t := kc) (g := 1) ⟨⟨_, rfl, by simp [CK.Zop, CK.bK]; omega⟩, by decide, fun e => by omega, fun e => by omega, fun _ => this⟩ (by decide) (by unfold eff; rw [if_neg (by decide), if_neg (by decide), if_pos rfl, hkc']; rfl) (by omega) (by omega) (by omega) (by omega)) (by omega)
theorem Ygn {nt : Nat} {ts : List (ByteArray × List Int)} {loops k n kc : Int} {me : Int} (hnl : nl <= 64) (hk : k = 2 \/ k = 3 \/ k = 4 \/ k = 9 \/ k = 10 \/ k = 11) (hn : TG.Zpl nl nt args.length loops k n = 0) (hkc : TG.Zex (args.getD n.toNat 0) k n kc = 0) : Ty args nl (TG.Yxc ts me k n) kc 0 := by
 unfold TG.Zpl at hn
 unfold TG.Zex at hkc
 rcases hk with rfl | rfl | rfl | rfl | rfl | rfl
 · have : kc = 1 := by simp at hkc; omega
   subst this
   have := Zah (by decide) (show TG.Jb n nl 173 = 0 by simpa using hn)
   exact Zff (Ziw (op := 8) (a := n) (t := 1) (g := 0) ⟨⟨_, rfl, by simp [CK.Zop, CK.bK]; omega⟩, by decide, fun _ => this.2, fun e => by omega, fun e => by omega⟩ (by decide) rfl (by omega) (by omega) (by omega) (by omega)) (by omega)
 · have : kc = 2 := by simp at hkc; omega
   subst this
   exact Zff (Ziw (t := 2) (g := 0) (Je 10 ⟨_, rfl, rfl⟩ (by decide) (by decide)) (by decide) rfl (by omega) (by omega) (by omega) (by omega)) (by omega)
 · have : kc = 2 := by simp at hkc; omega
   subst this
   exact Zff (Ziw (t := 2) (g := 0) (Je 12 ⟨_, rfl, rfl⟩ (by decide) (by decide)) (by decide) rfl (by omega) (by omega) (by omega) (by omega)) (by omega)
 · have : kc = 1 := by simp at hkc; omega
   subst this
   exact Yfb (op := 18) (a := 0) (Je 18 ⟨_, rfl, rfl⟩ (by decide) (by decide)) (Or.inr rfl) (Int.le_refl 1) (by decide) (by decide) (show (1 : Int) - 1 + 0 <= 256 by decide) (fun _ => rfl)
 · have : kc = 1 := by simp at hkc; omega
   subst this
   exact Zff (Ziw (t := 1) (g := 0) (Je 4 ⟨_, rfl, rfl⟩ (by decide) (by decide)) (by decide) rfl (by omega) (by omega) (by omega) (by omega)) (by omega)
 · have : kc = 1 := by simp at hkc; omega
   subst this
   exact Yfb (op := 2) (a := 0) (Je 2 ⟨_, rfl, rfl⟩ (by decide) (by decide)) (Or.inl rfl) (Int.le_refl 1) (by decide) (by decide) (show (1 : Int) - 1 + 0 <= 256 by decide) (fun e => by cases e)
theorem Zkn {L : Nat -> List Ln} {S : Nat -> Nat} : ∀ (r : Nat) (a : Nat) (h : Int), (∀ j, j < r -> Ty args nl (L (TG.Zas S j a)) (h + j) (h + j + 1)) -> Ty args nl (TG.Zlb L S r a) h (h + r)
 | 0, a, h, _ => Zff (Yqa h) (by simp)
 | r + 1, a, h, hk => by
   have h1 := hk 0 (by omega)
   have h2 := Zkn r (S a) (h + 1) (fun j hj => by
    have := hk (j + 1) (by omega)
    rw [show h + ((j + 1 : Nat) : Int) = h + 1 + j by omega] at this
    exact this)
   simp only [TG.Zas, Int.natCast_zero, Int.add_zero] at h1
   exact Zff (Zif h1 h2) (by omega)
theorem Znm {L : Nat -> List Ln} {S : Nat -> Nat} : ∀ (r : Nat) (a : Nat), (∀ j, j < r -> Ty args nl (L (TG.Zas S j a)) 0 0) -> Ty args nl (TG.Zlb L S r a) 0 0
 | 0, a, _ => Yqa 0
 | r + 1, a, hk => Zif (hk 0 (by omega)) (Znm r (S a) (fun j hj => hk (j + 1) (by omega)))
structure Yvs (args : List Int) (nl : Int) (L : Nat -> List Ln) (S : Nat -> Nat) (what : Int) (s : TG.St) (q : Int × Int × TG.St) : Prop where
 w0 : 0 <= q.1
 m0 : s.m <= q.2.2.m
 wm : q.1 <= q.2.2.m
 a : q.2.2.a = S s.a
 l : q.2.2.l = s.l
 w1 : what = 2 -> 1 <= q.1
 word : what = 2 -> ∀ h : Int, 0 <= h -> h + q.1 <= 256 -> Ty args nl (L s.a) h (h + 1)
 doing : what ≠ 2 -> q.2.2.m <= 256 -> Ty args nl (L s.a) 0 0
structure Xcf (args : List Int) (nl : Int) (L : Nat -> List Ln) (S : Nat -> Nat) (k : Int) (r i : Nat) (s : TG.St) (ws : List Int) (q : List Int × Int × TG.St) : Prop where
 m0 : s.m <= q.2.2.m
 len : q.1.length = ws.length + r
 old : ∀ j, j < ws.length -> q.1.getD j 0 = ws.getD j 0
 a : q.2.2.a = TG.Zas S r s.a
 l : q.2.2.l = s.l
 kid : ∀ j : Nat, j < r -> 0 <= q.1.getD (ws.length + j) 0 /\ q.1.getD (ws.length + j) 0 <= q.2.2.m /\ (TG.Zdr k (i + j : Nat) = 2 -> 1 <= q.1.getD (ws.length + j) 0) /\ (TG.Zdr k (i + j : Nat) = 2 -> ∀ h : Int, 0 <= h -> h + q.1.getD (ws.length + j) 0 <= 256 -> Ty args nl (L (TG.Zas S j s.a)) h (h + 1)) /\ (TG.Zdr k (i + j : Nat) ≠ 2 -> q.2.2.m <= 256 -> Ty args nl (L (TG.Zas S j s.a)) 0 0)
theorem Yhc {P : Int -> TG.St -> Int × Int × TG.St} {L : Nat -> List Ln} {S : Nat -> Nat} {k : Int} {m : Nat} (IH : ∀ what s (m' : Nat), (P what s).2.1 = 0 -> s.l = (m' : Int) -> m' <= m + 1 -> Yvs args nl L S what s (P what s)) :
 ∀ (r i : Nat) (s : TG.St) (ws : List Int), (TG.Zbd P k r i s ws).2.1 = 0 -> s.l = (m : Int) -> Xcf args nl L S k r i s ws (TG.Zbd P k r i s ws)
 | 0, i, s, ws, _, _ => by
   rw [TG.Zhu]
   exact ⟨Int.le_refl _, rfl, fun _ _ => rfl, rfl, rfl, fun j hj => absurd hj (Nat.not_lt_zero _)⟩
 | r + 1, i, s, ws, he, hl => by
   by_cases hb : (P (TG.Zdr k i) (TG.Zv k i s)).2.1 = 0
   · rw [TG.Zdg P k r i s ws hb] at he ⊢
     have haI : (TG.Zv k i s).a = s.a := by unfold TG.Zv; split <;> rfl
     have hmI : (TG.Zv k i s).m = s.m := by unfold TG.Zv; split <;> rfl
     have haO : ∀ s, (TG.Yd k i s).a = s.a := by intro s; unfold TG.Yd; split <;> rfl
     have hmO : ∀ s, (TG.Yd k i s).m = s.m := by intro s; unfold TG.Yd; split <;> rfl
     have C : Yvs args nl L S (TG.Zdr k i) (TG.Zv k i s) (P (TG.Zdr k i) (TG.Zv k i s)) := by
      by_cases c : k = 6 /\ (i : Nat) = 1
      · exact IH _ _ (m + 1) hb (by unfold TG.Zv; rw [if_pos c]; simp only []; omega) (Nat.le_refl _)
      · exact IH _ _ m hb (by unfold TG.Zv; rw [if_neg c]; exact hl) (by omega)
     have hlO : (TG.Yd k i (P (TG.Zdr k i) (TG.Zv k i s)).2.2).l = s.l := by
      have := C.l
      by_cases c : k = 6 /\ (i : Nat) = 1
      · have e1 : (TG.Zv k i s).l = s.l + 1 := by unfold TG.Zv; rw [if_pos c]
        have e2 : ∀ q : TG.St, (TG.Yd k i q).l = q.l - 1 := fun q => by unfold TG.Yd; rw [if_pos c]
        rw [e2]; omega
      · have e1 : (TG.Zv k i s).l = s.l := by unfold TG.Zv; rw [if_neg c]
        have e2 : ∀ q : TG.St, (TG.Yd k i q).l = q.l := fun q => by unfold TG.Yd; rw [if_neg c]
        rw [e2]; omega
     have R := Yhc (k := k) IH r (i + 1) _ _ he (by rw [hlO]; exact hl)
     generalize P (TG.Zdr k i) (TG.Zv k i s) = q at *
     obtain ⟨r1, r2, r3, r4, r5, r6⟩ := R
     generalize TG.Zbd P k r (i + 1) _ _ = T at *
     rw [hmO] at r1
     rw [haO, C.a, haI] at r4
     have hm0 := C.m0
     rw [hmI] at hm0
     refine ⟨by omega, by rw [r2, List.length_append, List.length_singleton]; omega, fun j hj => ?_, r4, by rw [r5, hlO], fun j hj => ?_⟩
     · rw [r3 j (by simp; omega)]
       exact Zau hj
     · rcases Nat.eq_zero_or_pos j with e | e
       · subst e
         have e1 : T.1.getD (ws.length + 0) 0 = q.1 := by
          rw [r3 (ws.length + 0) (by simp), Xl]; rfl
         rw [e1, Nat.add_zero]
         have hw := C.word
         have hd := C.doing
         rw [haI] at hw hd
         exact ⟨C.w0, by have := C.wm; omega, C.w1, hw, fun h1 h2 => hd h1 (by omega)⟩
       · obtain ⟨j', rfl⟩ : ∃ j', j = j' + 1 := ⟨j - 1, by omega⟩
         have := r6 j' (by omega)
         rw [List.length_append, List.length_singleton, haO, C.a, haI] at this
         rw [show ws.length + (j' + 1) = ws.length + 1 + j' by omega, show i + (j' + 1) = i + 1 + j' by omega]
         exact this
   · rw [TG.Zew P k r i s ws hb] at he
     exact absurd he hb
end
open Go.Proofs.Ytecaolkbllbokaa.TG (Ln Ym Js)
theorem Zuk (ws : List Int) : ∀ (k j : Nat), j < k -> (j : Int) + ws.getD j 0 <= TG.Zcr ws k
 | 0, j, h => absurd h (Nat.not_lt_zero _)
 | k + 1, j, h => by
   rw [TG.Zcc]
   by_cases e : j = k
   · subst e; omega
   · have := Zuk ws k j (by omega); omega
theorem Zkm (ws : List Int) : ∀ k : Nat, 1 <= TG.Zcr ws k
 | 0 => by unfold TG.Zcr; omega
 | k + 1 => by have := Zkm ws k; rw [TG.Zcc]; omega
theorem Zys {nl nt : Nat} {args : List Int} {l k n kc what : Int} (h : TG.Xu nl nt args l k n kc what = 0) : 1 <= k /\ k < 27 /\ (TG.Jz k = what \/ (TG.Jz k = 0 /\ what = 1)) /\ TG.Zpl nl nt args.length l k n = 0 /\ TG.Zex (args.getD n.toNat 0) k n kc = 0 := by
 unfold TG.Xu at h
 by_cases h1 : k < 1 \/ 27 <= k
 · rw [if_pos h1] at h; omega
 rw [if_neg h1] at h
 by_cases h2 : TG.Jz k ≠ what /\ ¬ (TG.Jz k = 0 /\ what = 1)
 · rw [if_pos h2] at h; omega
 rw [if_neg h2] at h
 by_cases h3 : TG.Zpl nl nt args.length l k n ≠ 0
 · rw [if_pos h3] at h; exact absurd h h3
 rw [if_neg h3] at h
 refine ⟨by omega, by omega, ?_, by omega, h⟩
 by_cases e : TG.Jz k = what
 · exact Or.inl e
 · right
   exact Classical.not_not.1 (fun h' => h2 ⟨e, h'⟩)
section
variable {nl nt : Nat} {args : List Int} {ts : List (ByteArray × List Int)} {ps : List (Int × Int × Int)}
theorem Ygj (hnl : nl <= 64) (hna : args.length <= 64) (hargs : ∀ x ∈ args, 0 <= x) : ∀ (g : Nat) (what : Int) (s : TG.St) (m : Nat), (TG.Yp nl nt args ps g what s).2.1 = 0 -> s.l = (m : Int) -> m + g <= 1000 ->
 Yvs args nl (TG.Jr ts ps g) (TG.Xc ps g) what s (TG.Yp nl nt args ps g what s)
 | 0, what, s, m, h, hl, hg => by
   exfalso
   unfold TG.Yp at h
   cases hp : ps[s.a]? with
   | none => rw [hp] at h; simp at h
   | some x =>
     obtain ⟨k, n, kc⟩ := x
     rw [hp] at h
     simp only at h
     split at h
     · next h1 => exact h1 h
     · simp at h
 | g + 1, what, s, m, h, hl, hg => by
   obtain ⟨pok, pa, pl⟩ := TG.Zwx nl nt args ps (g + 1) what s m h hl (by omega)
   cases hp : ps[s.a]? with
   | none => rw [TG.Zgp nl nt args ps (g + 1) what s (List.getElem?_eq_none_iff.1 hp)] at h; simp at h
   | some x =>
     obtain ⟨k, n, kc⟩ := x
     by_cases ha : TG.Xu nl nt args s.l k n kc what = 0
     · obtain ⟨R, hR⟩ : ∃ R, TG.Zbd (TG.Yp nl nt args ps g) k kc.toNat 0 ⟨s.a + 1, s.l, s.m⟩ [] = R := ⟨_, rfl⟩
       rw [TG.Zhq nl nt args ps g what s k n kc hp ha R hR] at h pa pl ⊢
       by_cases hr : R.2.1 = 0
       · rw [if_neg (by omega)] at pa pl ⊢
         simp only [] at pa pl
         have KC := Yhc (L := TG.Jr ts ps g) (S := TG.Xc ps g) (nl := (nl : Int)) (k := k) (m := m) (fun what s m' hb hl' hm' => Ygj hnl hna hargs g what s m' hb hl' (by omega)) kc.toNat 0 ⟨s.a + 1, s.l, s.m⟩ [] (by rw [hR]; exact hr) hl
         rw [hR] at KC
         clear h hR
         obtain ⟨k1, k2, hkind, hnum, hkids⟩ := Zys ha
         obtain ⟨c1, c2, c3, c4, c5, c6⟩ := KC
         simp only [List.length_nil, Nat.zero_add] at c1 c2 c3 c4 c5 c6
         have hlen : (R.1.length : Int) = kc.toNat := by omega
         have hkc0 : 0 <= kc := by
          unfold TG.Zex at hkids
          by_cases q1 : k = 1
          · rw [if_pos q1] at hkids; split at hkids <;> omega
          rw [if_neg q1] at hkids
          by_cases q2 : k = 25
          · rw [if_pos q2] at hkids
            have q3 : kc = args.getD n.toNat 0 := by split at hkids <;> omega
            rw [q3, List.getD_eq_getElem?_getD]
            cases hh : args[n.toNat]? with
            | none => simp
            | some y => simp only [Option.getD_some]; exact hargs y (List.mem_of_getElem? hh)
          rw [if_neg q2] at hkids
          by_cases q3 : k = 26
          · rw [if_pos q3] at hkids
            have q4 : kc = TG.Yy n.toNat := by split at hkids <;> omega
            have hn := Zah (by decide) (show TG.Jb n 5 171 = 0 by
             unfold TG.Zpl at hnum
             rw [if_neg (by omega), if_neg (by omega), if_neg (by omega), if_neg (by omega), if_pos q3] at hnum
             exact hnum)
            rw [q4]
            obtain ⟨nn, rfl⟩ := Int.eq_ofNat_of_zero_le hn.1
            have : nn < 5 := by omega
            rw [Int.toNat_natCast]
            revert this; revert nn
            intro nn _ _ _ _ h5
            rcases nn with _ | _ | _ | _ | _ | nn <;> first | decide | omega
          rw [if_neg q3] at hkids
          repeat' split at hkids
          all_goals omega
         have hkcN : ((kc.toNat : Nat) : Int) = kc := Int.toNat_of_nonneg hkc0
         have hw0 : 0 <= TG.Zeh k R.1 := by
          unfold TG.Zeh
          have g0 : ∀ j : Nat, 0 <= R.1.getD j 0 := fun j => by
           by_cases hj : j < kc.toNat
           · exact (c6 j hj).1
           · rw [List.getD_eq_getElem?_getD, List.getElem?_eq_none (by omega)]; exact Int.le_refl _
          have := g0 0; have := g0 1; have := Zkm R.1 R.1.length
          repeat' split
          all_goals omega
         have hlineP : TG.Jr ts ps (g + 1) s.a = (if k = 5 then (if kc = 3 then TG.Zcz s.a (TG.Jr ts ps g (s.a + 1)) (TG.Jr ts ps g (TG.Xc ps g (s.a + 1))) (TG.Jr ts ps g (TG.Xc ps g (TG.Xc ps g (s.a + 1)))) true else TG.Zcz s.a (TG.Jr ts ps g (s.a + 1)) (TG.Jr ts ps g (TG.Xc ps g (s.a + 1))) [] false)
          else if k = 6 then TG.Zlm s.a (TG.Jr ts ps g (s.a + 1)) (TG.Jr ts ps g (TG.Xc ps g (s.a + 1)))
          else if k = 7 \/ k = 8 then [⟨14, 0, s.a, false, n + 1, decide (k = 8)⟩]
          else if k = 23 then TG.Zcj s.a 15 (TG.Jr ts ps g (s.a + 1)) (TG.Jr ts ps g (TG.Xc ps g (s.a + 1))) 0
          else if k = 24 then TG.Zcj s.a 16 (TG.Jr ts ps g (s.a + 1)) (TG.Jr ts ps g (TG.Xc ps g (s.a + 1))) 1
          else TG.Zlb (TG.Jr ts ps g) (TG.Xc ps g) kc.toNat (s.a + 1) ++ TG.Yxc ts s.a k n) := by rw [TG.Jr, hp]
         have hwd : what = 2 -> 1 <= TG.Zeh k R.1 := fun e2 => by
          have hk12 : 12 <= k := by
           rcases hkind with h1 | h1
           · unfold TG.Jz at h1
             repeat' split at h1
             all_goals omega
           · omega
          unfold TG.Zeh
          by_cases q1 : k = 12 \/ k = 13 \/ k = 14 \/ k = 15 \/ k = 16
          · rw [if_pos q1]; omega
          rw [if_neg q1, if_neg (by omega)]
          by_cases q2 : k = 20 \/ k = 21 \/ k = 3 \/ k = 4
          · rw [if_pos q2]
            have hkc : kc = 2 := by
             unfold TG.Zex at hkids
             rw [if_neg (by omega), if_neg (by omega), if_neg (by omega), if_neg (by omega), if_neg (by omega), if_pos (by omega)] at hkids
             split at hkids <;> omega
            have := (c6 1 (by omega)).1
            omega
          rw [if_neg q2]
          by_cases q3 : k = 23 \/ k = 24
          · rw [if_pos q3]; omega
          rw [if_neg q3]
          by_cases q4 : k = 22
          · rw [if_pos q4]; omega
          rw [if_neg q4]
          by_cases q5 : k = 25 \/ k = 26
          · rw [if_pos q5]; exact Zkm _ _
          rw [if_neg q5]
          have hkc : kc = 1 := by
           unfold TG.Zex at hkids
           rw [if_neg (by omega), if_neg (by omega), if_neg (by omega), if_neg (by omega), if_pos (by omega)] at hkids
           split at hkids <;> omega
          refine (c6 0 (by omega)).2.2.1 ?_
          unfold TG.Zdr
          rw [if_neg (by omega), if_neg (by omega)]
         refine ⟨hw0, by simp only []; omega, by simp only []; omega, pa, pl, hwd, fun e2 h h0 hb => ?_, fun e2 hm => ?_⟩
         ·
          subst e2
          simp only [] at hb
          have hk12 : 12 <= k := by
           rcases hkind with h1 | h1
           · unfold TG.Jz at h1
             repeat' split at h1
             all_goals omega
           · omega
          rw [hlineP, if_neg (by omega), if_neg (by omega), if_neg (by omega)]
          by_cases h23 : k = 23 \/ k = 24
          · have hkc : kc = 2 := by
             unfold TG.Zex at hkids
             rw [if_neg (by omega), if_neg (by omega), if_neg (by omega), if_neg (by omega), if_neg (by omega), if_pos (by omega)] at hkids
             split at hkids <;> omega
            subst hkc
            have hw : TG.Zeh k R.1 = max (max (R.1.getD 0 0) (R.1.getD 1 0)) 2 := by
             unfold TG.Zeh
             rw [if_neg (by omega), if_neg (by omega), if_neg (by omega), if_pos h23]
            have q0 := (c6 0 (by decide)).2.2.2.1 (by rcases h23 with rfl | rfl <;> rfl) h h0 (by omega)
            have q1 := (c6 1 (by decide)).2.2.2.1 (by rcases h23 with rfl | rfl <;> rfl) h h0 (by omega)
            simp only [TG.Zas] at q0 q1
            rcases h23 with rfl | rfl
            · rw [if_pos rfl]; exact Zpa (Or.inl rfl) h0 (by omega) q0 q1
            · rw [if_neg (by decide), if_pos rfl]; exact Zpa (Or.inr rfl) h0 (by omega) q0 q1
          · rw [if_neg (by omega), if_neg (by omega)]
            have hkid : ∀ j : Nat, TG.Zdr k (j : Nat) = 2 := fun j => by
             unfold TG.Zdr
             rw [if_neg (by omega), if_neg (by omega)]
            have hb2 : ∀ j : Nat, j < kc.toNat -> h + j + R.1.getD j 0 <= 256 := fun j hj => by
             unfold TG.Zeh at hb
             unfold TG.Zex at hkids
             have hcs : k = 12 \/ k = 13 \/ k = 14 \/ k = 15 \/ k = 16 \/ k = 17 \/ k = 18 \/ k = 19 \/ k = 20 \/ k = 21 \/ k = 22 \/ k = 25 \/ k = 26 := by omega
             by_cases h2 : k = 25 \/ k = 26
             · rw [if_neg (by omega), if_neg (by omega), if_neg (by omega), if_neg (by omega), if_neg (by omega), if_pos h2] at hb
               have := Zuk R.1 R.1.length j (by omega)
               omega
             · rw [if_neg (by omega), if_neg (by omega), if_neg (by omega), if_neg (by omega)] at hkids
               rcases hcs with rfl | rfl | rfl | rfl | rfl | rfl | rfl | rfl | rfl | rfl | rfl | rfl | rfl
               all_goals simp at hkids hb h2
               all_goals first
                | (exfalso; omega)
                | (have ej : j = 0 := by omega
                   subst ej
                   simp only [Int.natCast_zero, Int.add_zero, List.getD_eq_getElem?_getD]
                   omega)
                | (have ej : j = 0 \/ j = 1 := by omega
                   rcases ej with rfl | rfl
                   · simp only [Int.natCast_zero, Int.add_zero, List.getD_eq_getElem?_getD]; omega
                   · simp only [Int.natCast_one, List.getD_eq_getElem?_getD]; omega)
            have hkc : h + kc <= 256 /\ h + 1 <= 256 := by
             have hw1 := hwd rfl
             refine ⟨?_, by omega⟩
             by_cases e : kc = 0
             · omega
             · have hlast := hb2 (kc.toNat - 1) (by omega)
               have hpos := (c6 (kc.toNat - 1) (by omega)).2.2.1 (hkid _)
               omega
            refine Zif (h1 := h + kc) (Zff (Zkn kc.toNat (s.a + 1) h fun j hj => ?_) (by omega)) (Ylt (nt := nt) (loops := s.l) (by omega) hna ⟨hk12, by omega⟩ (by omega) hnum hkids h0 hkc0 hkc.1 hkc.2 (fun e => ?_))
            · exact (c6 j hj).2.2.2.1 (hkid j) (h + j) (by omega) (by have := hb2 j hj; omega)
            · subst e
              unfold TG.Zeh at hb
              simp at hb
              omega
         ·
          simp only [] at hm
          have hk11 : k < 12 := by
           rcases hkind with h1 | h1
           · unfold TG.Jz at h1
             repeat' split at h1
             all_goals omega
           · unfold TG.Jz at h1
             have := h1.1
             repeat' split at this
             all_goals omega
          have hmR : R.2.2.m <= 256 := by omega
          have word0 : ∀ j : Nat, j < kc.toNat -> TG.Zdr k (j : Nat) = 2 -> ∀ h : Int, 0 <= h -> h + R.1.getD j 0 <= 256 -> Ty args nl (TG.Jr ts ps g (TG.Zas (TG.Xc ps g) j (s.a + 1))) h (h + 1) := fun j hj => (c6 j hj).2.2.2.1
          rw [hlineP]
          by_cases h5 : k = 5
          · subst h5
            rw [if_pos rfl]
            have hkc : kc = 2 \/ kc = 3 := by
             unfold TG.Zex at hkids
             simp at hkids
             omega
            have x0 := (c6 0 (by omega)).2.2.2.1 rfl 0 (by decide) (by have := (c6 0 (by omega)).2.1; omega)
            have x1 := (c6 1 (by omega)).2.2.2.2 (by decide) hmR
            simp only [TG.Zas, Int.zero_add] at x0 x1
            rcases hkc with rfl | rfl
            · rw [if_neg (by decide)]; exact Ybu x0 x1
            · have x2 := (c6 2 (by decide)).2.2.2.2 (by decide) hmR
              simp only [TG.Zas] at x2
              rw [if_pos rfl]; exact Ybt x0 x1 x2
          rw [if_neg h5]
          by_cases h6 : k = 6
          · subst h6
            rw [if_pos rfl]
            have hkc : kc = 2 := by
             unfold TG.Zex at hkids
             simp at hkids
             omega
            subst hkc
            have x0 := (c6 0 (by decide)).2.2.2.1 rfl 0 (by decide) (by have := (c6 0 (by decide)).2.1; omega)
            have x1 := (c6 1 (by decide)).2.2.2.2 (by decide) hmR
            simp only [TG.Zas, Int.zero_add] at x0 x1
            exact Yrp x0 x1
          rw [if_neg h6]
          by_cases h7 : k = 7 \/ k = 8
          · rw [if_pos h7]
            have hn := Zah (by decide) (show TG.Jb n s.l 171 = 0 by
             unfold TG.Zpl at hnum
             rw [if_neg (by omega), if_neg (by omega), if_neg (by omega), if_neg (by omega), if_neg (by omega), if_pos h7] at hnum
             exact hnum)
            exact Yro hn.1
          rw [if_neg h7, if_neg (by omega), if_neg (by omega)]
          by_cases h1 : k = 1
          · subst h1
            have e : TG.Yxc ts s.a 1 n = [] := rfl
            rw [e, List.append_nil]
            exact Znm _ _ fun j hj => (c6 j hj).2.2.2.2 (by unfold TG.Zdr; rw [if_pos rfl]; decide) hmR
          · have hd : k = 2 \/ k = 3 \/ k = 4 \/ k = 9 \/ k = 10 \/ k = 11 := by omega
            refine Zif (h1 := kc) (Zff (Zkn kc.toNat (s.a + 1) 0 fun j hj => ?_) (by omega)) (Ygn (nt := nt) (loops := s.l) (by omega) hd hnum hkids)
            refine (c6 j hj).2.2.2.1 ?_ (0 + j) (by omega) ?_
            · unfold TG.Zdr
              rw [if_neg h1, if_neg (by omega)]
            · unfold TG.Zeh at hm
              unfold TG.Zex at hkids
              have hcj := (c6 j hj).2.1
              rcases hd with rfl | rfl | rfl | rfl | rfl | rfl
              all_goals simp at hkids hm
              all_goals first
               | (have ej : j = 0 := by omega
                  subst ej
                  simp only [Int.natCast_zero, Int.add_zero, Int.zero_add, List.getD_eq_getElem?_getD] at hcj ⊢
                  omega)
               | (have ej : j = 0 \/ j = 1 := by omega
                  rcases ej with rfl | rfl
                  · simp only [Int.natCast_zero, Int.add_zero, Int.zero_add, List.getD_eq_getElem?_getD] at hcj ⊢; omega
                  · simp only [Int.natCast_one, Int.zero_add, List.getD_eq_getElem?_getD] at hcj ⊢; omega)
       · rw [if_pos hr] at h
         exact absurd h hr
     · rw [TG.Zet nl nt args ps (g + 1) what s k n kc hp ha] at h
       exact absurd h ha
end
end Go.Proofs.Ytecaolkbllbokaa.CT
namespace Go.Proofs.Ytecaolkbllbokaa.CK
open Go.RowKit Go.Great
def Zir (c : List (Int × Int)) (l : List Nat) : List Nat := l.map fun at_ => match c[at_]? with | some x => x.2.toNat | none => 0
structure St (w0 : World) (bw bx bm B : Nat) (mem : Int) (pd : Option Addr) (nd cd : Nat) (pF : Option Addr) (cF : Nat) (fs : List FnP) (cl : Nat -> List Nat) : Prop where
 bwc : w0.heap[bw]? = some (.cells #[.int .i64 mem, .slice pd nd cd, .slice pF fs.length cF, .pointer (some ⟨bx, 0, none⟩), .map (some bm)] 106 (0, 0))
 ne1 : bw ≠ bx
 ne2 : bm ≠ bx
 lm : bm < w0.heap.size
 hF : Zam w0 B pF fs
 hB : B <= w0.heap.size
 lx : bx < w0.heap.size
 bx_ : B <= bx
 nf : fs.length <= 64
 calls : ∀ f : Nat, f < fs.length -> ∃ (p : Option Addr) (c : Nat), (∀ W : World, W.heap[bm]? = w0.heap[bm]? -> (Instr.lookup 104 (.map (some bm)) (.int .i64 f) false).run Try.prog W = .ok (.slice p (cl f).length c) W) /\
  ∀ (i at_ : Nat), (cl f)[i]? = some at_ -> ∃ b, p = some ⟨b, 0, none⟩ /\ b ≠ bx /\ w0.cell? ⟨b, i, none⟩ = some (.int .i64 at_)
 ok : ∀ (f : Nat) (ar lo r : Int) (c : List (Int × Int)), fs[f]? = some (ar, lo, r, c) -> (cl f).length <= 4096 /\ ∀ at_ ∈ cl f, ∃ a : Nat, c[at_]? = some (17, (a : Int)) /\ a < fs.length
def Xw (fs : List FnP) (cl : Nat -> List Nat) (f : Nat) : List Nat := match fs[f]? with | some fn => Zir fn.2.2.2 (cl f) | none => []
theorem Zby {P : Program} {w : World} {ops : Array Oper} {rest : List Oper} {o : Oper} {a : Act} {Q : Exit -> Act -> World -> Prop}
 (hg : o.guard = none) (m x : Operand) (t : TypeId) (hop : o.op = Op.lookup t m x false) {M X v : Value} (hm : a.eval m = M) (hx : a.eval x = X) (hrun : (Instr.lookup t M X false).run P w = .ok v w) (hK : wpList P ops Q rest (a.put o.dst v) w) :
 wpList P ops Q (o :: rest) a w := by
 refine wpList_plain hg fun K' hK' => ?_
 unfold Oper.wp
 simp [execOp, hop, hm, hx, hrun, Result.andThen]
 exact hK' _ _ hK
structure LvW (w0 w : World) (bx gV n : Nat) (x0 x1 x2 x4 x5 : Value) (V : List Bool) : Prop where
 g : w0.grownBy w (some bx)
 xc : w.heap[bx]? = some (.cells #[x0, x1, x2, .slice (some ⟨gV, 0, none⟩) n n, x4, x5] 57 (0, 0))
 r : w.ownsRow w0.heap.size 4 1 (.slice (some ⟨gV, 0, none⟩) n n) n (V.map Value.bool)
section
variable {w0 w w' : World} {bx gV n : Nat} {x0 x1 x2 x4 x5 : Value} {V : List Bool}
theorem Yai (H : LvW w0 w bx gV n x0 x1 x2 x4 x5 V) : w0.heap.size <= gV /\ gV < w.heap.size := H.r.lt gV rfl
theorem Zfn (H : LvW w0 w bx gV n x0 x1 x2 x4 x5 V) : V.length = n := by have := H.r.1; simpa using this
theorem Ymk (H : LvW w0 w bx gV n x0 x1 x2 x4 x5 V) (k : Nat) (hk : k < n) : w.cell? ⟨gV, k, none⟩ = some (.bool (V.getD k false)) := by
 have hl := Zfn H
 rw [H.r.cellAt k (by omega), List.getElem?_map, List.getD_eq_getElem?_getD, List.getElem?_eq_getElem (by omega : k < V.length)]
 rfl
theorem Ytf (H : LvW w0 w bx gV n x0 x1 x2 x4 x5 V) (hx : bx < w0.heap.size) (k : Nat) (b : Bool) : LvW w0 (w.setCell ⟨gV, k, none⟩ (.bool b)) bx gV n x0 x1 x2 x4 x5 (V.set k b) := by
 have hl := Yai H
 refine ⟨Jc H.g (Zd _ _ _ _) hl.1, Zc H.xc (Zd w gV k (.bool b)) (by intro e; injection e with e; omega), ?_⟩
 rw [List.map_set]
 exact (H.r.stored k (.bool b)).1
end
def Yem (V : List Bool) : Nat := (V.filter fun b => !b).length
theorem Ybd : ∀ (V : List Bool) (k : Nat), V.getD k true = false -> Yem (V.set k true) + 1 = Yem V
 | [], k, h => by simp at h
 | b :: r, 0, h => by simp at h; subst h; simp [Yem]
 | b :: r, k + 1, h => by
   have ih := Ybd r k (by simpa using h)
   unfold Yem at ih ⊢
   rw [List.set_cons_succ]
   cases b
   · simp; omega
   · simp; omega
theorem Yvd {V V' : List Bool} (hl : V.length = V'.length) (h : ∀ x, V.getD x false = true -> V'.getD x false = true) : Yem V' <= Yem V := by
 induction V generalizing V' with
 | nil =>
   cases V' with
   | nil => exact Nat.le_refl _
   | cons b r => simp at hl
 | cons b r ih =>
   cases V' with
   | nil => simp at hl
   | cons b' r' =>
     have i2 := ih (V' := r') (by simpa using hl) (fun x hx => by have := h (x + 1) (by simpa using hx); simpa using this)
     have h0 := h 0
     simp at h0
     unfold Yem at i2 ⊢
     cases b <;> cases b' <;> simp_all <;> omega
inductive CRe (next : Nat -> List Nat) (a : Nat) : Nat -> Prop
 | refl : CRe next a a
 | step {x y : Nat} : CRe next a x -> y ∈ next x -> CRe next a y
theorem Yjb {next : Nat -> List Nat} {a b c : Nat} (h : CRe next a b) (g : CRe next b c) : CRe next a c := by
 induction g with
 | refl => exact h
 | step _ hy ih => exact .step ih hy
def Zwa (w0 w : World) (bx gV : Nat) (x0 x1 x2 x4 x5 : Value) (fs : List FnP) (cl : Nat -> List Nat) (V : List Bool) (f : Nat) (e : Ending) (w' : World) : Prop :=
 (∃ v, e = .returned v) /\ w.grownBy w' (some gV) /\ ∃ V', LvW w0 w' bx gV fs.length x0 x1 x2 x4 x5 V' /\ (∀ x, V.getD x false = true -> V'.getD x false = true) /\ V'.getD f false = true /\
   (∀ x, x < fs.length -> V'.getD x false = true -> V.getD x false = false -> ∀ y ∈ Xw fs cl x, V'.getD y false = true) /\
   (∀ x, x < fs.length -> V'.getD x false = true -> V.getD x false = false -> CRe (Xw fs cl) f x)
theorem Ymy (N : Nat) : ∀ (w0 w : World) (bw bx bm B : Nat) (mem : Int) (pd : Option Addr) (nd cd : Nat) (pF : Option Addr) (cF : Nat) (fs : List FnP) (cl : Nat -> List Nat) (gV : Nat) (x0 x1 x2 x4 x5 : Value) (V : List Bool) (f : Nat)
 (S : St w0 bw bx bm B mem pd nd cd pF cF fs cl) (H : LvW w0 w bx gV fs.length x0 x1 x2 x4 x5 V) (hf : f < fs.length) (hN : Yem V < N),
 Calls Try.prog 61 #[.pointer (some ⟨bw, 0, none⟩), .int .i64 f] w (Zwa w0 w bx gV x0 x1 x2 x4 x5 fs cl V f) := by
 induction N with
 | zero => intro w0 w bw bx bm B mem pd nd cd pF cF fs cl gV x0 x1 x2 x4 x5 V f S H hf hN; omega
 | succ N ih =>
   intro w0 w bw bx bm B mem pd nd cd pF cF fs cl gV x0 x1 x2 x4 x5 V f S H hf hN
   have hlw := Yai H
   have kb := Zc S.bwc H.g (by intro e; injection e with e; exact S.ne1 e.symm)
   have k3 := Cq _ _ 3 _ _ _ kb
   have j3 := Cq _ _ 3 _ _ _ H.xc
   have vf := Ymk H f hf
   have zf := Jk H.r f
   have s1 := (Gs kb)
   have s2 := (Gs H.xc)
   have hfi : (f : Int) < (fs.length : Int) := by omega
   have hlx := S.lx
   cases hV : V.getD f false with
   | true =>
     rw [hV] at vf
     have HH := Hq H
     have HV := Hq hV
     clear S H hV ih
     go_enter Try.func61, Try.ntmps61
     go_wp2
     refine bodyPost_end0 rfl rfl ?_
     exact ⟨⟨_, rfl⟩, Ze _ _, V, HH.out, fun x h => h, HV.out, fun x _ h1 h2 => (by rw [h1] at h2; cases h2), fun x _ h1 h2 => by rw [h1] at h2; cases h2⟩
   | false =>
     rw [hV] at vf
     have H1 := Ytf H hlx f true
     obtain ⟨w1, hw1⟩ : ∃ w1, w1 = w.setCell ⟨gV, f, none⟩ (.bool true) := ⟨_, rfl⟩
     have hg1 : w.grownBy w1 (some gV) := by rw [hw1]; exact Zd _ _ _ _
     rw [<- hw1] at H1
     have HW1 := Hq hw1
     have HG1 := Hq hg1
     have HH1 := Hq H1
     have SS := Hq S
     have HF := Hq hf
     have IH := Hq ih
     have HVV := Hq hV
     obtain ⟨pc, cc, hrun, hcells⟩ := S.calls f hf
     have hl := Zfn H
     have hd := Ybd V f (by rw [List.getD_eq_getElem?_getD] at hV ⊢; rw [List.getElem?_eq_getElem (by omega)] at hV ⊢; simpa using hV)
     have HRUN := Hq hrun
     have HCE := Hq hcells
     obtain ⟨⟨ar, lo, r, c⟩, hfn⟩ : ∃ fn, fs[f]? = some fn := ⟨_, List.getElem?_eq_getElem hf⟩
     obtain ⟨hcl, hok⟩ := S.ok f ar lo r c hfn
     have HFN := Hq hfn
     have HOK := Hq hok
     have HD := Hq (show Yem (V.set f true) < N by omega)
     clear S H hg1 hw1 H1 hrun hcells hfn hok hd ih hV hN
     go_enter Try.func61, Try.ntmps61
     go_upto_region 2 with fail
     clear k3 j3 vf zf kb s1 s2
     rw [<- HW1.out]
     have kb := Zc SS.out.bwc HH1.out.g (by intro e; injection e with e; exact SS.out.ne1 e.symm)
     have k4 := Cq _ _ 4 _ _ _ kb
     have s1 := (Gs kb)
     have hr1 := HRUN.out w1 (HH1.out.g.block bm SS.out.lm (by intro e; injection e with e; exact SS.out.ne2 e))
     have hci : ((cl f).length : Int) <= 4096 := by omega
     clear kb
     go_wp2_with (at_lookup; refine Zby rfl _ _ 104 rfl rfl rfl hr1 ?_)
     clear k4 s1 hr1
     go_loopw [32] (fun i wr => ∃ (k : Nat) (Vk : List Bool), i = .int .i64 k /\ k <= (cl f).length /\ w.grownBy wr (some gV) /\ LvW w0 wr bx gV fs.length x0 x1 x2 x4 x5 Vk /\ (∀ x, (V.set f true).getD x false = true -> Vk.getD x false = true) /\
      (∀ x, x < fs.length -> Vk.getD x false = true -> (V.set f true).getD x false = false -> ∀ y ∈ Xw fs cl x, Vk.getD y false = true) /\ (∀ x, x < fs.length -> Vk.getD x false = true -> (V.set f true).getD x false = false -> CRe (Xw fs cl) f x) /\ (∀ j : Nat, j < k -> ∀ y, (Zir c (cl f))[j]? = some y -> Vk.getD y false = true)) (fun i _ => (cl f).length - (intOf i).toNat)
     case atStart =>
      exact ⟨0, V.set f true, rfl, Nat.zero_le _, HG1.out, HH1.out, fun x h => h, (fun x _ h1 h2 => by rw [h1] at h2; cases h2), (fun x _ h1 h2 => by rw [h1] at h2; cases h2), fun j hj => absurd hj (Nat.not_lt_zero _)⟩
     case round =>
      obtain ⟨k, Vk, rfl, hk, hgk, hW, hsub, hclo, hre, hdone⟩ := hrel
      by_cases hlt : (k : Int) < ((cl f).length : Int)
      · obtain ⟨at_, hat⟩ : ∃ a, (cl f)[k]? = some a := ⟨_, List.getElem?_eq_getElem (by omega)⟩
        obtain ⟨bc, hpc, hbx, hcell⟩ := HCE.out k at_ hat
        obtain ⟨a, hins, ha⟩ := HOK.out at_ (List.mem_of_getElem? hat)
        have ec := hW.g.cell hcell (by intro e; injection e with e; exact hbx e)
        subst hpc
        have sc := World.block_lt_of_cell? _ _ ec
        have kb := Zc SS.out.bwc hW.g (by intro e; injection e with e; exact SS.out.ne1 e.symm)
        have k2 := Cq _ _ 2 _ _ _ kb
        have s1 := (Gs kb)
        have hFr := Yb SS.out.hF hW.g (fun r e => by injection e with e; rw [<- e]; exact SS.out.bx_)
        obtain ⟨bF, oF, hpF, hbF, hcF⟩ := hFr (by omega)
        obtain ⟨-, -, -, pc', cc', e3, hcode⟩ := hcF f ar lo r c HFN.out
        have hat2 := (List.getElem?_eq_some_iff.1 hins).1
        obtain ⟨b', o', hpc', hb', hcc⟩ := hcode (by omega)
        subst hpc'
        obtain ⟨d0, d1⟩ := hcc at_ 17 a hins
        have sF := World.block_lt_of_cell? _ _ e3
        have sb := World.block_lt_of_cell? _ _ d1
        have hai : (at_ : Int) < (c.length : Int) := by omega
        have hdl : Yem Vk <= Yem (V.set f true) := Yvd (by have h1 := Zfn hW; have h2 := Zfn HH1.out; omega) hsub
        have CA := Hq (IH.out _ _ _ _ _ _ _ _ _ _ _ _ _ _ _ _ _ _ _ _ _ _ SS.out hW ha (by have := HD.out; omega))
        have HHW := Hq hW
        have HSUB := Hq hsub
        have HCLO := Hq hclo
        have HRE := Hq hre
        have HDN := Hq hdone
        have HGK := Hq hgk
        have HAT := Hq hat
        have HINS := Hq hins
        clear hW hsub hclo hre hdone hgk hat hins hcell hcc hcode hcF hFr hbx kb hdl ha
        go_wp2_with (go_at_call 61; refine CA.out.mono ?_; rintro e w5 ⟨⟨v5, rfl⟩, g5, V5, H5, sub5, in5, clo5, re5⟩; have HR5 := Hq re5; have HG5 := Hq g5; have HH5 := Hq H5; have HS5 := Hq sub5; have HI5 := Hq in5; have HC5 := Hq clo5; clear g5 H5 sub5 in5 clo5 re5)
        refine ⟨⟨k + 1, V5, by go_num, by omega, Za HGK.out HG5.out, HH5.out, fun x hx => HS5.out x (HSUB.out x hx), fun x hx h1 h2 y hy => ?_, fun x hx h1 h2 => ?_, fun j hj y hy => ?_⟩, by simp [intOf]; omega⟩
        · cases hv : Vk.getD x false with
          | true => exact HS5.out y (HCLO.out x hx hv h2 y hy)
          | false => exact HC5.out x hx h1 hv y hy
        · cases hv : Vk.getD x false with
          | true => exact HRE.out x hx hv h2
          | false =>
            refine Yjb (.step .refl ?_) (HR5.out x hx h1 hv)
            unfold Xw
            simp only [HFN.out]
            refine List.mem_map.2 ⟨at_, List.mem_of_getElem? HAT.out, ?_⟩
            simp only [HINS.out]
            exact Int.toNat_natCast a
        · by_cases e : j = k
          · subst e
            unfold Zir at hy
            rw [List.getElem?_map, HAT.out] at hy
            simp only [Option.map_some, HINS.out, Option.some.injEq] at hy
            rw [<- hy]
            exact HI5.out
          · exact HS5.out y (HDN.out j (by omega) y hy)
      · have hkn : k = (cl f).length := by omega
        have HHW := Hq hW
        have HSUB := Hq hsub
        have HCLO := Hq hclo
        have HRE := Hq hre
        have HDN := Hq hdone
        have HGK := Hq hgk
        clear hW hsub hclo hre hdone hgk
        go_wp2
        refine bodyPost_end0 rfl rfl ?_
        have hlV : (V.set f true).getD f false = true := by
         have h1 := Zfn HH1.out
         rw [Zi _ _ _ _ _ (by simp at h1; omega), if_pos rfl]
        refine ⟨⟨_, rfl⟩, HGK.out, Vk, HHW.out, fun x hx => HSUB.out x ?_, HSUB.out f hlV, fun x hx h1 h2 y hy => ?_, fun x hx h1 h2 => ?_⟩
        · have h1 := Zfn HH1.out
          rw [Zi _ _ _ _ _ (by simp at h1; omega)]
          split
          · rfl
          · exact hx
        · by_cases e : x = f
          · subst e
            unfold Xw at hy
            simp only [HFN.out] at hy
            obtain ⟨j, hj, rfl⟩ := List.getElem_of_mem hy
            refine HDN.out j ?_ _ (List.getElem?_eq_getElem hj)
            unfold Zir at hj
            rw [List.length_map] at hj
            omega
          · refine HCLO.out x hx h1 ?_ y hy
            have h3 := Zfn HH1.out
            rw [Zi _ _ _ _ _ (by simp at h3; have := HF.out; omega), if_neg e]
            exact h2
        · by_cases e : x = f
          · subst e; exact .refl
          · refine HRE.out x hx h1 ?_
            have h3 := Zfn HH1.out
            rw [Zi _ _ _ _ _ (by simp at h3; have := HF.out; omega), if_neg e]
            exact h2
end Go.Proofs.Ytecaolkbllbokaa.CK
