import Derived.Test.YtecaolkbllbokaaMT22
import Derived.Maps.Own
import Derived.Maps.OwnOps
import Derived.Maps.OwnSet
import Derived.Test.YtecaolkbllbokaaMT20
set_option linter.unusedSimpArgs false
set_option linter.unusedVariables false
set_option maxRecDepth 100000
set_option maxHeartbeats 16000000
namespace Go.Proofs.Ytecaolkbllbokaa.CK
structure Fr where
 at_ : Nat
 done : Nat
 ex : List Nat
structure TS where
 num : List Nat
 back : List Nat
 on : List Bool
 inn : List Bool
 S : List Fr
 met : Nat
 fin : List Nat
def Xp : List Fr -> List Nat
 | [] => []
 | f :: r => Xp r ++ f.at_ :: f.ex
section
variable (n : Nat) (next : Nat -> List Nat)
def FOK (fin : List Nat) : Option Nat -> List Fr -> Prop
 | _, [] => True
 | ch, f :: r => (∀ j : Nat, j < f.done -> ∀ y, (next f.at_)[j]? = some y -> y ∈ fin \/ ch = some y) /\ FOK fin (some f.at_) r
def Zsw : List Nat -> Prop
 | [] => True
 | x :: r => (∀ y ∈ next x, y ∈ r) /\ Zsw r
structure Xcj (s : TS) : Prop where
 fr : ∀ f ∈ s.S, f.ex = [] /\ s.back.getD f.at_ 0 = s.num.getD f.at_ 0
 ent : ∀ x, x < n -> s.num.getD x 0 ≠ 0 -> x ∈ Xp s.S \/ x ∈ s.fin
 fok : FOK next s.fin none s.S
 fin : Zsw next s.fin
def Xci (s : TS) : Prop := (∃ x, x < n /\ s.inn.getD x false = true) \/ ∃ f ∈ s.S, f.ex ≠ [] \/ s.back.getD f.at_ 0 < s.num.getD f.at_ 0
def Zxs (num : List Nat) : List Fr -> Prop
 | [] => True
 | [f] => num.getD f.at_ 0 = 1
 | f :: g :: r => num.getD g.at_ 0 < num.getD f.at_ 0 /\ Zxs num (g :: r)
structure Zmi (s : TS) : Prop where
 l1 : s.num.length = n
 l2 : s.back.length = n
 l3 : s.on.length = n
 l4 : s.inn.length = n
 fr : ∀ f ∈ s.S, f.done <= (next f.at_).length
 lt : ∀ x ∈ Xp s.S, x < n
 nd : (Xp s.S).Nodup
 onr : ∀ x, x < n -> (s.on.getD x false = true ↔ x ∈ Xp s.S)
 num : ∀ x ∈ Xp s.S, 1 <= s.num.getD x 0 /\ s.num.getD x 0 <= s.met
 bk : ∀ x ∈ Xp s.S, 1 <= s.back.getD x 0 /\ s.back.getD x 0 <= s.num.getD x 0
 inc : Zxs s.num s.S
 dc : Xci n s \/ Xcj n next s
 zero : s.num.getD 0 0 ≠ 0
def Zai (num : List Nat) : Nat := ((List.range n).map fun x => if num.getD x 0 = 0 then 4 else 0).sum
def Yru : List Fr -> Nat
 | [] => 0
 | f :: r => ((next f.at_).length + 1 - f.done) + Yru r
def Jq (s : TS) : Nat := Zai n s.num + Yru next s.S
end
theorem Zzm {S : List Fr} {f : Fr} (h : f ∈ S) : f.at_ ∈ Xp S := by
 induction S with
 | nil => cases h
 | cons g r ih =>
   rcases List.mem_cons.1 h with rfl | h
   · simp [Xp]
   · simp [Xp, ih h]
theorem Yin {next : Nat -> List Nat} {fin fin' : List Nat} (hf : ∀ x ∈ fin, x ∈ fin') : ∀ {ch : Option Nat} {S : List Fr}, FOK next fin ch S -> FOK next fin' ch S
 | _, [], _ => trivial
 | _, f :: r, h => ⟨fun j hj y hy => (h.1 j hj y hy).imp (hf y) id, Yin hf h.2⟩
theorem Yio {next : Nat -> List Nat} {fin : List Nat} {x : Nat} (hx : x ∈ fin) : ∀ {S : List Fr}, FOK next fin (some x) S -> FOK next fin none S
 | [], _ => trivial
 | f :: r, h => ⟨fun j hj y hy => (h.1 j hj y hy).elim Or.inl (fun e => by injection e with e; subst e; exact Or.inl hx), h.2⟩
theorem Zt {α : Type} (l : List α) (i j : Nat) (d x : α) (hi : i < l.length) : (l.set i x).getD j d = if j = i then x else l.getD j d := Zi l i j d x hi
theorem Yaq {num : List Nat} {m v : Nat} (hm : m < num.length) : ∀ {S : List Fr}, (∀ f ∈ S, f.at_ ≠ m) -> Zxs num S -> Zxs (num.set m v) S
 | [], _, _ => trivial
 | [f], h, hi => by simp only [Zxs] at hi ⊢; rw [Zt _ _ _ _ _ hm, if_neg (h f (List.mem_cons_self ..))]; exact hi
 | f :: g :: r, h, hi => by
   simp only [Zxs] at hi ⊢
   rw [Zt _ _ _ _ _ hm, if_neg (h g (by simp)), Zt _ _ _ _ _ hm, if_neg (h f (by simp))]
   exact ⟨hi.1, Yaq hm (fun x hx => h x (List.mem_cons_of_mem _ hx)) hi.2⟩
theorem Zhw {num : List Nat} {f f' : Fr} {r : List Fr} (h : f.at_ = f'.at_) (hi : Zxs num (f :: r)) : Zxs num (f' :: r) := by
 cases r with
 | nil => simp only [Zxs] at hi ⊢; rw [<- h]; exact hi
 | cons g r => simp only [Zxs] at hi ⊢; rw [<- h]; exact hi
theorem Zuv {num : List Nat} {f : Fr} {r : List Fr} (hi : Zxs num (f :: r)) : Zxs num r := by
 cases r with
 | nil => trivial
 | cons g r => exact hi.2
theorem Zxr {num : List Nat} : ∀ {f : Fr} {r : List Fr}, Zxs num (f :: r) -> ∀ g ∈ r, num.getD g.at_ 0 < num.getD f.at_ 0
 | f, [], _, g, hg => by cases hg
 | f, g :: r, h, x, hx => by
   rcases List.mem_cons.1 hx with rfl | hx
   · exact h.1
   · exact Nat.lt_trans (Zxr h.2 x hx) h.1
theorem Zjz {n m v : Nat} {num : List Nat} (hl : num.length = n) (hm : m < n) (h0 : num.getD m 0 = 0) (hv : v ≠ 0) : Zai n (num.set m v) + 4 <= Zai n num := by
 unfold Zai
 have key : ∀ l : List Nat, l.Nodup -> m ∈ l -> (l.map fun x => if (num.set m v).getD x 0 = 0 then 4 else 0).sum + 4 <= (l.map fun x => if num.getD x 0 = 0 then 4 else 0).sum := by
  intro l
  induction l with
  | nil => intro _ h; cases h
  | cons x r ih =>
    intro hnd hmem
    have hx := (List.nodup_cons.1 hnd).1
    have hr := (List.nodup_cons.1 hnd).2
    simp only [List.map_cons, List.sum_cons]
    by_cases e : x = m
    · subst e
      have hsame : (r.map fun y => if (num.set x v).getD y 0 = 0 then 4 else 0) = r.map fun y => if num.getD y 0 = 0 then 4 else 0 := by
       refine List.map_congr_left fun y hy => ?_
       have e : (num.set x v).getD y 0 = num.getD y 0 := by rw [Zt _ _ _ _ _ (by omega), if_neg (by intro e; subst e; exact hx hy)]
       rw [e]
      rw [hsame, Zt _ _ _ _ _ (by omega), if_pos rfl, if_neg hv, if_pos h0]
      omega
    · have hm2 : m ∈ r := (List.mem_cons.1 hmem).resolve_left (fun h => e h.symm)
      have := ih hr hm2
      rw [Zt _ _ _ _ _ (by omega), if_neg e]
      omega
 exact key _ List.nodup_range (List.mem_range.2 hm)
section
variable {n : Nat} {next : Nat -> List Nat} {s : TS} {f : Fr} {r : List Fr}
theorem Zcp (f : Fr) (r : List Fr) : Xp (f :: r) = Xp r ++ f.at_ :: f.ex := rfl
theorem Zhs (h : (Xp (f :: r)).Nodup) : (Xp r).Nodup /\ f.at_ ∉ f.ex /\ (∀ x ∈ Xp r, x ≠ f.at_ /\ x ∉ f.ex) /\ f.ex.Nodup := by
 rw [Zcp] at h
 have h1 := List.nodup_append.1 h
 have h2 := List.nodup_cons.1 h1.2.1
 exact ⟨h1.1, h2.1, fun x hx => ⟨fun e => h1.2.2 x hx f.at_ (List.mem_cons_self ..) e, fun e => h1.2.2 x hx x (List.mem_cons_of_mem _ e) rfl⟩, h2.2⟩
theorem Yrv (hn : ∀ x, x < n -> ∀ y ∈ next x, y < n) (hlen : ∀ x, (next x).length <= 2) (I : Zmi n next s) (hS : s.S = f :: r) {m : Nat} (hm : (next f.at_)[f.done]? = some m) (h0 : s.num.getD m 0 = 0) :
 Zmi n next { s with num := s.num.set m (s.met + 1), back := s.back.set m (s.met + 1), on := s.on.set m true, S := ⟨m, 0, []⟩ :: ⟨f.at_, f.done + 1, f.ex⟩ :: r, met := s.met + 1 } /\
 Jq n next { s with num := s.num.set m (s.met + 1), back := s.back.set m (s.met + 1), on := s.on.set m true, S := ⟨m, 0, []⟩ :: ⟨f.at_, f.done + 1, f.ex⟩ :: r, met := s.met + 1 } < Jq n next s := by
 obtain ⟨l1, l2, l3, l4, fr, lt, nd, onr, num, bk, inc, dc, zero⟩ := I
 rw [hS] at fr lt nd onr num bk inc
 have hfm : f.at_ ∈ Xp (f :: r) := by simp [Xp]
 have hfn := lt _ hfm
 have hmn : m < n := hn _ hfn m (List.mem_of_getElem? hm)
 have hdl := (List.getElem?_eq_some_iff.1 hm).1
 have hmr : m ∉ Xp (f :: r) := fun h => by have := (num m h).1; omega
 have hrow : Xp (⟨m, 0, []⟩ :: ⟨f.at_, f.done + 1, f.ex⟩ :: r) = Xp (f :: r) ++ [m] := by simp [Xp]
 have hne : ∀ g ∈ f :: r, g.at_ ≠ m := fun g hg e => hmr (e ▸ Zzm hg)
 refine ⟨⟨by simp [l1], by simp [l2], by simp [l3], l4, fun g hg => ?_, fun x hx => ?_, ?_, fun x hx => ?_, fun x hx => ?_, fun x hx => ?_, ?_, ?_, ?_⟩, ?_⟩
 · rcases List.mem_cons.1 hg with rfl | hg
   · exact Nat.zero_le _
   · rcases List.mem_cons.1 hg with rfl | hg
     · exact hdl
     · exact fr g (List.mem_cons_of_mem _ hg)
 · rw [hrow] at hx
   rcases List.mem_append.1 hx with hx | hx
   · exact lt x hx
   · simp at hx; omega
 · rw [hrow]
   refine List.nodup_append.2 ⟨nd, by simp, fun a ha b hb => ?_⟩
   simp at hb; subst hb
   intro e; subst e; exact hmr ha
 · rw [hrow]
   simp only []
   rw [Zt _ _ _ _ _ (by omega)]
   by_cases e : x = m
   · subst e; simp
   · rw [if_neg e, onr x hx]; simp [e]
 · rw [hrow] at hx
   simp only []
   rw [Zt _ _ _ _ _ (by omega)]
   by_cases e : x = m
   · rw [if_pos e]; omega
   · rw [if_neg e]
     have := num x ((List.mem_append.1 hx).resolve_right (by simpa using e))
     omega
 · rw [hrow] at hx
   simp only []
   rw [Zt _ _ _ _ _ (by omega), Zt _ _ _ _ _ (by omega)]
   by_cases e : x = m
   · rw [if_pos e, if_pos e]; omega
   · rw [if_neg e, if_neg e]
     exact bk x ((List.mem_append.1 hx).resolve_right (by simpa using e))
 · have h0' := Yaq (S := f :: r) (v := s.met + 1) (by omega : m < s.num.length) hne inc
   have h1 := Zhw (f := f) (f' := ⟨f.at_, f.done + 1, f.ex⟩) rfl h0'
   refine ⟨?_, h1⟩
   simp only []
   rw [Zt _ _ _ _ _ (by omega), Zt _ _ _ _ _ (by omega), if_pos rfl, if_neg (hne f (by simp))]
   have := num _ hfm
   omega
 · rcases dc with hd | hc
   · left
     rcases hd with ⟨x, hx, hi⟩ | ⟨g, hg, hg2⟩
     · exact Or.inl ⟨x, hx, hi⟩
     · right
       rw [hS] at hg
       have hgm := hne g hg
       rcases List.mem_cons.1 hg with rfl | hg'
       · refine ⟨⟨g.at_, g.done + 1, g.ex⟩, by simp, ?_⟩
         simp only []
         rw [Zt _ _ _ _ _ (by omega), Zt _ _ _ _ _ (by omega), if_neg hgm, if_neg hgm]
         exact hg2
       · refine ⟨g, by simp [hg'], ?_⟩
         simp only []
         rw [Zt _ _ _ _ _ (by omega), Zt _ _ _ _ _ (by omega), if_neg hgm, if_neg hgm]
         exact hg2
   · right
     obtain ⟨c1, c2, c3, c4⟩ := hc
     rw [hS] at c1 c2 c3
     refine ⟨fun g hg => ?_, fun x hx h => ?_, ?_, c4⟩
     · simp only []
       rcases List.mem_cons.1 hg with rfl | hg
       · simp only []
         rw [Zt _ _ _ _ _ (by omega), Zt _ _ _ _ _ (by omega), if_pos rfl, if_pos rfl]; simp
       · rcases List.mem_cons.1 hg with rfl | hg
         · have hgm := hne f (by simp)
           simp only []
           rw [Zt _ _ _ _ _ (by omega), Zt _ _ _ _ _ (by omega), if_neg hgm, if_neg hgm]; exact c1 f (by simp)
         · have hgm := hne g (by simp [hg])
           rw [Zt _ _ _ _ _ (by omega), Zt _ _ _ _ _ (by omega), if_neg hgm, if_neg hgm]; exact c1 g (by simp [hg])
     · simp only [] at h
       rw [hrow]
       rw [Zt _ _ _ _ _ (by omega)] at h
       by_cases e : x = m
       · left; simp [e]
       · rw [if_neg e] at h
         rcases c2 x hx h with h | h
         · left; simp [h]
         · right; exact h
     · refine ⟨fun j hj => (Nat.not_lt_zero _ hj).elim, ?_, c3.2⟩
       intro j hj y hy
       simp only [] at hj hy
       by_cases e : j = f.done
       · subst e; rw [hm] at hy; injection hy with hy; subst hy; exact Or.inr rfl
       · exact (c3.1 j (by omega) y hy).imp id (fun e => by cases e)
 · simp only []
   rw [Zt _ _ _ _ _ (by omega)]
   split
   · omega
   · exact zero
 · unfold Jq
   simp only [hS, Yru]
   have h1 := Zjz (v := s.met + 1) l1 hmn h0 (by omega)
   have h2 := hlen m
   omega
theorem Yrw (I : Zmi n next s) (hn : ∀ x, x < n -> ∀ y ∈ next x, y < n) (hS : s.S = f :: r) {m : Nat} (hm : (next f.at_)[f.done]? = some m) (h0 : s.num.getD m 0 ≠ 0) (hon : s.on.getD m false = false) :
 Zmi n next { s with S := ⟨f.at_, f.done + 1, f.ex⟩ :: r } /\ Jq n next { s with S := ⟨f.at_, f.done + 1, f.ex⟩ :: r } < Jq n next s := by
 obtain ⟨l1, l2, l3, l4, fr, lt, nd, onr, num, bk, inc, dc, zero⟩ := I
 rw [hS] at fr lt nd onr num bk inc
 have hfn := lt _ (show f.at_ ∈ Xp (f :: r) by simp [Xp])
 have hmn : m < n := hn _ hfn m (List.mem_of_getElem? hm)
 have hdl := (List.getElem?_eq_some_iff.1 hm).1
 have hmr : m ∉ Xp (f :: r) := fun h => by rw [(onr m hmn).2 h] at hon; cases hon
 refine ⟨⟨l1, l2, l3, l4, fun g hg => ?_, lt, nd, onr, num, bk, Zhw (f := f) rfl inc, ?_, zero⟩, ?_⟩
 · rcases List.mem_cons.1 hg with rfl | hg
   · exact hdl
   · exact fr g (List.mem_cons_of_mem _ hg)
 · rcases dc with hd | hc
   · left
     rcases hd with hd | ⟨g, hg, hg2⟩
     · exact Or.inl hd
     · right
       rw [hS] at hg
       rcases List.mem_cons.1 hg with rfl | hg'
       · exact ⟨⟨g.at_, g.done + 1, g.ex⟩, by simp, hg2⟩
       · exact ⟨g, by simp [hg'], hg2⟩
   · right
     obtain ⟨c1, c2, c3, c4⟩ := hc
     rw [hS] at c1 c2 c3
     refine ⟨fun g hg => ?_, c2, ⟨fun j hj y hy => ?_, c3.2⟩, c4⟩
     · rcases List.mem_cons.1 hg with rfl | hg
       · exact c1 f (by simp)
       · exact c1 g (by simp [hg])
     · simp only [] at hj hy
       by_cases e : j = f.done
       · subst e; rw [hm] at hy; injection hy with hy; subst hy
         exact Or.inl ((c2 m hmn h0).resolve_left hmr)
       · exact c3.1 j (by omega) y hy
 · unfold Jq
   simp only [hS, Yru]
   omega
theorem Yqc (I : Zmi n next s) (hn : ∀ x, x < n -> ∀ y ∈ next x, y < n) (hS : s.S = f :: r) {m : Nat} (hm : (next f.at_)[f.done]? = some m) (hon : s.on.getD m false = true) {inn' : List Bool} (hi : inn' = if m = f.at_ then s.inn.set f.at_ true else s.inn) :
 Zmi n next { s with back := s.back.set f.at_ (min (s.back.getD f.at_ 0) (s.num.getD m 0)), inn := inn', S := ⟨f.at_, f.done + 1, f.ex⟩ :: r } /\
 Jq n next { s with back := s.back.set f.at_ (min (s.back.getD f.at_ 0) (s.num.getD m 0)), inn := inn', S := ⟨f.at_, f.done + 1, f.ex⟩ :: r } < Jq n next s := by
 obtain ⟨l1, l2, l3, l4, fr, lt, nd, onr, num, bk, inc, dc, zero⟩ := I
 rw [hS] at fr lt nd onr num bk inc
 have hfm : f.at_ ∈ Xp (f :: r) := by simp [Xp]
 have hfn := lt _ hfm
 have hmn : m < n := hn _ hfn m (List.mem_of_getElem? hm)
 have hdl := (List.getElem?_eq_some_iff.1 hm).1
 have hmr : m ∈ Xp (f :: r) := (onr m hmn).1 hon
 obtain ⟨np1, np2, np3, np4⟩ := Zhs nd
 have hbf := bk _ hfm
 have hbm := num m hmr
 have hil : inn'.length = n := by rw [hi]; split <;> simp [l4]
 have hinn : ∀ x, s.inn.getD x false = true -> inn'.getD x false = true := fun x hx => by
  rw [hi]
  split
  · rw [Zt _ _ _ _ _ (by omega)]
    split
    · rfl
    · exact hx
  · exact hx
 have hself : m = f.at_ -> inn'.getD f.at_ false = true := fun e => by rw [hi, if_pos e, Zt _ _ _ _ _ (by omega), if_pos rfl]
 refine ⟨⟨l1, by simp [l2], l3, hil, fun g hg => ?_, lt, nd, onr, num, fun x hx => ?_, Zhw (f := f) rfl inc, ?_, zero⟩, ?_⟩
 · rcases List.mem_cons.1 hg with rfl | hg
   · exact hdl
   · exact fr g (List.mem_cons_of_mem _ hg)
 · simp only []
   rw [Zt _ _ _ _ _ (by omega)]
   by_cases e : x = f.at_
   · rw [if_pos e, e]; omega
   · rw [if_neg e]; exact bk x hx
 · by_cases hself' : m = f.at_
   · exact Or.inl (Or.inl ⟨f.at_, hfn, hself hself'⟩)
   rcases dc with hd | hc
   · left
     rcases hd with ⟨x, hx, hx2⟩ | ⟨g, hg, hg2⟩
     · exact Or.inl ⟨x, hx, hinn x hx2⟩
     · right
       rw [hS] at hg
       rcases List.mem_cons.1 hg with rfl | hg'
       · refine ⟨⟨g.at_, g.done + 1, g.ex⟩, by simp, hg2.imp id fun h => ?_⟩
         simp only []
         rw [Zt _ _ _ _ _ (by omega), if_pos rfl]; omega
       · refine ⟨g, by simp [hg'], hg2.imp id fun h => ?_⟩
         simp only []
         rw [Zt _ _ _ _ _ (by omega), if_neg (np3 _ (Zzm hg')).1]; exact h
   · left
     right
     obtain ⟨c1, c2, c3, c4⟩ := hc
     rw [hS] at c1
     have hex := (c1 f (by simp)).1
     have hmr2 : m ∈ Xp r := by
      rw [Zcp, hex] at hmr
      simp at hmr
      exact hmr.resolve_right hself'
     have hfl : ∀ S : List Fr, (∀ g ∈ S, g.ex = []) -> ∀ x ∈ Xp S, ∃ g ∈ S, g.at_ = x := by
      intro S
      induction S with
      | nil => intro _ x hx; cases hx
      | cons g t ih =>
        intro h x hx
        rw [Zcp, h g (by simp)] at hx
        rcases List.mem_append.1 hx with hx | hx
        · obtain ⟨g', hg', e⟩ := ih (fun g hg => h g (by simp [hg])) x hx
          exact ⟨g', by simp [hg'], e⟩
        · simp at hx; exact ⟨g, by simp, hx.symm⟩
     obtain ⟨g, hg, hgm⟩ := hfl r (fun g hg => (c1 g (by simp [hg])).1) m hmr2
     have hlt := Zxr inc g hg
     rw [hgm] at hlt
     refine ⟨⟨f.at_, f.done + 1, f.ex⟩, by simp, Or.inr ?_⟩
     simp only []
     rw [Zt _ _ _ _ _ (by omega), if_pos rfl]
     omega
 · unfold Jq
   simp only [hS, Yru]
   omega
theorem Ykz (I : Zmi n next s) (hS : s.S = [f]) : s.back.getD f.at_ 0 = s.num.getD f.at_ 0 := by
 have h1 := I.inc
 have h2 := I.bk f.at_ (by rw [hS]; simp [Xp])
 rw [hS] at h1
 simp only [Zxs] at h1
 omega
theorem Ywo (I : Zmi n next s) {up : Fr} (hS : s.S = f :: up :: r) (hd : f.done = (next f.at_).length) (hb : s.back.getD f.at_ 0 ≠ s.num.getD f.at_ 0) :
 Zmi n next { s with back := s.back.set up.at_ (min (s.back.getD up.at_ 0) (s.back.getD f.at_ 0)), S := ⟨up.at_, up.done, up.ex ++ f.at_ :: f.ex⟩ :: r } /\
 Jq n next { s with back := s.back.set up.at_ (min (s.back.getD up.at_ 0) (s.back.getD f.at_ 0)), S := ⟨up.at_, up.done, up.ex ++ f.at_ :: f.ex⟩ :: r } < Jq n next s := by
 obtain ⟨l1, l2, l3, l4, fr, lt, nd, onr, num, bk, inc, dc, zero⟩ := I
 rw [hS] at fr lt nd onr num bk inc
 have hrow : Xp (⟨up.at_, up.done, up.ex ++ f.at_ :: f.ex⟩ :: r) = Xp (f :: up :: r) := by simp [Xp]
 have hum : up.at_ ∈ Xp (f :: up :: r) := by simp [Xp]
 have hun := lt _ hum
 have hfm : f.at_ ∈ Xp (f :: up :: r) := by simp [Xp]
 have hbf := bk _ hfm
 have hbu := bk _ hum
 refine ⟨⟨l1, by simp [l2], l3, l4, fun g hg => ?_, by rw [hrow]; exact lt, by rw [hrow]; exact nd, by rw [hrow]; exact onr, by rw [hrow]; exact num, fun x hx => ?_, Zhw (f := up) rfl (Zuv inc), ?_, zero⟩, ?_⟩
 · rcases List.mem_cons.1 hg with rfl | hg
   · exact fr up (by simp)
   · exact fr g (by simp [hg])
 · rw [hrow] at hx
   simp only []
   rw [Zt _ _ _ _ _ (by omega)]
   by_cases e : x = up.at_
   · rw [if_pos e, e]; omega
   · rw [if_neg e]; exact bk x hx
 · exact Or.inl (Or.inr ⟨⟨up.at_, up.done, up.ex ++ f.at_ :: f.ex⟩, by simp, Or.inl (by simp)⟩)
 · unfold Jq
   simp only [hS, Yru]
   omega
def Zgh (back : List Nat) (v : Nat) : List Fr -> List Nat
 | [] => back
 | up :: _ => back.set up.at_ (min (back.getD up.at_ 0) v)
theorem Yqb (I : Zmi n next s) (hS : s.S = f :: r) (hd : f.done = (next f.at_).length) (hb : s.back.getD f.at_ 0 = s.num.getD f.at_ 0) {on' inn' : List Bool} (ho1 : on'.length = n) (hi1 : inn'.length = n)
 (ho : ∀ x, x < n -> on'.getD x false = if x = f.at_ \/ x ∈ f.ex then false else s.on.getD x false)
 (hi : ∀ x, x < n -> inn'.getD x false = if x = f.at_ \/ x ∈ f.ex then (s.inn.getD x false || !f.ex.isEmpty) else s.inn.getD x false) :
 Zmi n next { s with back := Zgh s.back (s.back.getD f.at_ 0) r, on := on', inn := inn', S := r, fin := f.at_ :: s.fin } /\
 Jq n next { s with back := Zgh s.back (s.back.getD f.at_ 0) r, on := on', inn := inn', S := r, fin := f.at_ :: s.fin } < Jq n next s := by
 obtain ⟨l1, l2, l3, l4, fr, lt, nd, onr, num, bk, inc, dc, zero⟩ := I
 rw [hS] at fr lt nd onr num bk inc
 obtain ⟨np1, np2, np3, np4⟩ := Zhs nd
 have hfm : f.at_ ∈ Xp (f :: r) := by simp [Xp]
 have hfn := lt _ hfm
 have hsub : ∀ x ∈ Xp r, x ∈ Xp (f :: r) := fun x hx => by rw [Zcp]; simp [hx]
 have hbl : (Zgh s.back (s.back.getD f.at_ 0) r).length = n := by
  cases r with
  | nil => exact l2
  | cons up t => simp [Zgh, l2]
 have hub : ∀ x, (Zgh s.back (s.back.getD f.at_ 0) r).getD x 0 = s.back.getD x 0 \/ ((∃ g ∈ r, g.at_ = x) /\ (Zgh s.back (s.back.getD f.at_ 0) r).getD x 0 = min (s.back.getD x 0) (s.back.getD f.at_ 0)) := by
  intro x
  cases r with
  | nil => exact Or.inl rfl
  | cons up t =>
    have hun : up.at_ < s.back.length := by rw [l2]; exact lt _ (hsub _ (by simp [Xp]))
    simp only [Zgh]
    rw [Zt _ _ _ _ _ hun]
    by_cases e : x = up.at_
    · right; rw [if_pos e]; exact ⟨⟨up, by simp, e.symm⟩, by rw [e]⟩
    · left; rw [if_neg e]
 have hbf := bk _ hfm
 refine ⟨⟨l1, hbl, ho1, hi1, fun g hg => fr g (by simp [hg]), fun x hx => lt x (hsub x hx), np1, fun x hx => ?_, fun x hx => num x (hsub x hx), fun x hx => ?_, Zuv inc, ?_, zero⟩, ?_⟩
 · simp only []
   rw [ho x hx]
   by_cases e : x = f.at_ \/ x ∈ f.ex
   · rw [if_pos e]
     constructor
     · intro h; cases h
     · intro h
       obtain ⟨h1, h2⟩ := np3 x h
       rcases e with e | e
       · exact absurd e h1
       · exact absurd e h2
   · rw [if_neg e, onr x hx, Zcp]
     constructor
     · intro h
       rcases List.mem_append.1 h with h | h
       · exact h
       · exact absurd (List.mem_cons.1 h) e
     · intro h; exact List.mem_append.2 (Or.inl h)
 · simp only []
   have h1 := bk x (hsub x hx)
   rcases hub x with h | ⟨_, h⟩ <;> rw [h] <;> omega
 · rcases dc with hdy | hc
   · left
     rcases hdy with ⟨x, hx, hx2⟩ | ⟨g, hg, hg2⟩
     · refine Or.inl ⟨x, hx, ?_⟩
       simp only []
       rw [hi x hx]
       split
       · rw [hx2]; rfl
       · exact hx2
     · rw [hS] at hg
       rcases List.mem_cons.1 hg with rfl | hg'
       · rcases hg2 with h | h
         · left
           refine ⟨g.at_, hfn, ?_⟩
           simp only []
           rw [hi _ hfn, if_pos (Or.inl rfl)]
           cases he : g.ex with
           | nil => exact absurd he h
           | cons a t => simp
         · omega
       · right
         refine ⟨g, hg', hg2.imp id fun h => ?_⟩
         simp only []
         rcases hub g.at_ with h1 | ⟨_, h1⟩ <;> rw [h1] <;> omega
   · right
     obtain ⟨c1, c2, c3, c4⟩ := hc
     rw [hS] at c1 c2 c3
     have hex := (c1 f (by simp)).1
     refine ⟨fun g hg => ⟨(c1 g (by simp [hg])).1, ?_⟩, fun x hx h => ?_, ?_, ⟨fun y hy => ?_, c4⟩⟩
     · simp only []
       have h2 := (c1 g (by simp [hg])).2
       have h3 := Zxr inc g hg
       rcases hub g.at_ with h1 | ⟨_, h1⟩ <;> rw [h1]
       · exact h2
       · omega
     · rcases c2 x hx h with h | h
       · rw [Zcp, hex] at h
         rcases List.mem_append.1 h with h | h
         · exact Or.inl h
         · simp at h; right; simp [h]
       · right; simp [h]
     · exact Yio (x := f.at_) (by simp) (Yin (fun x hx => by simp [hx]) c3.2)
     · obtain ⟨j, hj, rfl⟩ := List.getElem_of_mem hy
       exact (c3.1 j (by omega) _ (List.getElem?_eq_getElem hj)).elim id (fun e => by cases e)
 · unfold Jq
   simp only [hS, Yru]
   omega
def Yvw (next : Nat -> List Nat) : Prop := ∃ (rank : Nat -> Nat) (T : Nat -> Prop), T 0 /\ ∀ x, T x -> ∀ y ∈ next x, T y /\ rank y < rank x
def rk : List Nat -> Nat -> Nat
 | [], _ => 0
 | z :: r, x => if x ∈ r then rk r x else r.length + 1
theorem Yll : ∀ (l : List Nat) (x : Nat), x ∈ l -> rk l x <= l.length
 | z :: r, x, h => by
   unfold rk
   by_cases e : x ∈ r
   · rw [if_pos e]; have := Yll r x e; simp; omega
   · rw [if_neg e]; simp
theorem Zqu : ∀ {l : List Nat}, Zsw next l -> ∀ x ∈ l, ∀ y ∈ next x, y ∈ l /\ rk l y < rk l x
 | z :: r, h, x, hx, y, hy => by
   by_cases e : x ∈ r
   · obtain ⟨h1, h2⟩ := Zqu h.2 x e y hy
     refine ⟨List.mem_cons_of_mem _ h1, ?_⟩
     unfold rk
     rw [if_pos h1, if_pos e]; exact h2
   · have hxz : x = z := (List.mem_cons.1 hx).resolve_right e
     subst hxz
     have h1 := h.1 y hy
     refine ⟨List.mem_cons_of_mem _ h1, ?_⟩
     unfold rk
     rw [if_pos h1, if_neg e]
     have := Yll r y h1
     omega
theorem Xan (h1 : 0 < n) (I : Zmi n next s) (hS : s.S = []) (hno : ∀ x, x < n -> s.inn.getD x false = false) : Yvw next := by
 rcases I.dc with hd | hc
 · exfalso
   rcases hd with ⟨x, hx, hx2⟩ | ⟨g, hg, _⟩
   · rw [hno x hx] at hx2; cases hx2
   · rw [hS] at hg; cases hg
 · have h0 := hc.ent 0 h1 I.zero
   rw [hS] at h0
   have h0 : 0 ∈ s.fin := h0.resolve_left (by simp [Xp])
   exact ⟨rk s.fin, fun x => x ∈ s.fin, h0, fun x hx y hy => Zqu hc.fin x hx y hy⟩
end
open Go.RowKit Go.Great
structure AgW (w0 w : World) (bx gU n : Nat) (U : List Int) : Prop where
 g : w0.grownBy w (some bx)
 r : w.ownsRow w0.heap.size 3 1 (.slice (some ⟨gU, 0, none⟩) n n) n (U.map (Value.int .i64))
 v : ∀ x, U.getD x 0 = 0 \/ U.getD x 0 = 1 \/ U.getD x 0 = 2
section
variable {w0 w w' : World} {bx gU n : Nat} {U : List Int}
theorem Zvv (H : AgW w0 w bx gU n U) : w0.heap.size <= gU /\ gU < w.heap.size := H.r.lt gU rfl
theorem Zsr (H : AgW w0 w bx gU n U) : U.length = n := by have := H.r.1; simpa using this
theorem Ybk (H : AgW w0 w bx gU n U) (k : Nat) (hk : k < n) : w.cell? ⟨gU, k, none⟩ = some (.int .i64 (U.getD k 0)) := by
 have hl := Zsr H
 rw [H.r.cellAt k (by omega), List.getElem?_map, List.getD_eq_getElem?_getD, List.getElem?_eq_getElem (by omega : k < U.length)]
 rfl
theorem Yjw (H : AgW w0 w bx gU n U) (k : Nat) (hk : k < n) (b : Int) (hb : b = 1 \/ b = 2) : AgW w0 (w.setCell ⟨gU, k, none⟩ (.int .i64 b)) bx gU n (U.set k b) := by
 have hl := Zvv H
 have hn := Zsr H
 refine ⟨Jc H.g (Zd _ _ _ _) hl.1, ?_, fun x => ?_⟩
 · rw [List.map_set]
   exact (H.r.stored k (.int .i64 b)).1
 · rw [Zi _ _ _ _ _ (by omega)]
   split
   · omega
   · exact H.v x
end
def zer (U : List Int) : Nat := (U.filter fun b => b == 0).length
theorem Yep : ∀ (U : List Int) (k : Nat), k < U.length -> U.getD k 0 = 0 -> zer (U.set k 1) + 1 = zer U
 | [], k, h, _ => by simp at h
 | b :: r, 0, _, h => by simp at h; subst h; simp [zer]
 | b :: r, k + 1, hl, h => by
   have ih := Yep r k (by simpa using hl) (by simpa using h)
   unfold zer at ih ⊢
   rw [List.set_cons_succ]
   by_cases hb : b = 0
   · subst hb; simp; omega
   · have e : (b == 0) = false := by simpa using hb
     simp [List.filter_cons, e]; omega
theorem Ypu : ∀ (U : List Int) (k : Nat) (v : Int), v ≠ 0 -> zer (U.set k v) <= zer U
 | [], k, v, _ => by simp
 | b :: r, 0, v, h => by
   have e : (v == 0) = false := by simpa using h
   simp [zer, List.filter_cons, e]
   split <;> simp
 | b :: r, k + 1, v, h => by
   have ih := Ypu r k v h
   unfold zer at ih ⊢
   rw [List.set_cons_succ]
   simp only [List.filter_cons]
   split
   · simp only [List.length_cons]; omega
   · exact ih
def Yeh (fs : List FnP) (cl : Nat -> List Nat) (U : List Int) (fin : List Nat) : Prop := Zsw (Xw fs cl) fin /\ (∀ x, x < fs.length -> (U.getD x 0 = 2 ↔ x ∈ fin)) /\ (∀ x ∈ fin, x < fs.length) /\ fin.Nodup
def Yzx (w0 w : World) (bx gU : Nat) (fs : List FnP) (cl : Nat -> List Nat) (U : List Int) (fin : List Nat) (f : Nat) (e : Ending) (w' : World) : Prop :=
 ∃ b, e = .returned (.bool b) /\ w.grownBy w' (some gU) /\ (b = false -> ∃ U' fin', AgW w0 w' bx gU fs.length U' /\ Yeh fs cl U' fin' /\ (∀ x ∈ fin, x ∈ fin') /\ f ∈ fin' /\ (∀ x, x < fs.length -> (U'.getD x 0 = 1 ↔ U.getD x 0 = 1)) /\ zer U' <= zer U)
theorem Yjv (N : Nat) : ∀ (w0 w : World) (bw bx bm B : Nat) (mem : Int) (pd : Option Addr) (nd cd : Nat) (pF : Option Addr) (cF : Nat) (fs : List FnP) (cl : Nat -> List Nat) (gU : Nat) (U : List Int) (fin : List Nat) (f : Nat)
 (S : St w0 bw bx bm B mem pd nd cd pF cF fs cl) (H : AgW w0 w bx gU fs.length U) (hI : Yeh fs cl U fin) (hf : f < fs.length) (hN : zer U < N),
 Calls Try.prog 62 #[.pointer (some ⟨bw, 0, none⟩), .int .i64 f, .slice (some ⟨gU, 0, none⟩) fs.length fs.length] w (Yzx w0 w bx gU fs cl U fin f) := by
 induction N with
 | zero => intro w0 w bw bx bm B mem pd nd cd pF cF fs cl gU U fin f S H hI hf hN; omega
 | succ N ih =>
   intro w0 w bw bx bm B mem pd nd cd pF cF fs cl gU U fin f S H hI hf hN
   have hlw := Zvv H
   have vf := Ybk H f hf
   have zf := Jk H.r f
   have hfi : (f : Int) < (fs.length : Int) := by omega
   have sgU := hlw.2
   rcases H.v f with hV | hV | hV
   · rw [hV] at vf
     have H1 := Yjw H f hf 1 (Or.inl rfl)
     obtain ⟨w1, hw1⟩ : ∃ w1, w1 = w.setCell ⟨gU, f, none⟩ (.int .i64 1) := ⟨_, rfl⟩
     have hg1 : w.grownBy w1 (some gU) := by rw [hw1]; exact Zd _ _ _ _
     rw [<- hw1] at H1
     have hl := Zsr H
     have hd := Yep U f (by omega) hV
     have hI1 : Yeh fs cl (U.set f 1) fin := by
      refine ⟨hI.1, fun x hx => ?_, hI.2.2⟩
      rw [Zi _ _ _ _ _ (by omega)]
      by_cases e : x = f
      · subst e
        rw [if_pos rfl]
        constructor
        · intro h; omega
        · intro h
          have := (hI.2.1 x hx).2 h
          omega
      · rw [if_neg e]; exact hI.2.1 x hx
     have HW1 := Hq hw1
     have HG1 := Hq hg1
     have HH1 := Hq H1
     have HI1 := Hq hI1
     have SS := Hq S
     have HF := Hq hf
     have IH := Hq ih
     have HVV := Hq hV
     have HLN := Hq hl
     obtain ⟨pc, cc, hrun, hcells⟩ := S.calls f hf
     have HRUN := Hq hrun
     have HCE := Hq hcells
     obtain ⟨⟨ar, lo, r, c⟩, hfn⟩ : ∃ fn, fs[f]? = some fn := ⟨_, List.getElem?_eq_getElem hf⟩
     obtain ⟨hcl, hok⟩ := S.ok f ar lo r c hfn
     have HFN := Hq hfn
     have HOK := Hq hok
     have HD := Hq (show zer (U.set f 1) < N by omega)
     have HZ := Hq (show zer (U.set f 1) <= zer U by omega)
     clear S H hg1 hw1 H1 hrun hcells hfn hok hd ih hV hN hI hI1 hl
     go_enter Try.func62, Try.ntmps62
     go_upto_region 4 with fail
     clear vf zf
     rw [<- HW1.out]
     have kb := Zc SS.out.bwc HH1.out.g (by intro e; injection e with e; exact SS.out.ne1 e.symm)
     have k4 := Cq _ _ 4 _ _ _ kb
     have s1 := (Gs kb)
     have hr1 := HRUN.out w1 (HH1.out.g.block bm SS.out.lm (by intro e; injection e with e; exact SS.out.ne2 e))
     have hci : ((cl f).length : Int) <= 4096 := by omega
     clear kb
     go_wp2_with (at_lookup; refine Zby rfl _ _ 104 rfl rfl rfl hr1 ?_)
     clear k4 s1 hr1 sgU
     go_loopw [29] (fun i wr => ∃ (k : Nat) (Uk : List Int) (fink : List Nat), i = .int .i64 k /\ k <= (cl f).length /\ w.grownBy wr (some gU) /\ AgW w0 wr bx gU fs.length Uk /\ Yeh fs cl Uk fink /\ (∀ x ∈ fin, x ∈ fink) /\
      (∀ x, x < fs.length -> (Uk.getD x 0 = 1 ↔ (U.set f 1).getD x 0 = 1)) /\ zer Uk <= zer (U.set f 1) /\ (∀ j : Nat, j < k -> ∀ y, (Zir c (cl f))[j]? = some y -> y ∈ fink)) (fun i _ => (cl f).length - (intOf i).toNat)
     case atStart =>
      exact ⟨0, U.set f 1, fin, rfl, Nat.zero_le _, HG1.out, HH1.out, HI1.out, fun x h => h, fun x _ => Iff.rfl, Nat.le_refl _, fun j hj => absurd hj (Nat.not_lt_zero _)⟩
     case round =>
      obtain ⟨k, Uk, fink, rfl, hk, hgk, hW, hInv, hsub, hone, hzer, hdone⟩ := hrel
      by_cases hlt : (k : Int) < ((cl f).length : Int)
      · obtain ⟨at_, hat⟩ : ∃ a, (cl f)[k]? = some a := ⟨_, List.getElem?_eq_getElem (by omega)⟩
        obtain ⟨bc, hpc, hbx, hcell⟩ := HCE.out k at_ hat
        obtain ⟨a, hins, ha⟩ := HOK.out at_ (List.mem_of_getElem? hat)
        have ec := hW.g.cell hcell (by intro e; injection e with e; exact hbx e)
        subst hpc
        have sc := World.block_lt_of_cell? _ _ ec
        have kb := Zc SS.out.bwc hW.g (by intro e; injection e with e; exact SS.out.ne1 e.symm)
        have k2 := Cq _ _ 2 _ _ _ kb
        have s1 := (Gs kb)
        have hFr := Yb SS.out.hF hW.g (fun r e => by injection e with e; rw [<- e]; exact SS.out.bx_)
        obtain ⟨bF, oF, hpF, hbF, hcF⟩ := hFr (by omega)
        obtain ⟨-, -, -, pc', cc', e3, hcode⟩ := hcF f ar lo r c HFN.out
        have hat2 := (List.getElem?_eq_some_iff.1 hins).1
        obtain ⟨b', o', hpc', hb', hcc⟩ := hcode (by omega)
        subst hpc'
        obtain ⟨d0, d1⟩ := hcc at_ 17 a hins
        have sF := World.block_lt_of_cell? _ _ e3
        have sb := World.block_lt_of_cell? _ _ d1
        have hai : (at_ : Int) < (c.length : Int) := by omega
        have CA := Hq (IH.out _ _ _ _ _ _ _ _ _ _ _ _ _ _ _ _ fink _ SS.out hW hInv ha (by have := HD.out; omega))
        have HSUB := Hq hsub
        have HONE := Hq hone
        have HZER := Hq hzer
        have HDN := Hq hdone
        have HGK := Hq hgk
        have HAT := Hq hat
        have HINS := Hq hins
        clear hW hsub hone hzer hInv hdone hgk hat hins hcell hcc hcode hcF hFr hbx kb ha
        go_upto_region 9 with (go_at_call 62; refine CA.out.mono ?_; rintro e w5 ⟨b5, rfl, g5, h5⟩; have HG5 := Hq g5; have HH5 := Hq h5; clear g5 h5; cases b5)
        · obtain ⟨U5, fin5, hw5, hi5, hs5, hin5, ho5, hz5⟩ := HH5.out (by trivial)
          have A1 := Hq hw5
          have A2 := Hq hi5
          have A3 := Hq hs5
          have A4 := Hq hin5
          have A5 := Hq ho5
          have A6 := Hq hz5
          clear hw5 hi5 hs5 hin5 ho5 hz5
          go_wp2
          refine ⟨⟨k + 1, U5, fin5, by go_num, by omega, Za HGK.out HG5.out, A1.out, A2.out, fun x hx => A3.out x (HSUB.out x hx), fun x hx => (A5.out x hx).trans (HONE.out x hx), Nat.le_trans A6.out HZER.out, fun j hj y hy => ?_⟩, by simp [intOf]; omega⟩
          by_cases e : j = k
          · subst e
            unfold Zir at hy
            rw [List.getElem?_map, HAT.out] at hy
            simp only [Option.map_some, HINS.out, Option.some.injEq] at hy
            rw [<- hy]
            exact A4.out
          · exact A3.out y (HDN.out j (by omega) y hy)
        · go_ret
          exact ⟨true, rfl, Za HGK.out HG5.out, fun h => by cases h⟩
      · have hkn : k = (cl f).length := by omega
        have hcw := Zvv hW
        have zf := Jk hW.r f
        have vf := Ybk hW f HF.out
        have H9 := Yjw hW f HF.out 2 (Or.inr rfl)
        have hcg := hcw.2
        have HHW := Hq hW
        have HH9 := Hq H9
        have HINV := Hq hInv
        have HSUB := Hq hsub
        have HONE := Hq hone
        have HZER := Hq hzer
        have HDN := Hq hdone
        have HGK := Hq hgk
        have hlk := Zsr hW
        have HLK := Hq hlk
        clear hW hsub hone hzer hInv hdone hgk H9 hcw hlk
        go_wp2
        go_ret
        refine ⟨false, rfl, Za HGK.out (Zd _ _ _ _), fun _ => ⟨Uk.set f 2, f :: fink, HH9.out, ⟨⟨fun y hy => ?_, HINV.out.1⟩, fun x hx => ?_, fun x hx => ?_, List.nodup_cons.2 ⟨fun h => ?_, HINV.out.2.2.2⟩⟩, fun x hx => List.mem_cons_of_mem _ (HSUB.out x hx), List.mem_cons_self .., fun x hx => ?_, Nat.le_trans (Ypu _ _ _ (by decide)) (Nat.le_trans HZER.out HZ.out)⟩⟩
        · unfold Xw at hy
          simp only [HFN.out] at hy
          obtain ⟨j, hj, rfl⟩ := List.getElem_of_mem hy
          refine HDN.out j ?_ _ (List.getElem?_eq_getElem hj)
          unfold Zir at hj
          rw [List.length_map] at hj
          omega
        · rw [Zi _ _ _ _ _ (by rw [HLK.out]; exact HF.out)]
          by_cases e : x = f
          · subst e; simp
          · rw [if_neg e, HINV.out.2.1 x hx]
            simp [e]
        · rcases List.mem_cons.1 hx with rfl | hx
          · exact HF.out
          · exact HINV.out.2.2.1 x hx
        · have h1 := (HINV.out.2.1 f HF.out).2 h
          have h2 := (HONE.out f HF.out).2 (by rw [Zi _ _ _ _ _ (by rw [HLN.out]; exact HF.out), if_pos rfl])
          omega
        · rw [Zi _ _ _ _ _ (by rw [HLK.out]; exact HF.out)]
          by_cases e : x = f
          · subst e
            rw [if_pos rfl]
            have := HVV.out
            omega
          · rw [if_neg e, HONE.out x hx, Zi _ _ _ _ _ (by rw [HLN.out]; exact HF.out), if_neg e]
   · rw [hV] at vf
     have HG := Hq (Ze w (some gU))
     clear S H ih hI
     go_enter Try.func62, Try.ntmps62
     go_wp2
     go_ret
     exact ⟨true, rfl, HG.out, fun h => by cases h⟩
   · rw [hV] at vf
     have HH := Hq H
     have HI := Hq hI
     have hff := (hI.2.1 f hf).1 hV
     have HFF := Hq hff
     clear S H ih hI hff
     go_enter Try.func62, Try.ntmps62
     go_wp2
     go_ret
     exact ⟨false, rfl, Ze _ _, fun _ => ⟨U, fin, HH.out, HI.out, fun x h => h, HFF.out, fun x _ => Iff.rfl, Nat.le_refl _⟩⟩
open Go.Maps
theorem Yul : Keyed Try.prog 3 := int_keyed Try.underlying3
theorem Yym (w : World) : (zeroValue 3).run Try.prog w = .ok (.int .i64 0) w := by kernel_rfl
theorem Yqm {v : Int} (h : -1000000000000000000 <= v /\ v <= 1000000000000000000) : (Lit.int .i64 v).wf = true := by
 have e1 : IntKind.i64.min = -9223372036854775808 := by decide
 have e2 : IntKind.i64.max = 9223372036854775807 := by decide
 simp only [Lit.wf, e1, e2, Bool.and_eq_true, decide_eq_true_eq]
 omega
theorem Zut {f : Nat} (h : f < 1000000000) : keyOf Try.prog 3 (.int .i64 (f : Int)) = some (.int .i64 (f : Int)) := keyOf_int_mk Try.underlying3 (Yqm (by omega))
def Xac (kn : Nat -> Option Int) (nf : Nat) : Nat := ((List.range nf).filter fun f => (kn f).isSome).length
def Ziv (kn : Nat -> Option Int) (f : Nat) (v : Int) : Nat -> Option Int := fun x => if x = f then some v else kn x
def KnW (w : World) (bk nf : Nat) (kn : Nat -> Option Int) : Prop := nf <= 64 /\ ∃ (n : Nat) (D : DataW Unit), w.ownsMap Try.prog 3 (plainElem Try.prog 3) bk n D /\ n <= Xac kn nf /\ IsMap D /\
 ∀ f : Nat, f < nf -> has D (.int .i64 (f : Int)) = (kn f).isSome /\ ∀ v, kn f = some v -> ∀ z, D.atKey (.int .i64 (f : Int)) z = .lit (.int .i64 v)
theorem Yvg (kn : Nat -> Option Int) (nf : Nat) : Xac kn nf <= nf := by
 unfold Xac
 have := List.length_filter_le (fun f => (kn f).isSome) (List.range nf)
 rwa [List.length_range] at this
theorem Yan (w : World) {nf : Nat} (h : nf <= 64) : KnW (w.alloc (.map #[] 0)) w.heap.size nf fun _ => none :=
 ⟨h, 0, .map [], World.ownsMap_made _ _ _ _, Nat.zero_le _, ⟨[], rfl⟩, fun f _ => ⟨rfl, fun v hv => by cases hv⟩⟩
theorem Zcl {w w' : World} {bk nf : Nat} {kn : Nat -> Option Int} {r : Option Nat} (h : KnW w bk nf kn) (g : w.grownBy w' r) (hr : some bk ≠ r) : KnW w' bk nf kn := by
 obtain ⟨h0, n, D, h1, h2⟩ := h
 exact ⟨h0, n, D, h1.kept g hr, h2⟩
theorem Yyl {w : World} {bk nf : Nat} {kn : Nat -> Option Int} (h : KnW w bk nf kn) : bk < w.heap.size := by
 obtain ⟨_, n, D, h1, _⟩ := h
 exact h1.lt
theorem Zxm {a b : Int} (h : (DataW.lit (.int .i64 a) : DataW Unit) = .lit (.int .i64 b)) : a = b := by
 simpa only [DataW.lit.injEq, Lit.int.injEq, true_and] using h
theorem Ycr {D : DataW Unit} {k : Lit} (h : has D k = false) (z : DataW Unit) : D.atKey k z = z := atKey_of_not_has h z
theorem Yqn {w : World} {bk nf f : Nat} {kn : Nat -> Option Int} (h : KnW w bk nf kn) (hf : f < nf) :
 (Instr.lookup 143 (.map (some bk)) (.int .i64 f) true).run Try.prog w = .ok (.tuple #[.int .i64 ((kn f).getD 0), .bool (kn f).isSome]) w := by
 obtain ⟨h0, n, D, h1, h2, h3, h4⟩ := h
 obtain ⟨v, ps, hrun, hv⟩ := h1.look_ok Yul Try.underlying143 (Yym w) (plainElem_int Try.underlying3 (by decide)) (Zut (f := f) (by omega))
 obtain ⟨c, rfl, hc, _⟩ := plainElem_int_inv Try.underlying3 hv
 simp only [Prod.mk.injEq] at hc
 obtain ⟨h5, h6⟩ := h4 f hf
 rw [hrun, h5]
 cases hk : kn f with
 | none =>
   rw [hk] at h5
   have h7 := Ycr (by simpa using h5) (.lit (.int .i64 0))
   rw [h7] at hc
   have e := Zxm hc.1
   rw [<- e]; rfl
 | some v =>
   have h7 := h6 v hk (.lit (.int .i64 0))
   rw [h7] at hc
   have e := Zxm hc.1
   rw [<- e]; rfl
theorem Yqo {w : World} {bk nf f : Nat} {v : Int} {kn : Nat -> Option Int} (h : KnW w bk nf kn) (hf : f < nf) (hv : kn f = some v) :
 (Instr.lookup 143 (.map (some bk)) (.int .i64 f) false).run Try.prog w = .ok (.int .i64 v) w := by
 obtain ⟨h0, n, D, h1, h2, h3, h4⟩ := h
 obtain ⟨c, hrun, hc, _⟩ := h1.lookup_int Yul Try.underlying143 Try.underlying3 (Yym w) (Zut (f := f) (by omega))
 obtain ⟨h5, h6⟩ := h4 f hf
 rw [h6 v hv] at hc
 rw [hrun, <- Zxm hc]
theorem Yhr {w : World} {bk nf f : Nat} {v : Int} {kn : Nat -> Option Int} (h : KnW w bk nf kn) (hf : f < nf) (hn : kn f = none) (hv : -1000000000000000000 <= v /\ v <= 1000000000000000000) :
 ∃ w', (Instr.mapUpdate 143 (.map (some bk)) (.int .i64 f) (.int .i64 v)).run Try.prog w = .ok () w' /\ KnW w' bk nf (Ziv kn f v) /\ w.grownBy w' (some bk) := by
 obtain ⟨h0, n, D, h1, h2, h3, h4⟩ := h
 have hc := Yvg kn nf
 obtain ⟨w', hrun, h5, h6⟩ := h1.update Yul Try.underlying143 (by unfold maxLen; omega) (Zut (f := f) (by omega)) (plainElem_int Try.underlying3 (Yqm hv))
 refine ⟨w', hrun, ⟨h0, n + 1, _, h5, ?_, h3.put _ _, fun x hx => ?_⟩, h6⟩
 · have key : ∀ l : List Nat, l.Nodup -> f ∈ l -> (l.filter fun x => (Ziv kn f v x).isSome).length = (l.filter fun x => (kn x).isSome).length + 1 := by
    intro l
    induction l with
    | nil => intro _ h; cases h
    | cons x r ih =>
      intro hnd hm
      obtain ⟨n1, n2⟩ := List.nodup_cons.1 hnd
      by_cases e : x = f
      · subst e
        have hsame : (r.filter fun y => (Ziv kn x v y).isSome) = r.filter fun y => (kn y).isSome := by
         refine List.filter_congr fun y hy => ?_
         unfold Ziv
         rw [if_neg (fun e => n1 (by rw [<- e]; exact hy))]
        simp only [List.filter_cons, hsame]
        rw [if_pos (by simp [Ziv]), if_neg (by simp [hn])]
        rfl
      · have hm2 := (List.mem_cons.1 hm).resolve_left (fun h => e h.symm)
        have := ih n2 hm2
        simp only [List.filter_cons]
        have e2 : Ziv kn f v x = kn x := by unfold Ziv; rw [if_neg e]
        rw [e2]
        split
        · simp only [List.length_cons, this]
        · exact this
   unfold Xac at h2 ⊢
   rw [key _ List.nodup_range (List.mem_range.2 hf)]
   omega
 · obtain ⟨h7, h8⟩ := h4 x hx
   by_cases e : x = f
   · subst e
     refine ⟨?_, fun u hu z => ?_⟩
     · rw [has_put_same h3 (by trivial)]; simp [Ziv]
     · have : u = v := by simpa [Ziv] using hu.symm
       subst this
       exact atKey_put_same h3 (by trivial) _ _
   · have hne : (Lit.int .i64 (x : Int)) ≠ .int .i64 (f : Int) := fun h => by injection h with _ h; omega
     refine ⟨?_, fun u hu z => ?_⟩
     · rw [has_put_other hne, h7]; simp [Ziv, e]
     · rw [atKey_put_other hne]
       exact h8 u (by simpa [Ziv, e] using hu) z
theorem Zca {ops : Array Oper} {Q : Exit -> Act -> World -> Prop} {a : Act} {i : Nat} {w : World} {o : Oper} {K : Act -> World -> Prop} (ho : ops[i]? = some o) (hw : Region.wanted o (yielded ops a.tmps) = true) {f : FuncId} {args : Array Value} (hrun : (execOp a.eval o).run Try.prog w = .ok (.enter f args) w)
 (hc : Calls Try.prog f args w fun e w'' => ∃ v, e = .returned v /\ K (a.put o.dst v) w'') : wpOp Try.prog ops Q i K a w := by
 unfold wpOp
 simp only [ho]
 rw [if_pos hw]
 refine Or.inl ?_
 unfold Oper.wp
 rw [hrun]
 simp only [Oper.upon]
 refine hc.mono fun e w' he => ?_
 obtain ⟨v, rfl, hK⟩ := he
 exact hK
structure WX (c n : Nat) (D : List (Nat × Nat)) (W : World) (row : Option Nat) (P : World -> Prop) (l : Array Bool) (w : World) : Prop where
 sz : l.size = n
 h0 : l.getD c false = false -> w = W
 h1 : l.getD c false = true -> P w
 g : W.grownBy w row
 x : ∀ p ∈ D, l.getD p.1 false = true -> l.getD p.2 false = true
theorem Zlo (c n : Nat) (D : List (Nat × Nat)) (W : World) (row : Option Nat) (P : World -> Prop) : WX c n D W row P (Array.replicate n false) W :=
 ⟨by simp, fun _ => rfl, fun h => (by rw [getD_replicate_false] at h; cases h), Ze _ _, fun p _ h => (by rw [getD_replicate_false] at h; cases h)⟩
theorem Yzy {D : List (Nat × Nat)} {n i : Nat} {l : Array Bool} (hs : l.size = n) (hin : i < n) (hx : ∀ p ∈ D, l.getD p.1 false = true -> l.getD p.2 false = true) (hp : ∀ p ∈ D, p.1 = i -> l.getD p.2 false = true) :
 ∀ p ∈ D, (l.setIfInBounds i true).getD p.1 false = true -> (l.setIfInBounds i true).getD p.2 false = true := fun p hpD e => by
 rw [Zw l i _ (by omega)] at e ⊢
 by_cases h2 : p.2 = i
 · rw [if_pos h2]
 · rw [if_neg h2]
   by_cases h1 : p.1 = i
   · exact hp p hpD h1
   · rw [if_neg h1] at e; exact hx p hpD e
theorem Zs {c n i : Nat} {D : List (Nat × Nat)} {W w : World} {row : Option Nat} {P : World -> Prop} {l : Array Bool} (h : WX c n D W row P l w) (hi : i ≠ c) (hin : i < n) (hp : ∀ p ∈ D, p.1 = i -> l.getD p.2 false = true) : WX c n D W row P (l.setIfInBounds i true) w := by
 have hg : (l.setIfInBounds i true).getD c false = l.getD c false := by rw [Zw l i c (by rw [h.sz]; exact hin), if_neg (Ne.symm hi)]
 exact ⟨by simp [h.sz], fun e => h.h0 (by rw [<- hg]; exact e), fun e => h.h1 (by rw [<- hg]; exact e), h.g, Yzy h.sz hin h.x hp⟩
theorem Zqj {c n : Nat} {D : List (Nat × Nat)} {W w w' : World} {row : Option Nat} {P P' : World -> Prop} {l : Array Bool} (h : WX c n D W row P l w) (hin : c < n) (hp : ∀ p ∈ D, p.1 = c -> l.getD p.2 false = true) (hP : P' w') (g : W.grownBy w' row) : WX c n D W row P' (l.setIfInBounds c true) w' :=
 ⟨by simp [h.sz], fun e => (by rw [Zw l c c (by rw [h.sz]; exact hin), if_pos rfl] at e; cases e), fun _ => hP, g, Yzy h.sz hin h.x hp⟩
theorem Zp {D : List (Nat × Nat)} {i : Nat} {l : Array Bool} (h : i ∉ D.map Prod.fst) : ∀ p ∈ D, p.1 = i -> l.getD p.2 false = true := fun p hp e => absurd (List.mem_map.2 ⟨p, hp, e⟩) h
end Go.Proofs.Ytecaolkbllbokaa.CK
